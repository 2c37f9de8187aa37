/- IsSafeProgram: both sides. -/
import Derived.Test.YtkkmmfgncdfcfaaSpk
import Derived.Test.YtkkmmfgncdfcfaaSum
namespace Go.Proofs.Ytkkmmfgncdfcfaa
set_option linter.unusedSimpArgs false
set_option linter.unusedVariables false
open Go.RowKit
structure FrI (p : Prg) : Prop where
  len : p.code.length ≤ 700
  first : p.entries[0]? = some 2
  op0 : opA p 0 = 9
  op1 : opA p 1 = 17
  rise : ∀ (i : Nat) y z, p.entries[i]? = some y → p.entries[i + 1]? = some z → y < z
  last : p.entries[p.entries.length - 1]? = some (aA p 0)
noncomputable instance (p : Prg) : Decidable (FrI p) := Classical.propDecidable _
theorem FrI.two {p : Prg} (h : FrI p) : ∀ (b : Nat) (e : Int), p.entries[b]? = some e → 2 ≤ e
  | 0, e, he => by rw [h.first] at he; injection he with he; omega
  | b + 1, e, he => by
    have hb : b < p.entries.length := by have := (List.getElem?_eq_some_iff.1 he).1; omega
    have hm := List.getElem?_eq_getElem hb
    have := h.two b _ hm
    have := h.rise b _ e hm he
    omega
theorem FrI.frame {p : Prg} (h : FrI p) (hi : ∀ i : Nat, i < p.code.length → SafeI p i) : FrameP p := ⟨h.len, h.first, h.op0, h.op1, h.last, hi, h.rise⟩
theorem FrameP.frI {p : Prg} (h : FrameP p) : FrI p := ⟨h.len, h.first, h.op0, h.op1, h.rise, h.last⟩
theorem FrI.end_ge {p : Prg} (h : FrI p) (b : Nat) : 0 ≤ endA p b := by
  cases hz : p.entries[b + 1]? with
  | some z => rw [endA_next hz]; have := h.two _ z hz; omega
  | none => rw [endA_last hz]; omega
structure PrgB (p : Prg) : Prop where
  code : p.code.length ≤ 1048576
  ents : p.entries.length ≤ 1048576
  vals : ∀ z ∈ p.entries, I64 z
theorem endA_i64 {p : Prg} (hB : PrgB p) (b : Nat) : I64 (endA p b) := by
  have h1 := hB.code
  cases hz : p.entries[b + 1]? with
  | some z => rw [endA_next hz]; exact hB.vals z (List.mem_of_getElem? hz)
  | none => rw [endA_last hz]; unfold I64; omega
set_option maxHeartbeats 8000000 in
theorem safeFrame_ac (p : Prg) (hB : PrgB p) : ACv Try.prog 79 [prgR p] (.bool (decide (FrI p))) := by
  have hlm : (p.entries.map fun z => [RV.int z]).length = p.entries.length := List.length_map ..
  have hlc : (p.code.map insR).length = p.code.length := List.length_map ..
  have hb1 := hB.code
  have hb2 := hB.ents
  have o0 := opAt_ac p 0
  have o1 := opAt_ac p 1
  refine ac_enter Try.func79 rfl _ Try.ntmps79 (by simp) fun C hn hm => ?_
  by_cases h700 : (p.code.length : Int) ≤ 700
  · by_cases hne : p.entries.length = 0
    · have hn0 : ¬ FrI p := fun h => by have := (List.getElem?_eq_some_iff.1 h.first).1; omega
      repeat' (first
        | refine RunsL.step tabOk hn rfl ?_
        | refine RunsL.nil ?_
        | refine Runs.toRegion 30 rfl ?_
        | ((first | refine RunsL.pe hn rfl rfl rfl ?_ | refine RunsD.pe rfl rfl ?_); first
          | refine ⟨_, pu_callR o0 rfl, ?_⟩
          | refine ⟨_, pu_callR o1 rfl, ?_⟩)
        | (refine Runs.ctls 30 rfl ?_; first | refine Runs.cond_t rfl ?_ | refine Runs.cond_f rfl ?_ | ((first | refine Runs.cond_yes rfl ?_ ?_ | refine Runs.cond_nno rfl ?_ ?_); · first | omega | rfl | assumption | (simp only [List.length_map]; omega)) | ((first | refine Runs.cond_no rfl ?_ ?_ | refine Runs.cond_nyes rfl ?_ ?_); · first | omega | rfl | assumption | (simp only [List.length_map]; omega)) | refine Runs.cond_dec rfl (fun h => ?_) (fun h => ?_) | refine Runs.cond_ndec rfl (fun h => ?_) (fun h => ?_) | refine Runs.cond_nb rfl (fun h => ?_) (fun h => ?_) | refine Runs.cond_b rfl (fun h => ?_) (fun h => ?_) | refine Runs.ret (ends_ro hm rfl rfl ?_) | exact Runs.ret (ends_cellR hm rfl rfl rfl (Nat.le_of_ble_eq_true rfl) rfl rfl))
        | refine op_box rfl (tl hn rfl) ?_
        | refine op_storeF rfl rfl rfl rfl (Nat.le_of_ble_eq_true rfl) ?_
        | refine op_alloc (tl hn rfl) ?_
        | refine op_storeN rfl rfl rfl rfl (Nat.le_of_ble_eq_true rfl) ?_
        | refine RunsD.step tabOk hn rfl rfl ?_
        | refine RunsD.nil ?_
        | refine Runs.toDraw 30 mixed hn rfl (by kernel_rfl) rfl ?_
        | ((first | refine RunsL.pe hn rfl rfl rfl ?_ | refine RunsD.pe rfl rfl ?_); first
          | refine ⟨_, pu_add rfl rfl (by omega), ?_⟩
          | refine ⟨_, pu_indexAddr_map rfl rfl (by omega) (by assumption), ?_⟩
          | refine ⟨_, pu_sub rfl rfl (by omega), ?_⟩
          | refine ⟨_, pu_pick_b rfl rfl rfl, ?_⟩
          | refine ⟨_, pu_mul rfl rfl (by omega), ?_⟩
          | refine ⟨_, pu_build rfl rfl rfl rfl rfl rfl, ?_⟩)
        | ((first | refine RunsL.guard_dec rfl rfl rfl ?_ ?_ | refine RunsL.guard_ndec rfl rfl rfl ?_ ?_ | refine RunsL.guard_nb rfl rfl rfl ?_ ?_ | refine RunsL.guard_b rfl rfl rfl ?_ ?_ | refine RunsD.guard_dec rfl rfl rfl ?_ ?_ | refine RunsD.guard_ndec rfl rfl rfl ?_ ?_ | refine RunsD.guard_nb rfl rfl rfl ?_ ?_ | refine RunsD.guard_b rfl rfl rfl ?_ ?_) <;> intro h <;> try (exfalso; first | omega | contradiction | (simp only [List.length_map] at h; omega))))
      all_goals exact rr_bool (decide_eq_false hn0).symm
    · obtain ⟨z, hz⟩ : ∃ z, p.entries[(0 : Int).toNat]? = some z := ⟨_, List.getElem?_eq_getElem (by simp; omega)⟩
      have hz' : p.entries[0]? = some z := hz
      by_cases hg : z = 2 ∧ opA p 0 = 9 ∧ opA p 1 = 17
      · obtain ⟨g1, g2, g3⟩ := hg
        subst g1
        repeat' (first
          | refine RunsL.step tabOk hn rfl ?_
          | refine RunsL.nil ?_
          | refine Runs.toRegion 30 rfl ?_
          | ((first | refine RunsL.pe hn rfl rfl rfl ?_ | refine RunsD.pe rfl rfl ?_); first
            | refine ⟨_, pu_callR o0 rfl, ?_⟩
            | refine ⟨_, pu_callR o1 rfl, ?_⟩)
          | (refine Runs.ctls 30 rfl ?_; first | refine Runs.cond_t rfl ?_ | refine Runs.cond_f rfl ?_ | ((first | refine Runs.cond_yes rfl ?_ ?_ | refine Runs.cond_nno rfl ?_ ?_); · first | omega | rfl | assumption | (simp only [List.length_map]; omega)) | ((first | refine Runs.cond_no rfl ?_ ?_ | refine Runs.cond_nyes rfl ?_ ?_); · first | omega | rfl | assumption | (simp only [List.length_map]; omega)) | refine Runs.cond_dec rfl (fun h => ?_) (fun h => ?_) | refine Runs.cond_ndec rfl (fun h => ?_) (fun h => ?_) | refine Runs.cond_nb rfl (fun h => ?_) (fun h => ?_) | refine Runs.cond_b rfl (fun h => ?_) (fun h => ?_) | refine Runs.ret (ends_ro hm rfl rfl ?_) | exact Runs.ret (ends_cellR hm rfl rfl rfl (Nat.le_of_ble_eq_true rfl) rfl rfl))
          | refine op_box rfl (tl hn rfl) ?_
          | refine op_storeF rfl rfl rfl rfl (Nat.le_of_ble_eq_true rfl) ?_
          | refine op_alloc (tl hn rfl) ?_
          | refine op_storeN rfl rfl rfl rfl (Nat.le_of_ble_eq_true rfl) ?_
          | refine RunsD.step tabOk hn rfl rfl ?_
          | refine RunsD.nil ?_
          | refine Runs.toDraw 30 mixed hn rfl (by kernel_rfl) rfl ?_
          | ((first | refine RunsL.pe hn rfl rfl rfl ?_ | refine RunsD.pe rfl rfl ?_); first
            | refine ⟨_, pu_add rfl rfl (by omega), ?_⟩
            | refine ⟨_, pu_indexAddr_map rfl rfl (by omega) (by assumption), ?_⟩
            | refine ⟨_, pu_sub rfl rfl (by omega), ?_⟩
            | refine ⟨_, pu_pick_b rfl rfl rfl, ?_⟩
            | refine ⟨_, pu_mul rfl rfl (by omega), ?_⟩
            | refine ⟨_, pu_build rfl rfl rfl rfl rfl rfl, ?_⟩)
          | ((first | refine RunsL.guard_dec rfl rfl rfl ?_ ?_ | refine RunsL.guard_ndec rfl rfl rfl ?_ ?_ | refine RunsL.guard_nb rfl rfl rfl ?_ ?_ | refine RunsL.guard_b rfl rfl rfl ?_ ?_ | refine RunsD.guard_dec rfl rfl rfl ?_ ?_ | refine RunsD.guard_ndec rfl rfl rfl ?_ ?_ | refine RunsD.guard_nb rfl rfl rfl ?_ ?_ | refine RunsD.guard_b rfl rfl rfl ?_ ?_) <;> intro h <;> try (exfalso; first | omega | contradiction | (simp only [List.length_map] at h; omega))))
        refine Runs.loopN 30 rfl (fun j => [(1, .obj 0 0), (3, .int (j : Int))]) (fun _ => [⟨49, 0, [.ro (inssR p.code), .ro (intsR p.entries)]⟩]) (fun j => 1 ≤ j ∧ ∀ (i : Nat) y w, i + 1 < j → p.entries[i]? = some y → p.entries[i + 1]? = some w → y < w) p.entries.length 1 (by omega) ⟨Nat.le_refl _, fun i y w h => absurd h (by omega)⟩ ⟨rfl, rfl, trivial⟩ rfl fun j hj hQ next => ?_
        by_cases hlt : j < p.entries.length
        · obtain ⟨y, hy⟩ : ∃ y, p.entries[((j : Int) - 1).toNat]? = some y := ⟨_, List.getElem?_eq_getElem (by omega)⟩
          obtain ⟨w, hw⟩ : ∃ w, p.entries[(j : Int).toNat]? = some w := ⟨_, List.getElem?_eq_getElem hlt⟩
          have hw' : p.entries[j]? = some w := hw
          have hy' : p.entries[j - 1]? = some y := by rw [← hy]; congr 1; omega
          have hj1 := hQ.1
          repeat' (first
            | refine RunsL.step tabOk hn rfl ?_
            | refine RunsL.nil ?_
            | refine Runs.toRegion 30 rfl ?_
            | (refine Runs.ctls 30 rfl ?_; first | refine Runs.cond_t rfl ?_ | refine Runs.cond_f rfl ?_ | ((first | refine Runs.cond_yes rfl ?_ ?_ | refine Runs.cond_nno rfl ?_ ?_); · first | omega | rfl | assumption | (simp only [List.length_map]; omega)) | ((first | refine Runs.cond_no rfl ?_ ?_ | refine Runs.cond_nyes rfl ?_ ?_); · first | omega | rfl | assumption | (simp only [List.length_map]; omega)) | refine Runs.cond_dec rfl (fun h => ?_) (fun h => ?_) | refine Runs.cond_ndec rfl (fun h => ?_) (fun h => ?_) | refine Runs.cond_nb rfl (fun h => ?_) (fun h => ?_) | refine Runs.cond_b rfl (fun h => ?_) (fun h => ?_) | refine Runs.ret (ends_ro hm rfl rfl ?_) | exact Runs.ret (ends_cellR hm rfl rfl rfl (Nat.le_of_ble_eq_true rfl) rfl rfl))
            | refine op_box rfl (tl hn rfl) ?_
            | refine op_storeF rfl rfl rfl rfl (Nat.le_of_ble_eq_true rfl) ?_
            | refine op_alloc (tl hn rfl) ?_
            | refine op_storeN rfl rfl rfl rfl (Nat.le_of_ble_eq_true rfl) ?_
            | refine RunsD.step tabOk hn rfl rfl ?_
            | refine RunsD.nil ?_
            | refine Runs.toDraw 30 mixed hn rfl (by kernel_rfl) rfl ?_
            | ((first | refine RunsL.pe hn rfl rfl rfl ?_ | refine RunsD.pe rfl rfl ?_); first
              | refine ⟨_, pu_add rfl rfl (by omega), ?_⟩
              | refine ⟨_, pu_indexAddr_map rfl rfl (by omega) (by assumption), ?_⟩
              | refine ⟨_, pu_sub rfl rfl (by omega), ?_⟩
              | refine ⟨_, pu_pick_b rfl rfl rfl, ?_⟩
              | refine ⟨_, pu_mul rfl rfl (by omega), ?_⟩
              | refine ⟨_, pu_build rfl rfl rfl rfl rfl rfl, ?_⟩)
            | ((first | refine RunsL.guard_dec rfl rfl rfl ?_ ?_ | refine RunsL.guard_ndec rfl rfl rfl ?_ ?_ | refine RunsL.guard_nb rfl rfl rfl ?_ ?_ | refine RunsL.guard_b rfl rfl rfl ?_ ?_ | refine RunsD.guard_dec rfl rfl rfl ?_ ?_ | refine RunsD.guard_ndec rfl rfl rfl ?_ ?_ | refine RunsD.guard_nb rfl rfl rfl ?_ ?_ | refine RunsD.guard_b rfl rfl rfl ?_ ?_) <;> intro h <;> try (exfalso; first | omega | contradiction | (simp only [List.length_map] at h; omega))))
          · exact rr_bool (decide_eq_false (p := FrI p) fun hN => by have := hN.rise (j - 1) y w hy' (by rwa [show j - 1 + 1 = j by omega]); omega).symm
          · refine next _ _ ⟨rfl, rfl, trivial⟩ hlt ⟨by omega, fun i a b hi ha hb => ?_⟩ rfl
            by_cases e : i = j - 1
            · subst e
              rw [hy'] at ha; injection ha with ha
              rw [show j - 1 + 1 = j by omega, hw'] at hb; injection hb with hb
              omega
            · exact hQ.2 i a b (by omega) ha hb
        · obtain ⟨x, hx⟩ := idx_get (opA_in (p := p) (i := 0) (by rw [g2]; decide))
          obtain ⟨l, hl⟩ : ∃ l, p.entries[((p.entries.length : Int) - 1).toNat]? = some l := ⟨_, List.getElem?_eq_getElem (by omega)⟩
          have hl2 : p.entries[(((p.entries.map fun z => [RV.int z]).length : Int) - 1).toNat]? = some l := by rw [hlm]; exact hl
          have hl' : p.entries[p.entries.length - 1]? = some l := by rw [← hl]; congr 1; omega
          have ha := aA_at (Int.le_refl 0) hx
          repeat' (first
            | refine RunsL.step tabOk hn rfl ?_
            | refine RunsL.nil ?_
            | refine Runs.toRegion 30 rfl ?_
            | (refine Runs.ctls 30 rfl ?_; first | refine Runs.cond_t rfl ?_ | refine Runs.cond_f rfl ?_ | ((first | refine Runs.cond_yes rfl ?_ ?_ | refine Runs.cond_nno rfl ?_ ?_); · first | omega | rfl | assumption | (simp only [List.length_map]; omega)) | ((first | refine Runs.cond_no rfl ?_ ?_ | refine Runs.cond_nyes rfl ?_ ?_); · first | omega | rfl | assumption | (simp only [List.length_map]; omega)) | refine Runs.cond_dec rfl (fun h => ?_) (fun h => ?_) | refine Runs.cond_ndec rfl (fun h => ?_) (fun h => ?_) | refine Runs.cond_nb rfl (fun h => ?_) (fun h => ?_) | refine Runs.cond_b rfl (fun h => ?_) (fun h => ?_) | refine Runs.ret (ends_ro hm rfl rfl ?_) | exact Runs.ret (ends_cellR hm rfl rfl rfl (Nat.le_of_ble_eq_true rfl) rfl rfl))
            | refine op_box rfl (tl hn rfl) ?_
            | refine op_storeF rfl rfl rfl rfl (Nat.le_of_ble_eq_true rfl) ?_
            | refine op_alloc (tl hn rfl) ?_
            | refine op_storeN rfl rfl rfl rfl (Nat.le_of_ble_eq_true rfl) ?_
            | refine RunsD.step tabOk hn rfl rfl ?_
            | refine RunsD.nil ?_
            | refine Runs.toDraw 30 mixed hn rfl (by kernel_rfl) rfl ?_
            | ((first | refine RunsL.pe hn rfl rfl rfl ?_ | refine RunsD.pe rfl rfl ?_); first
              | refine ⟨_, pu_add rfl rfl (by omega), ?_⟩
              | refine ⟨_, pu_indexAddr_map rfl rfl (by omega) (by assumption), ?_⟩
              | refine ⟨_, pu_sub rfl rfl (by omega), ?_⟩
              | refine ⟨_, pu_pick_b rfl rfl rfl, ?_⟩
              | refine ⟨_, pu_mul rfl rfl (by omega), ?_⟩
              | refine ⟨_, pu_build rfl rfl rfl rfl rfl rfl, ?_⟩)
            | ((first | refine RunsL.guard_dec rfl rfl rfl ?_ ?_ | refine RunsL.guard_ndec rfl rfl rfl ?_ ?_ | refine RunsL.guard_nb rfl rfl rfl ?_ ?_ | refine RunsL.guard_b rfl rfl rfl ?_ ?_ | refine RunsD.guard_dec rfl rfl rfl ?_ ?_ | refine RunsD.guard_ndec rfl rfl rfl ?_ ?_ | refine RunsD.guard_nb rfl rfl rfl ?_ ?_ | refine RunsD.guard_b rfl rfl rfl ?_ ?_) <;> intro h <;> try (exfalso; first | omega | contradiction | (simp only [List.length_map] at h; omega))))
          all_goals exact rr_bool (decide_eq_decide.2 ⟨fun h => ⟨by omega, hz', g2, g3, fun i y w hy hw => hQ.2 i y w (by have := (List.getElem?_eq_some_iff.1 hw).1; omega) hy hw, by rw [hl', ha, h]⟩, fun h => by have := h.last; rw [hl', ha] at this; injection this with this; omega⟩)
      · have hn0 : ¬ FrI p := fun h => hg ⟨by have := h.first; rw [hz'] at this; injection this, h.op0, h.op1⟩
        by_cases g1 : z = 2
        · by_cases g2 : opA p 0 = 9
          · have g3 : ¬ opA p 1 = 17 := fun h => hg ⟨g1, g2, h⟩
            repeat' (first
              | refine RunsL.step tabOk hn rfl ?_
              | refine RunsL.nil ?_
              | refine Runs.toRegion 30 rfl ?_
              | ((first | refine RunsL.pe hn rfl rfl rfl ?_ | refine RunsD.pe rfl rfl ?_); first
                | refine ⟨_, pu_callR o0 rfl, ?_⟩
                | refine ⟨_, pu_callR o1 rfl, ?_⟩)
              | (refine Runs.ctls 30 rfl ?_; first | refine Runs.cond_t rfl ?_ | refine Runs.cond_f rfl ?_ | ((first | refine Runs.cond_yes rfl ?_ ?_ | refine Runs.cond_nno rfl ?_ ?_); · first | omega | rfl | assumption | (simp only [List.length_map]; omega)) | ((first | refine Runs.cond_no rfl ?_ ?_ | refine Runs.cond_nyes rfl ?_ ?_); · first | omega | rfl | assumption | (simp only [List.length_map]; omega)) | refine Runs.cond_dec rfl (fun h => ?_) (fun h => ?_) | refine Runs.cond_ndec rfl (fun h => ?_) (fun h => ?_) | refine Runs.cond_nb rfl (fun h => ?_) (fun h => ?_) | refine Runs.cond_b rfl (fun h => ?_) (fun h => ?_) | refine Runs.ret (ends_ro hm rfl rfl ?_) | exact Runs.ret (ends_cellR hm rfl rfl rfl (Nat.le_of_ble_eq_true rfl) rfl rfl))
              | refine op_box rfl (tl hn rfl) ?_
              | refine op_storeF rfl rfl rfl rfl (Nat.le_of_ble_eq_true rfl) ?_
              | refine op_alloc (tl hn rfl) ?_
              | refine op_storeN rfl rfl rfl rfl (Nat.le_of_ble_eq_true rfl) ?_
              | refine RunsD.step tabOk hn rfl rfl ?_
              | refine RunsD.nil ?_
              | refine Runs.toDraw 30 mixed hn rfl (by kernel_rfl) rfl ?_
              | ((first | refine RunsL.pe hn rfl rfl rfl ?_ | refine RunsD.pe rfl rfl ?_); first
                | refine ⟨_, pu_add rfl rfl (by omega), ?_⟩
                | refine ⟨_, pu_indexAddr_map rfl rfl (by omega) (by assumption), ?_⟩
                | refine ⟨_, pu_sub rfl rfl (by omega), ?_⟩
                | refine ⟨_, pu_pick_b rfl rfl rfl, ?_⟩
                | refine ⟨_, pu_mul rfl rfl (by omega), ?_⟩
                | refine ⟨_, pu_build rfl rfl rfl rfl rfl rfl, ?_⟩)
              | ((first | refine RunsL.guard_dec rfl rfl rfl ?_ ?_ | refine RunsL.guard_ndec rfl rfl rfl ?_ ?_ | refine RunsL.guard_nb rfl rfl rfl ?_ ?_ | refine RunsL.guard_b rfl rfl rfl ?_ ?_ | refine RunsD.guard_dec rfl rfl rfl ?_ ?_ | refine RunsD.guard_ndec rfl rfl rfl ?_ ?_ | refine RunsD.guard_nb rfl rfl rfl ?_ ?_ | refine RunsD.guard_b rfl rfl rfl ?_ ?_) <;> intro h <;> try (exfalso; first | omega | contradiction | (simp only [List.length_map] at h; omega))))
            all_goals exact rr_bool (decide_eq_false hn0).symm
          · repeat' (first
            | refine RunsL.step tabOk hn rfl ?_
            | refine RunsL.nil ?_
            | refine Runs.toRegion 30 rfl ?_
            | ((first | refine RunsL.pe hn rfl rfl rfl ?_ | refine RunsD.pe rfl rfl ?_); first
              | refine ⟨_, pu_callR o0 rfl, ?_⟩
              | refine ⟨_, pu_callR o1 rfl, ?_⟩)
            | (refine Runs.ctls 30 rfl ?_; first | refine Runs.cond_t rfl ?_ | refine Runs.cond_f rfl ?_ | ((first | refine Runs.cond_yes rfl ?_ ?_ | refine Runs.cond_nno rfl ?_ ?_); · first | omega | rfl | assumption | (simp only [List.length_map]; omega)) | ((first | refine Runs.cond_no rfl ?_ ?_ | refine Runs.cond_nyes rfl ?_ ?_); · first | omega | rfl | assumption | (simp only [List.length_map]; omega)) | refine Runs.cond_dec rfl (fun h => ?_) (fun h => ?_) | refine Runs.cond_ndec rfl (fun h => ?_) (fun h => ?_) | refine Runs.cond_nb rfl (fun h => ?_) (fun h => ?_) | refine Runs.cond_b rfl (fun h => ?_) (fun h => ?_) | refine Runs.ret (ends_ro hm rfl rfl ?_) | exact Runs.ret (ends_cellR hm rfl rfl rfl (Nat.le_of_ble_eq_true rfl) rfl rfl))
            | refine op_box rfl (tl hn rfl) ?_
            | refine op_storeF rfl rfl rfl rfl (Nat.le_of_ble_eq_true rfl) ?_
            | refine op_alloc (tl hn rfl) ?_
            | refine op_storeN rfl rfl rfl rfl (Nat.le_of_ble_eq_true rfl) ?_
            | refine RunsD.step tabOk hn rfl rfl ?_
            | refine RunsD.nil ?_
            | refine Runs.toDraw 30 mixed hn rfl (by kernel_rfl) rfl ?_
            | ((first | refine RunsL.pe hn rfl rfl rfl ?_ | refine RunsD.pe rfl rfl ?_); first
              | refine ⟨_, pu_add rfl rfl (by omega), ?_⟩
              | refine ⟨_, pu_indexAddr_map rfl rfl (by omega) (by assumption), ?_⟩
              | refine ⟨_, pu_sub rfl rfl (by omega), ?_⟩
              | refine ⟨_, pu_pick_b rfl rfl rfl, ?_⟩
              | refine ⟨_, pu_mul rfl rfl (by omega), ?_⟩
              | refine ⟨_, pu_build rfl rfl rfl rfl rfl rfl, ?_⟩)
            | ((first | refine RunsL.guard_dec rfl rfl rfl ?_ ?_ | refine RunsL.guard_ndec rfl rfl rfl ?_ ?_ | refine RunsL.guard_nb rfl rfl rfl ?_ ?_ | refine RunsL.guard_b rfl rfl rfl ?_ ?_ | refine RunsD.guard_dec rfl rfl rfl ?_ ?_ | refine RunsD.guard_ndec rfl rfl rfl ?_ ?_ | refine RunsD.guard_nb rfl rfl rfl ?_ ?_ | refine RunsD.guard_b rfl rfl rfl ?_ ?_) <;> intro h <;> try (exfalso; first | omega | contradiction | (simp only [List.length_map] at h; omega))))
            all_goals exact rr_bool (decide_eq_false hn0).symm
        · repeat' (first
          | refine RunsL.step tabOk hn rfl ?_
          | refine RunsL.nil ?_
          | refine Runs.toRegion 30 rfl ?_
          | ((first | refine RunsL.pe hn rfl rfl rfl ?_ | refine RunsD.pe rfl rfl ?_); first
            | refine ⟨_, pu_callR o0 rfl, ?_⟩
            | refine ⟨_, pu_callR o1 rfl, ?_⟩)
          | (refine Runs.ctls 30 rfl ?_; first | refine Runs.cond_t rfl ?_ | refine Runs.cond_f rfl ?_ | ((first | refine Runs.cond_yes rfl ?_ ?_ | refine Runs.cond_nno rfl ?_ ?_); · first | omega | rfl | assumption | (simp only [List.length_map]; omega)) | ((first | refine Runs.cond_no rfl ?_ ?_ | refine Runs.cond_nyes rfl ?_ ?_); · first | omega | rfl | assumption | (simp only [List.length_map]; omega)) | refine Runs.cond_dec rfl (fun h => ?_) (fun h => ?_) | refine Runs.cond_ndec rfl (fun h => ?_) (fun h => ?_) | refine Runs.cond_nb rfl (fun h => ?_) (fun h => ?_) | refine Runs.cond_b rfl (fun h => ?_) (fun h => ?_) | refine Runs.ret (ends_ro hm rfl rfl ?_) | exact Runs.ret (ends_cellR hm rfl rfl rfl (Nat.le_of_ble_eq_true rfl) rfl rfl))
          | refine op_box rfl (tl hn rfl) ?_
          | refine op_storeF rfl rfl rfl rfl (Nat.le_of_ble_eq_true rfl) ?_
          | refine op_alloc (tl hn rfl) ?_
          | refine op_storeN rfl rfl rfl rfl (Nat.le_of_ble_eq_true rfl) ?_
          | refine RunsD.step tabOk hn rfl rfl ?_
          | refine RunsD.nil ?_
          | refine Runs.toDraw 30 mixed hn rfl (by kernel_rfl) rfl ?_
          | ((first | refine RunsL.pe hn rfl rfl rfl ?_ | refine RunsD.pe rfl rfl ?_); first
            | refine ⟨_, pu_add rfl rfl (by omega), ?_⟩
            | refine ⟨_, pu_indexAddr_map rfl rfl (by omega) (by assumption), ?_⟩
            | refine ⟨_, pu_sub rfl rfl (by omega), ?_⟩
            | refine ⟨_, pu_pick_b rfl rfl rfl, ?_⟩
            | refine ⟨_, pu_mul rfl rfl (by omega), ?_⟩
            | refine ⟨_, pu_build rfl rfl rfl rfl rfl rfl, ?_⟩)
          | ((first | refine RunsL.guard_dec rfl rfl rfl ?_ ?_ | refine RunsL.guard_ndec rfl rfl rfl ?_ ?_ | refine RunsL.guard_nb rfl rfl rfl ?_ ?_ | refine RunsL.guard_b rfl rfl rfl ?_ ?_ | refine RunsD.guard_dec rfl rfl rfl ?_ ?_ | refine RunsD.guard_ndec rfl rfl rfl ?_ ?_ | refine RunsD.guard_nb rfl rfl rfl ?_ ?_ | refine RunsD.guard_b rfl rfl rfl ?_ ?_) <;> intro h <;> try (exfalso; first | omega | contradiction | (simp only [List.length_map] at h; omega))))
          all_goals exact rr_bool (decide_eq_false hn0).symm
  · have hn0 : ¬ FrI p := fun h => by have := h.len; omega
    repeat' (first
      | refine RunsL.step tabOk hn rfl ?_
      | refine RunsL.nil ?_
      | refine Runs.toRegion 30 rfl ?_
      | ((first | refine RunsL.pe hn rfl rfl rfl ?_ | refine RunsD.pe rfl rfl ?_); first
        | refine ⟨_, pu_callR o0 rfl, ?_⟩
        | refine ⟨_, pu_callR o1 rfl, ?_⟩)
      | (refine Runs.ctls 30 rfl ?_; first | refine Runs.cond_t rfl ?_ | refine Runs.cond_f rfl ?_ | ((first | refine Runs.cond_yes rfl ?_ ?_ | refine Runs.cond_nno rfl ?_ ?_); · first | omega | rfl | assumption | (simp only [List.length_map]; omega)) | ((first | refine Runs.cond_no rfl ?_ ?_ | refine Runs.cond_nyes rfl ?_ ?_); · first | omega | rfl | assumption | (simp only [List.length_map]; omega)) | refine Runs.cond_dec rfl (fun h => ?_) (fun h => ?_) | refine Runs.cond_ndec rfl (fun h => ?_) (fun h => ?_) | refine Runs.cond_nb rfl (fun h => ?_) (fun h => ?_) | refine Runs.cond_b rfl (fun h => ?_) (fun h => ?_) | refine Runs.ret (ends_ro hm rfl rfl ?_) | exact Runs.ret (ends_cellR hm rfl rfl rfl (Nat.le_of_ble_eq_true rfl) rfl rfl))
      | refine op_box rfl (tl hn rfl) ?_
      | refine op_storeF rfl rfl rfl rfl (Nat.le_of_ble_eq_true rfl) ?_
      | refine op_alloc (tl hn rfl) ?_
      | refine op_storeN rfl rfl rfl rfl (Nat.le_of_ble_eq_true rfl) ?_
      | refine RunsD.step tabOk hn rfl rfl ?_
      | refine RunsD.nil ?_
      | refine Runs.toDraw 30 mixed hn rfl (by kernel_rfl) rfl ?_
      | ((first | refine RunsL.pe hn rfl rfl rfl ?_ | refine RunsD.pe rfl rfl ?_); first
        | refine ⟨_, pu_add rfl rfl (by omega), ?_⟩
        | refine ⟨_, pu_indexAddr_map rfl rfl (by omega) (by assumption), ?_⟩
        | refine ⟨_, pu_sub rfl rfl (by omega), ?_⟩
        | refine ⟨_, pu_pick_b rfl rfl rfl, ?_⟩
        | refine ⟨_, pu_mul rfl rfl (by omega), ?_⟩
        | refine ⟨_, pu_build rfl rfl rfl rfl rfl rfl, ?_⟩)
      | ((first | refine RunsL.guard_dec rfl rfl rfl ?_ ?_ | refine RunsL.guard_ndec rfl rfl rfl ?_ ?_ | refine RunsL.guard_nb rfl rfl rfl ?_ ?_ | refine RunsL.guard_b rfl rfl rfl ?_ ?_ | refine RunsD.guard_dec rfl rfl rfl ?_ ?_ | refine RunsD.guard_ndec rfl rfl rfl ?_ ?_ | refine RunsD.guard_nb rfl rfl rfl ?_ ?_ | refine RunsD.guard_b rfl rfl rfl ?_ ?_) <;> intro h <;> try (exfalso; first | omega | contradiction | (simp only [List.length_map] at h; omega))))
    all_goals exact rr_bool (decide_eq_false hn0).symm
set_option maxHeartbeats 16000000 in
theorem impl_IsSafeProgram (p : Prg) (hB : PrgB p) : ACv Try.prog 45 [prgR p] (.bool (decide (SafeP p))) := by
  have hlm : (p.entries.map fun z => [RV.int z]).length = p.entries.length := List.length_map ..
  have hlc : (p.code.map insR).length = p.code.length := List.length_map ..
  have hb1 := hB.code
  have hb2 := hB.ents
  have hel : p.entries.length ≤ maxLen := by unfold maxLen; omega
  have hcl : p.code.length ≤ maxLen := by unfold maxLen; omega
  have hf := safeFrame_ac p hB
  refine ac_enter Try.func45 rfl _ Try.ntmps45 (by simp) fun C hn hm => ?_
  by_cases hF : FrI p
  · have h700 := hF.len
    repeat' (first
      | refine RunsL.step tabOk hn rfl ?_
      | refine RunsL.nil ?_
      | refine Runs.toRegion 30 rfl ?_
      | ((first | refine RunsL.pe hn rfl rfl rfl ?_ | refine RunsD.pe rfl rfl ?_); first
        | refine ⟨_, pu_callR hf rfl, ?_⟩)
      | (refine Runs.ctls 30 rfl ?_; first | refine Runs.cond_t rfl ?_ | refine Runs.cond_f rfl ?_ | ((first | refine Runs.cond_yes rfl ?_ ?_ | refine Runs.cond_nno rfl ?_ ?_); · first | omega | rfl | assumption | (simp only [List.length_map]; omega)) | ((first | refine Runs.cond_no rfl ?_ ?_ | refine Runs.cond_nyes rfl ?_ ?_); · first | omega | rfl | assumption | (simp only [List.length_map]; omega)) | refine Runs.cond_dec rfl (fun h => ?_) (fun h => ?_) | refine Runs.cond_ndec rfl (fun h => ?_) (fun h => ?_) | refine Runs.cond_nb rfl (fun h => ?_) (fun h => ?_) | refine Runs.cond_b rfl (fun h => ?_) (fun h => ?_) | refine Runs.ret (ends_ro hm rfl rfl ?_) | exact Runs.ret (ends_cellR hm rfl rfl rfl (Nat.le_of_ble_eq_true rfl) rfl rfl))
      | refine op_box rfl (tl hn rfl) ?_
      | refine op_storeF rfl rfl rfl rfl (Nat.le_of_ble_eq_true rfl) ?_
      | refine op_alloc (tl hn rfl) ?_
      | refine op_storeN rfl rfl rfl rfl (Nat.le_of_ble_eq_true rfl) ?_
      | refine RunsD.step tabOk hn rfl rfl ?_
      | refine RunsD.nil ?_
      | refine Runs.toDraw 30 mixed hn rfl (by kernel_rfl) rfl ?_
      | ((first | refine RunsL.pe hn rfl rfl rfl ?_ | refine RunsD.pe rfl rfl ?_); first
        | refine ⟨_, pu_add rfl rfl (by omega), ?_⟩
        | refine ⟨_, pu_indexAddr_map rfl rfl (by omega) (by assumption), ?_⟩
        | refine ⟨_, pu_sub rfl rfl (by omega), ?_⟩
        | refine ⟨_, pu_pick_b rfl rfl rfl, ?_⟩
        | refine ⟨_, pu_mul rfl rfl (by omega), ?_⟩
        | refine ⟨_, pu_build rfl rfl rfl rfl rfl rfl, ?_⟩)
      | ((first | refine RunsL.guard_dec rfl rfl rfl ?_ ?_ | refine RunsL.guard_ndec rfl rfl rfl ?_ ?_ | refine RunsL.guard_nb rfl rfl rfl ?_ ?_ | refine RunsL.guard_b rfl rfl rfl ?_ ?_ | refine RunsD.guard_dec rfl rfl rfl ?_ ?_ | refine RunsD.guard_ndec rfl rfl rfl ?_ ?_ | refine RunsD.guard_nb rfl rfl rfl ?_ ?_ | refine RunsD.guard_b rfl rfl rfl ?_ ?_) <;> intro h <;> try (exfalso; first | omega | contradiction | (simp only [List.length_map] at h; omega))))
    refine Runs.loopN 30 rfl (fun j => [(1, .obj 0 0), (13, .int (p.code.length : Int)), (14, .int (j : Int))]) (fun _ => [⟨49, 0, [.ro (inssR p.code), .ro (intsR p.entries)]⟩]) (fun j => ∀ i : Nat, i < j → SafeI p i) p.code.length 0 (Nat.zero_le _) (fun i h => absurd h (by omega)) ⟨rfl, by simp only [look]; exact congrArg (fun z : Nat => AV.int (z : Int)) hlc, rfl, trivial⟩ rfl fun j hj hQ next => ?_
    by_cases hlt : j < p.code.length
    · have hi := impl_IsSafeInstruction p j (by unfold I64; omega) hcl
      by_cases hs : SafeI p (j : Int)
      · repeat' (first
        | refine RunsL.step tabOk hn rfl ?_
        | refine RunsL.nil ?_
        | refine Runs.toRegion 30 rfl ?_
        | ((first | refine RunsL.pe hn rfl rfl rfl ?_ | refine RunsD.pe rfl rfl ?_); first
          | refine ⟨_, pu_callR hi rfl, ?_⟩)
        | (refine Runs.ctls 30 rfl ?_; first | refine Runs.cond_t rfl ?_ | refine Runs.cond_f rfl ?_ | ((first | refine Runs.cond_yes rfl ?_ ?_ | refine Runs.cond_nno rfl ?_ ?_); · first | omega | rfl | assumption | (simp only [List.length_map]; omega)) | ((first | refine Runs.cond_no rfl ?_ ?_ | refine Runs.cond_nyes rfl ?_ ?_); · first | omega | rfl | assumption | (simp only [List.length_map]; omega)) | refine Runs.cond_dec rfl (fun h => ?_) (fun h => ?_) | refine Runs.cond_ndec rfl (fun h => ?_) (fun h => ?_) | refine Runs.cond_nb rfl (fun h => ?_) (fun h => ?_) | refine Runs.cond_b rfl (fun h => ?_) (fun h => ?_) | refine Runs.ret (ends_ro hm rfl rfl ?_) | exact Runs.ret (ends_cellR hm rfl rfl rfl (Nat.le_of_ble_eq_true rfl) rfl rfl))
        | refine op_box rfl (tl hn rfl) ?_
        | refine op_storeF rfl rfl rfl rfl (Nat.le_of_ble_eq_true rfl) ?_
        | refine op_alloc (tl hn rfl) ?_
        | refine op_storeN rfl rfl rfl rfl (Nat.le_of_ble_eq_true rfl) ?_
        | refine RunsD.step tabOk hn rfl rfl ?_
        | refine RunsD.nil ?_
        | refine Runs.toDraw 30 mixed hn rfl (by kernel_rfl) rfl ?_
        | ((first | refine RunsL.pe hn rfl rfl rfl ?_ | refine RunsD.pe rfl rfl ?_); first
          | refine ⟨_, pu_add rfl rfl (by omega), ?_⟩
          | refine ⟨_, pu_indexAddr_map rfl rfl (by omega) (by assumption), ?_⟩
          | refine ⟨_, pu_sub rfl rfl (by omega), ?_⟩
          | refine ⟨_, pu_pick_b rfl rfl rfl, ?_⟩
          | refine ⟨_, pu_mul rfl rfl (by omega), ?_⟩
          | refine ⟨_, pu_build rfl rfl rfl rfl rfl rfl, ?_⟩)
        | ((first | refine RunsL.guard_dec rfl rfl rfl ?_ ?_ | refine RunsL.guard_ndec rfl rfl rfl ?_ ?_ | refine RunsL.guard_nb rfl rfl rfl ?_ ?_ | refine RunsL.guard_b rfl rfl rfl ?_ ?_ | refine RunsD.guard_dec rfl rfl rfl ?_ ?_ | refine RunsD.guard_ndec rfl rfl rfl ?_ ?_ | refine RunsD.guard_nb rfl rfl rfl ?_ ?_ | refine RunsD.guard_b rfl rfl rfl ?_ ?_) <;> intro h <;> try (exfalso; first | omega | contradiction | (simp only [List.length_map] at h; omega))))
        refine next _ _ ⟨rfl, rfl, rfl, trivial⟩ hlt (fun i hi => ?_) rfl
        by_cases e : i = j
        · subst e; exact hs
        · exact hQ i (by omega)
      · repeat' (first
        | refine RunsL.step tabOk hn rfl ?_
        | refine RunsL.nil ?_
        | refine Runs.toRegion 30 rfl ?_
        | ((first | refine RunsL.pe hn rfl rfl rfl ?_ | refine RunsD.pe rfl rfl ?_); first
          | refine ⟨_, pu_callR hi rfl, ?_⟩)
        | (refine Runs.ctls 30 rfl ?_; first | refine Runs.cond_t rfl ?_ | refine Runs.cond_f rfl ?_ | ((first | refine Runs.cond_yes rfl ?_ ?_ | refine Runs.cond_nno rfl ?_ ?_); · first | omega | rfl | assumption | (simp only [List.length_map]; omega)) | ((first | refine Runs.cond_no rfl ?_ ?_ | refine Runs.cond_nyes rfl ?_ ?_); · first | omega | rfl | assumption | (simp only [List.length_map]; omega)) | refine Runs.cond_dec rfl (fun h => ?_) (fun h => ?_) | refine Runs.cond_ndec rfl (fun h => ?_) (fun h => ?_) | refine Runs.cond_nb rfl (fun h => ?_) (fun h => ?_) | refine Runs.cond_b rfl (fun h => ?_) (fun h => ?_) | refine Runs.ret (ends_ro hm rfl rfl ?_) | exact Runs.ret (ends_cellR hm rfl rfl rfl (Nat.le_of_ble_eq_true rfl) rfl rfl))
        | refine op_box rfl (tl hn rfl) ?_
        | refine op_storeF rfl rfl rfl rfl (Nat.le_of_ble_eq_true rfl) ?_
        | refine op_alloc (tl hn rfl) ?_
        | refine op_storeN rfl rfl rfl rfl (Nat.le_of_ble_eq_true rfl) ?_
        | refine RunsD.step tabOk hn rfl rfl ?_
        | refine RunsD.nil ?_
        | refine Runs.toDraw 30 mixed hn rfl (by kernel_rfl) rfl ?_
        | ((first | refine RunsL.pe hn rfl rfl rfl ?_ | refine RunsD.pe rfl rfl ?_); first
          | refine ⟨_, pu_add rfl rfl (by omega), ?_⟩
          | refine ⟨_, pu_indexAddr_map rfl rfl (by omega) (by assumption), ?_⟩
          | refine ⟨_, pu_sub rfl rfl (by omega), ?_⟩
          | refine ⟨_, pu_pick_b rfl rfl rfl, ?_⟩
          | refine ⟨_, pu_mul rfl rfl (by omega), ?_⟩
          | refine ⟨_, pu_build rfl rfl rfl rfl rfl rfl, ?_⟩)
        | ((first | refine RunsL.guard_dec rfl rfl rfl ?_ ?_ | refine RunsL.guard_ndec rfl rfl rfl ?_ ?_ | refine RunsL.guard_nb rfl rfl rfl ?_ ?_ | refine RunsL.guard_b rfl rfl rfl ?_ ?_ | refine RunsD.guard_dec rfl rfl rfl ?_ ?_ | refine RunsD.guard_ndec rfl rfl rfl ?_ ?_ | refine RunsD.guard_nb rfl rfl rfl ?_ ?_ | refine RunsD.guard_b rfl rfl rfl ?_ ?_) <;> intro h <;> try (exfalso; first | omega | contradiction | (simp only [List.length_map] at h; omega))))
        all_goals exact rr_bool (decide_eq_false (p := SafeP p) fun hN => hs (hN.1.ins j hlt)).symm
    · obtain rfl : j = p.code.length := by omega
      have hFr := hF.frame hQ
      repeat' (first
        | refine RunsL.step tabOk hn rfl ?_
        | refine RunsL.nil ?_
        | refine Runs.toRegion 30 rfl ?_
        | (refine Runs.ctls 30 rfl ?_; first | refine Runs.cond_t rfl ?_ | refine Runs.cond_f rfl ?_ | ((first | refine Runs.cond_yes rfl ?_ ?_ | refine Runs.cond_nno rfl ?_ ?_); · first | omega | rfl | assumption | (simp only [List.length_map]; omega)) | ((first | refine Runs.cond_no rfl ?_ ?_ | refine Runs.cond_nyes rfl ?_ ?_); · first | omega | rfl | assumption | (simp only [List.length_map]; omega)) | refine Runs.cond_dec rfl (fun h => ?_) (fun h => ?_) | refine Runs.cond_ndec rfl (fun h => ?_) (fun h => ?_) | refine Runs.cond_nb rfl (fun h => ?_) (fun h => ?_) | refine Runs.cond_b rfl (fun h => ?_) (fun h => ?_) | refine Runs.ret (ends_ro hm rfl rfl ?_) | exact Runs.ret (ends_cellR hm rfl rfl rfl (Nat.le_of_ble_eq_true rfl) rfl rfl))
        | refine op_box rfl (tl hn rfl) ?_
        | refine op_storeF rfl rfl rfl rfl (Nat.le_of_ble_eq_true rfl) ?_
        | refine op_alloc (tl hn rfl) ?_
        | refine op_storeN rfl rfl rfl rfl (Nat.le_of_ble_eq_true rfl) ?_
        | refine RunsD.step tabOk hn rfl rfl ?_
        | refine RunsD.nil ?_
        | refine Runs.toDraw 30 mixed hn rfl (by kernel_rfl) rfl ?_
        | ((first | refine RunsL.pe hn rfl rfl rfl ?_ | refine RunsD.pe rfl rfl ?_); first
          | refine ⟨_, pu_add rfl rfl (by omega), ?_⟩
          | refine ⟨_, pu_indexAddr_map rfl rfl (by omega) (by assumption), ?_⟩
          | refine ⟨_, pu_sub rfl rfl (by omega), ?_⟩
          | refine ⟨_, pu_pick_b rfl rfl rfl, ?_⟩
          | refine ⟨_, pu_mul rfl rfl (by omega), ?_⟩
          | refine ⟨_, pu_build rfl rfl rfl rfl rfl rfl, ?_⟩)
        | ((first | refine RunsL.guard_dec rfl rfl rfl ?_ ?_ | refine RunsL.guard_ndec rfl rfl rfl ?_ ?_ | refine RunsL.guard_nb rfl rfl rfl ?_ ?_ | refine RunsL.guard_b rfl rfl rfl ?_ ?_ | refine RunsD.guard_dec rfl rfl rfl ?_ ?_ | refine RunsD.guard_ndec rfl rfl rfl ?_ ?_ | refine RunsD.guard_nb rfl rfl rfl ?_ ?_ | refine RunsD.guard_b rfl rfl rfl ?_ ?_) <;> intro h <;> try (exfalso; first | omega | contradiction | (simp only [List.length_map] at h; omega))))
      refine Runs.loopN 30 rfl (fun b => [(1, .obj 0 0), (4, .bool true), (24, .int (p.entries.length : Int)), (25, .int (b : Int))]) (fun _ => [⟨49, 0, [.ro (inssR p.code), .ro (intsR p.entries)]⟩]) (fun b => ∀ (c : Nat) e, c < b → p.entries[c]? = some e → opA p (endA p c - 1) = 10 ∧ ∀ (k : Int) x, e ≤ k → k < endA p c → p.code[k.toNat]? = some x → PlaceI p c k x) p.entries.length 0 (Nat.zero_le _) (fun c e h => absurd h (by omega)) ⟨rfl, rfl, by simp only [look]; exact congrArg (fun z : Nat => AV.int (z : Int)) hlm, rfl, trivial⟩ rfl fun b hb hR next2 => ?_
      by_cases hlt2 : b < p.entries.length
      · obtain ⟨e, he⟩ : ∃ e, p.entries[(b : Int).toNat]? = some e := ⟨_, List.getElem?_eq_getElem hlt2⟩
        have he' : p.entries[b]? = some e := he
        have hend := blockEnd_ac p b (by omega) (by omega) hel
        have hge := hF.end_ge b
        have hi64 := endA_i64 hB b
        unfold I64 at hi64
        have h2 := hF.two b e he'
        have hop := opAt_ac p (endA p b - 1)
        by_cases hret : opA p (endA p b - 1) = 10
        · have hidx := opA_in (p := p) (by rw [hret]; decide : opA p (endA p b - 1) ≠ 0)
          unfold Idx at hidx
          repeat' (first
            | refine RunsL.step tabOk hn rfl ?_
            | refine RunsL.nil ?_
            | refine Runs.toRegion 30 rfl ?_
            | ((first | refine RunsL.pe hn rfl rfl rfl ?_ | refine RunsD.pe rfl rfl ?_); first
              | refine ⟨_, pu_callR hend rfl, ?_⟩
              | refine ⟨_, pu_callR hop rfl, ?_⟩)
            | (refine Runs.ctls 30 rfl ?_; first | refine Runs.cond_t rfl ?_ | refine Runs.cond_f rfl ?_ | ((first | refine Runs.cond_yes rfl ?_ ?_ | refine Runs.cond_nno rfl ?_ ?_); · first | omega | rfl | assumption | (simp only [List.length_map]; omega)) | ((first | refine Runs.cond_no rfl ?_ ?_ | refine Runs.cond_nyes rfl ?_ ?_); · first | omega | rfl | assumption | (simp only [List.length_map]; omega)) | refine Runs.cond_dec rfl (fun h => ?_) (fun h => ?_) | refine Runs.cond_ndec rfl (fun h => ?_) (fun h => ?_) | refine Runs.cond_nb rfl (fun h => ?_) (fun h => ?_) | refine Runs.cond_b rfl (fun h => ?_) (fun h => ?_) | refine Runs.ret (ends_ro hm rfl rfl ?_) | exact Runs.ret (ends_cellR hm rfl rfl rfl (Nat.le_of_ble_eq_true rfl) rfl rfl))
            | refine op_box rfl (tl hn rfl) ?_
            | refine op_storeF rfl rfl rfl rfl (Nat.le_of_ble_eq_true rfl) ?_
            | refine op_alloc (tl hn rfl) ?_
            | refine op_storeN rfl rfl rfl rfl (Nat.le_of_ble_eq_true rfl) ?_
            | refine RunsD.step tabOk hn rfl rfl ?_
            | refine RunsD.nil ?_
            | refine Runs.toDraw 30 mixed hn rfl (by kernel_rfl) rfl ?_
            | ((first | refine RunsL.pe hn rfl rfl rfl ?_ | refine RunsD.pe rfl rfl ?_); first
              | refine ⟨_, pu_add rfl rfl (by omega), ?_⟩
              | refine ⟨_, pu_indexAddr_map rfl rfl (by omega) (by assumption), ?_⟩
              | refine ⟨_, pu_sub rfl rfl (by omega), ?_⟩
              | refine ⟨_, pu_pick_b rfl rfl rfl, ?_⟩
              | refine ⟨_, pu_mul rfl rfl (by omega), ?_⟩
              | refine ⟨_, pu_build rfl rfl rfl rfl rfl rfl, ?_⟩)
            | ((first | refine RunsL.guard_dec rfl rfl rfl ?_ ?_ | refine RunsL.guard_ndec rfl rfl rfl ?_ ?_ | refine RunsL.guard_nb rfl rfl rfl ?_ ?_ | refine RunsL.guard_b rfl rfl rfl ?_ ?_ | refine RunsD.guard_dec rfl rfl rfl ?_ ?_ | refine RunsD.guard_ndec rfl rfl rfl ?_ ?_ | refine RunsD.guard_nb rfl rfl rfl ?_ ?_ | refine RunsD.guard_b rfl rfl rfl ?_ ?_) <;> intro h <;> try (exfalso; first | omega | contradiction | (simp only [List.length_map] at h; omega))))
          refine Runs.loopN 30 rfl (fun m => [(1, .obj 0 0), (4, .bool true), (24, .int (p.entries.length : Int)), (25, .int (b : Int)), (5, .int (b : Int)), (6, .int (endA p b)), (7, .int (e + m))]) (fun _ => [⟨49, 0, [.ro (inssR p.code), .ro (intsR p.entries)]⟩]) (fun m => ∀ (k : Int) x, e ≤ k → k < e + m → p.code[k.toNat]? = some x → PlaceI p b k x) (endA p b - e).toNat 0 (Nat.zero_le _) (fun k x h1 h2 => absurd h2 (by omega)) ⟨rfl, rfl, rfl, rfl, rfl, rfl, by simp only [look]; exact av_int (by omega), trivial⟩ rfl fun m hm' hP next3 => ?_
          by_cases hlt3 : m < (endA p b - e).toNat
          · obtain ⟨x, hx⟩ : ∃ x, p.code[(e + m).toNat]? = some x := ⟨_, List.getElem?_eq_getElem (by omega)⟩
            have hpl := safePlace_ac p b (e + m) x hlt2 ⟨by omega, by omega⟩ hx hel
            by_cases hpx : PlaceI p b (e + m) x
            · repeat' (first
              | refine RunsL.step tabOk hn rfl ?_
              | refine RunsL.nil ?_
              | refine Runs.toRegion 30 rfl ?_
              | ((first | refine RunsL.pe hn rfl rfl rfl ?_ | refine RunsD.pe rfl rfl ?_); first
                | refine ⟨_, pu_callR hpl rfl, ?_⟩)
              | (refine Runs.ctls 30 rfl ?_; first | refine Runs.cond_t rfl ?_ | refine Runs.cond_f rfl ?_ | ((first | refine Runs.cond_yes rfl ?_ ?_ | refine Runs.cond_nno rfl ?_ ?_); · first | omega | rfl | assumption | (simp only [List.length_map]; omega)) | ((first | refine Runs.cond_no rfl ?_ ?_ | refine Runs.cond_nyes rfl ?_ ?_); · first | omega | rfl | assumption | (simp only [List.length_map]; omega)) | refine Runs.cond_dec rfl (fun h => ?_) (fun h => ?_) | refine Runs.cond_ndec rfl (fun h => ?_) (fun h => ?_) | refine Runs.cond_nb rfl (fun h => ?_) (fun h => ?_) | refine Runs.cond_b rfl (fun h => ?_) (fun h => ?_) | refine Runs.ret (ends_ro hm rfl rfl ?_) | exact Runs.ret (ends_cellR hm rfl rfl rfl (Nat.le_of_ble_eq_true rfl) rfl rfl))
              | refine op_box rfl (tl hn rfl) ?_
              | refine op_storeF rfl rfl rfl rfl (Nat.le_of_ble_eq_true rfl) ?_
              | refine op_alloc (tl hn rfl) ?_
              | refine op_storeN rfl rfl rfl rfl (Nat.le_of_ble_eq_true rfl) ?_
              | refine RunsD.step tabOk hn rfl rfl ?_
              | refine RunsD.nil ?_
              | refine Runs.toDraw 30 mixed hn rfl (by kernel_rfl) rfl ?_
              | ((first | refine RunsL.pe hn rfl rfl rfl ?_ | refine RunsD.pe rfl rfl ?_); first
                | refine ⟨_, pu_add rfl rfl (by omega), ?_⟩
                | refine ⟨_, pu_indexAddr_map rfl rfl (by omega) (by assumption), ?_⟩
                | refine ⟨_, pu_sub rfl rfl (by omega), ?_⟩
                | refine ⟨_, pu_pick_b rfl rfl rfl, ?_⟩
                | refine ⟨_, pu_mul rfl rfl (by omega), ?_⟩
                | refine ⟨_, pu_build rfl rfl rfl rfl rfl rfl, ?_⟩)
              | ((first | refine RunsL.guard_dec rfl rfl rfl ?_ ?_ | refine RunsL.guard_ndec rfl rfl rfl ?_ ?_ | refine RunsL.guard_nb rfl rfl rfl ?_ ?_ | refine RunsL.guard_b rfl rfl rfl ?_ ?_ | refine RunsD.guard_dec rfl rfl rfl ?_ ?_ | refine RunsD.guard_ndec rfl rfl rfl ?_ ?_ | refine RunsD.guard_nb rfl rfl rfl ?_ ?_ | refine RunsD.guard_b rfl rfl rfl ?_ ?_) <;> intro h <;> try (exfalso; first | omega | contradiction | (simp only [List.length_map] at h; omega))))
              refine next3 _ _ ⟨rfl, rfl, rfl, rfl, rfl, rfl, by simp only [look]; exact av_int (by omega), trivial⟩ hlt3 (fun k w hk1 hk2 hw => ?_) rfl
              by_cases ek : k = e + m
              · subst ek; rw [hx] at hw; injection hw with hw; subst hw; exact hpx
              · exact hP k w hk1 (by omega) hw
            · repeat' (first
              | refine RunsL.step tabOk hn rfl ?_
              | refine RunsL.nil ?_
              | refine Runs.toRegion 30 rfl ?_
              | ((first | refine RunsL.pe hn rfl rfl rfl ?_ | refine RunsD.pe rfl rfl ?_); first
                | refine ⟨_, pu_callR hpl rfl, ?_⟩)
              | (refine Runs.ctls 30 rfl ?_; first | refine Runs.cond_t rfl ?_ | refine Runs.cond_f rfl ?_ | ((first | refine Runs.cond_yes rfl ?_ ?_ | refine Runs.cond_nno rfl ?_ ?_); · first | omega | rfl | assumption | (simp only [List.length_map]; omega)) | ((first | refine Runs.cond_no rfl ?_ ?_ | refine Runs.cond_nyes rfl ?_ ?_); · first | omega | rfl | assumption | (simp only [List.length_map]; omega)) | refine Runs.cond_dec rfl (fun h => ?_) (fun h => ?_) | refine Runs.cond_ndec rfl (fun h => ?_) (fun h => ?_) | refine Runs.cond_nb rfl (fun h => ?_) (fun h => ?_) | refine Runs.cond_b rfl (fun h => ?_) (fun h => ?_) | refine Runs.ret (ends_ro hm rfl rfl ?_) | exact Runs.ret (ends_cellR hm rfl rfl rfl (Nat.le_of_ble_eq_true rfl) rfl rfl))
              | refine op_box rfl (tl hn rfl) ?_
              | refine op_storeF rfl rfl rfl rfl (Nat.le_of_ble_eq_true rfl) ?_
              | refine op_alloc (tl hn rfl) ?_
              | refine op_storeN rfl rfl rfl rfl (Nat.le_of_ble_eq_true rfl) ?_
              | refine RunsD.step tabOk hn rfl rfl ?_
              | refine RunsD.nil ?_
              | refine Runs.toDraw 30 mixed hn rfl (by kernel_rfl) rfl ?_
              | ((first | refine RunsL.pe hn rfl rfl rfl ?_ | refine RunsD.pe rfl rfl ?_); first
                | refine ⟨_, pu_add rfl rfl (by omega), ?_⟩
                | refine ⟨_, pu_indexAddr_map rfl rfl (by omega) (by assumption), ?_⟩
                | refine ⟨_, pu_sub rfl rfl (by omega), ?_⟩
                | refine ⟨_, pu_pick_b rfl rfl rfl, ?_⟩
                | refine ⟨_, pu_mul rfl rfl (by omega), ?_⟩
                | refine ⟨_, pu_build rfl rfl rfl rfl rfl rfl, ?_⟩)
              | ((first | refine RunsL.guard_dec rfl rfl rfl ?_ ?_ | refine RunsL.guard_ndec rfl rfl rfl ?_ ?_ | refine RunsL.guard_nb rfl rfl rfl ?_ ?_ | refine RunsL.guard_b rfl rfl rfl ?_ ?_ | refine RunsD.guard_dec rfl rfl rfl ?_ ?_ | refine RunsD.guard_ndec rfl rfl rfl ?_ ?_ | refine RunsD.guard_nb rfl rfl rfl ?_ ?_ | refine RunsD.guard_b rfl rfl rfl ?_ ?_) <;> intro h <;> try (exfalso; first | omega | contradiction | (simp only [List.length_map] at h; omega))))
              all_goals exact rr_bool (decide_eq_false (p := SafeP p) fun hN => hpx ((hN.2 b e he').2 (e + m) x (by omega) (by omega) hx)).symm
          · repeat' (first
            | refine RunsL.step tabOk hn rfl ?_
            | refine RunsL.nil ?_
            | refine Runs.toRegion 30 rfl ?_
            | (refine Runs.ctls 30 rfl ?_; first | refine Runs.cond_t rfl ?_ | refine Runs.cond_f rfl ?_ | ((first | refine Runs.cond_yes rfl ?_ ?_ | refine Runs.cond_nno rfl ?_ ?_); · first | omega | rfl | assumption | (simp only [List.length_map]; omega)) | ((first | refine Runs.cond_no rfl ?_ ?_ | refine Runs.cond_nyes rfl ?_ ?_); · first | omega | rfl | assumption | (simp only [List.length_map]; omega)) | refine Runs.cond_dec rfl (fun h => ?_) (fun h => ?_) | refine Runs.cond_ndec rfl (fun h => ?_) (fun h => ?_) | refine Runs.cond_nb rfl (fun h => ?_) (fun h => ?_) | refine Runs.cond_b rfl (fun h => ?_) (fun h => ?_) | refine Runs.ret (ends_ro hm rfl rfl ?_) | exact Runs.ret (ends_cellR hm rfl rfl rfl (Nat.le_of_ble_eq_true rfl) rfl rfl))
            | refine op_box rfl (tl hn rfl) ?_
            | refine op_storeF rfl rfl rfl rfl (Nat.le_of_ble_eq_true rfl) ?_
            | refine op_alloc (tl hn rfl) ?_
            | refine op_storeN rfl rfl rfl rfl (Nat.le_of_ble_eq_true rfl) ?_
            | refine RunsD.step tabOk hn rfl rfl ?_
            | refine RunsD.nil ?_
            | refine Runs.toDraw 30 mixed hn rfl (by kernel_rfl) rfl ?_
            | ((first | refine RunsL.pe hn rfl rfl rfl ?_ | refine RunsD.pe rfl rfl ?_); first
              | refine ⟨_, pu_add rfl rfl (by omega), ?_⟩
              | refine ⟨_, pu_indexAddr_map rfl rfl (by omega) (by assumption), ?_⟩
              | refine ⟨_, pu_sub rfl rfl (by omega), ?_⟩
              | refine ⟨_, pu_pick_b rfl rfl rfl, ?_⟩
              | refine ⟨_, pu_mul rfl rfl (by omega), ?_⟩
              | refine ⟨_, pu_build rfl rfl rfl rfl rfl rfl, ?_⟩)
            | ((first | refine RunsL.guard_dec rfl rfl rfl ?_ ?_ | refine RunsL.guard_ndec rfl rfl rfl ?_ ?_ | refine RunsL.guard_nb rfl rfl rfl ?_ ?_ | refine RunsL.guard_b rfl rfl rfl ?_ ?_ | refine RunsD.guard_dec rfl rfl rfl ?_ ?_ | refine RunsD.guard_ndec rfl rfl rfl ?_ ?_ | refine RunsD.guard_nb rfl rfl rfl ?_ ?_ | refine RunsD.guard_b rfl rfl rfl ?_ ?_) <;> intro h <;> try (exfalso; first | omega | contradiction | (simp only [List.length_map] at h; omega))))
            refine next2 _ _ ⟨rfl, rfl, rfl, rfl, trivial⟩ hlt2 (fun c d hc hd => ?_) rfl
            by_cases ec : c = b
            · subst ec; rw [he'] at hd; injection hd with hd; subst hd
              exact ⟨hret, fun k x h1 h2 hx => hP k x h1 (by omega) hx⟩
            · exact hR c d (by omega) hd
        · repeat' (first
          | refine RunsL.step tabOk hn rfl ?_
          | refine RunsL.nil ?_
          | refine Runs.toRegion 30 rfl ?_
          | ((first | refine RunsL.pe hn rfl rfl rfl ?_ | refine RunsD.pe rfl rfl ?_); first
            | refine ⟨_, pu_callR hend rfl, ?_⟩
            | refine ⟨_, pu_callR hop rfl, ?_⟩)
          | (refine Runs.ctls 30 rfl ?_; first | refine Runs.cond_t rfl ?_ | refine Runs.cond_f rfl ?_ | ((first | refine Runs.cond_yes rfl ?_ ?_ | refine Runs.cond_nno rfl ?_ ?_); · first | omega | rfl | assumption | (simp only [List.length_map]; omega)) | ((first | refine Runs.cond_no rfl ?_ ?_ | refine Runs.cond_nyes rfl ?_ ?_); · first | omega | rfl | assumption | (simp only [List.length_map]; omega)) | refine Runs.cond_dec rfl (fun h => ?_) (fun h => ?_) | refine Runs.cond_ndec rfl (fun h => ?_) (fun h => ?_) | refine Runs.cond_nb rfl (fun h => ?_) (fun h => ?_) | refine Runs.cond_b rfl (fun h => ?_) (fun h => ?_) | refine Runs.ret (ends_ro hm rfl rfl ?_) | exact Runs.ret (ends_cellR hm rfl rfl rfl (Nat.le_of_ble_eq_true rfl) rfl rfl))
          | refine op_box rfl (tl hn rfl) ?_
          | refine op_storeF rfl rfl rfl rfl (Nat.le_of_ble_eq_true rfl) ?_
          | refine op_alloc (tl hn rfl) ?_
          | refine op_storeN rfl rfl rfl rfl (Nat.le_of_ble_eq_true rfl) ?_
          | refine RunsD.step tabOk hn rfl rfl ?_
          | refine RunsD.nil ?_
          | refine Runs.toDraw 30 mixed hn rfl (by kernel_rfl) rfl ?_
          | ((first | refine RunsL.pe hn rfl rfl rfl ?_ | refine RunsD.pe rfl rfl ?_); first
            | refine ⟨_, pu_add rfl rfl (by omega), ?_⟩
            | refine ⟨_, pu_indexAddr_map rfl rfl (by omega) (by assumption), ?_⟩
            | refine ⟨_, pu_sub rfl rfl (by omega), ?_⟩
            | refine ⟨_, pu_pick_b rfl rfl rfl, ?_⟩
            | refine ⟨_, pu_mul rfl rfl (by omega), ?_⟩
            | refine ⟨_, pu_build rfl rfl rfl rfl rfl rfl, ?_⟩)
          | ((first | refine RunsL.guard_dec rfl rfl rfl ?_ ?_ | refine RunsL.guard_ndec rfl rfl rfl ?_ ?_ | refine RunsL.guard_nb rfl rfl rfl ?_ ?_ | refine RunsL.guard_b rfl rfl rfl ?_ ?_ | refine RunsD.guard_dec rfl rfl rfl ?_ ?_ | refine RunsD.guard_ndec rfl rfl rfl ?_ ?_ | refine RunsD.guard_nb rfl rfl rfl ?_ ?_ | refine RunsD.guard_b rfl rfl rfl ?_ ?_) <;> intro h <;> try (exfalso; first | omega | contradiction | (simp only [List.length_map] at h; omega))))
          all_goals exact rr_bool (decide_eq_false (p := SafeP p) fun hN => hret (hN.2 b e he').1).symm
      · repeat' (first
        | refine RunsL.step tabOk hn rfl ?_
        | refine RunsL.nil ?_
        | refine Runs.toRegion 30 rfl ?_
        | (refine Runs.ctls 30 rfl ?_; first | refine Runs.cond_t rfl ?_ | refine Runs.cond_f rfl ?_ | ((first | refine Runs.cond_yes rfl ?_ ?_ | refine Runs.cond_nno rfl ?_ ?_); · first | omega | rfl | assumption | (simp only [List.length_map]; omega)) | ((first | refine Runs.cond_no rfl ?_ ?_ | refine Runs.cond_nyes rfl ?_ ?_); · first | omega | rfl | assumption | (simp only [List.length_map]; omega)) | refine Runs.cond_dec rfl (fun h => ?_) (fun h => ?_) | refine Runs.cond_ndec rfl (fun h => ?_) (fun h => ?_) | refine Runs.cond_nb rfl (fun h => ?_) (fun h => ?_) | refine Runs.cond_b rfl (fun h => ?_) (fun h => ?_) | refine Runs.ret (ends_ro hm rfl rfl ?_) | exact Runs.ret (ends_cellR hm rfl rfl rfl (Nat.le_of_ble_eq_true rfl) rfl rfl))
        | refine op_box rfl (tl hn rfl) ?_
        | refine op_storeF rfl rfl rfl rfl (Nat.le_of_ble_eq_true rfl) ?_
        | refine op_alloc (tl hn rfl) ?_
        | refine op_storeN rfl rfl rfl rfl (Nat.le_of_ble_eq_true rfl) ?_
        | refine RunsD.step tabOk hn rfl rfl ?_
        | refine RunsD.nil ?_
        | refine Runs.toDraw 30 mixed hn rfl (by kernel_rfl) rfl ?_
        | ((first | refine RunsL.pe hn rfl rfl rfl ?_ | refine RunsD.pe rfl rfl ?_); first
          | refine ⟨_, pu_add rfl rfl (by omega), ?_⟩
          | refine ⟨_, pu_indexAddr_map rfl rfl (by omega) (by assumption), ?_⟩
          | refine ⟨_, pu_sub rfl rfl (by omega), ?_⟩
          | refine ⟨_, pu_pick_b rfl rfl rfl, ?_⟩
          | refine ⟨_, pu_mul rfl rfl (by omega), ?_⟩
          | refine ⟨_, pu_build rfl rfl rfl rfl rfl rfl, ?_⟩)
        | ((first | refine RunsL.guard_dec rfl rfl rfl ?_ ?_ | refine RunsL.guard_ndec rfl rfl rfl ?_ ?_ | refine RunsL.guard_nb rfl rfl rfl ?_ ?_ | refine RunsL.guard_b rfl rfl rfl ?_ ?_ | refine RunsD.guard_dec rfl rfl rfl ?_ ?_ | refine RunsD.guard_ndec rfl rfl rfl ?_ ?_ | refine RunsD.guard_nb rfl rfl rfl ?_ ?_ | refine RunsD.guard_b rfl rfl rfl ?_ ?_) <;> intro h <;> try (exfalso; first | omega | contradiction | (simp only [List.length_map] at h; omega))))
        exact rr_bool (decide_eq_true (p := SafeP p) ⟨hFr, fun c e he => hR c e (by have := (List.getElem?_eq_some_iff.1 he).1; omega) he⟩).symm
  · repeat' (first
    | refine RunsL.step tabOk hn rfl ?_
    | refine RunsL.nil ?_
    | refine Runs.toRegion 30 rfl ?_
    | ((first | refine RunsL.pe hn rfl rfl rfl ?_ | refine RunsD.pe rfl rfl ?_); first
      | refine ⟨_, pu_callR hf rfl, ?_⟩)
    | (refine Runs.ctls 30 rfl ?_; first | refine Runs.cond_t rfl ?_ | refine Runs.cond_f rfl ?_ | ((first | refine Runs.cond_yes rfl ?_ ?_ | refine Runs.cond_nno rfl ?_ ?_); · first | omega | rfl | assumption | (simp only [List.length_map]; omega)) | ((first | refine Runs.cond_no rfl ?_ ?_ | refine Runs.cond_nyes rfl ?_ ?_); · first | omega | rfl | assumption | (simp only [List.length_map]; omega)) | refine Runs.cond_dec rfl (fun h => ?_) (fun h => ?_) | refine Runs.cond_ndec rfl (fun h => ?_) (fun h => ?_) | refine Runs.cond_nb rfl (fun h => ?_) (fun h => ?_) | refine Runs.cond_b rfl (fun h => ?_) (fun h => ?_) | refine Runs.ret (ends_ro hm rfl rfl ?_) | exact Runs.ret (ends_cellR hm rfl rfl rfl (Nat.le_of_ble_eq_true rfl) rfl rfl))
    | refine op_box rfl (tl hn rfl) ?_
    | refine op_storeF rfl rfl rfl rfl (Nat.le_of_ble_eq_true rfl) ?_
    | refine op_alloc (tl hn rfl) ?_
    | refine op_storeN rfl rfl rfl rfl (Nat.le_of_ble_eq_true rfl) ?_
    | refine RunsD.step tabOk hn rfl rfl ?_
    | refine RunsD.nil ?_
    | refine Runs.toDraw 30 mixed hn rfl (by kernel_rfl) rfl ?_
    | ((first | refine RunsL.pe hn rfl rfl rfl ?_ | refine RunsD.pe rfl rfl ?_); first
      | refine ⟨_, pu_add rfl rfl (by omega), ?_⟩
      | refine ⟨_, pu_indexAddr_map rfl rfl (by omega) (by assumption), ?_⟩
      | refine ⟨_, pu_sub rfl rfl (by omega), ?_⟩
      | refine ⟨_, pu_pick_b rfl rfl rfl, ?_⟩
      | refine ⟨_, pu_mul rfl rfl (by omega), ?_⟩
      | refine ⟨_, pu_build rfl rfl rfl rfl rfl rfl, ?_⟩)
    | ((first | refine RunsL.guard_dec rfl rfl rfl ?_ ?_ | refine RunsL.guard_ndec rfl rfl rfl ?_ ?_ | refine RunsL.guard_nb rfl rfl rfl ?_ ?_ | refine RunsL.guard_b rfl rfl rfl ?_ ?_ | refine RunsD.guard_dec rfl rfl rfl ?_ ?_ | refine RunsD.guard_ndec rfl rfl rfl ?_ ?_ | refine RunsD.guard_nb rfl rfl rfl ?_ ?_ | refine RunsD.guard_b rfl rfl rfl ?_ ?_) <;> intro h <;> try (exfalso; first | omega | contradiction | (simp only [List.length_map] at h; omega))))
    all_goals exact rr_bool (decide_eq_false (p := SafeP p) fun hN => hF hN.1.frI).symm
end Go.Proofs.Ytkkmmfgncdfcfaa
