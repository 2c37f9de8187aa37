/- Bytes over values: the laws' helpers, equality, conversion to a string. -/
import Derived.Test.YtcifgbmmnkilfaaPrgE
import Derived.Laws.IdiomStrings
namespace Go.Proofs.Ytcifgbmmnkilfaa
set_option linter.unusedSimpArgs false
set_option linter.unusedVariables false
open Go.RowKit
open AV (Mem Keeps)
section
variable {P : Program} {C : Ctx} {env : Env} {σ : List Ob} {t : Nat} {ty : TypeId} {pos : String} {after : Array Edge} {gd : Option (Nat × Bool)}
/-- Bytes become a string. -/
theorem pu_string {src dst e : TypeId} {x : Operand} {l : List UInt8} (hs : P.underlying src = some (.slice e)) (he : P.underlying e = some (.int .u8)) (hd : P.underlying dst = some .string) (hx : ev env x = .ro (bytesR l)) :
    Pur P C ⟨some t, .convert src dst x, ty, pos, after, gd⟩ env σ (.str ⟨l.toArray⟩) :=
  Pur.of (fun a m hG hσ hH => by
    have h := hH x (by simp [Op.operands])
    rw [hx] at h
    simp only [AV.rel, bytesR, RV.rel] at h
    obtain ⟨A, n, c, e1, hn, hc, _, hA⟩ := h
    rw [List.length_map] at hn
    refine ⟨.string ⟨l.toArray⟩, ?_, by simp [AV.rel, RV.rel]⟩
    have key : (convert src dst (a.eval x)).run P m.w = .ok (.string ⟨l.toArray⟩) m.w := by
      rw [e1]
      cases hl : l with
      | nil =>
        subst hl
        have : n = 0 := by simpa using hn
        subst this
        cases A with
        | none => rw [run_convert_bytes_string m.w src dst e none 0 c hs he hd]; rfl
        | some a => exact run_convert_bytes_back m.w src dst e a c [] hs he hd (fun j hj => absurd hj (by simp))
      | cons y ys =>
        obtain ⟨b, o, eA, hb, _, hE⟩ := hA (by rw [hn, hl]; simp)
        rw [eA, hn, ← hl]
        refine run_convert_bytes_back m.w src dst e ⟨b, o, none⟩ c l hs he hd fun j hj => ?_
        have h1 := RV.relE_at _ o 1 hE j [.u8 l[j]] (by rw [List.getElem?_map, List.getElem?_eq_getElem hj]; rfl)
        obtain ⟨_, h2⟩ := h1
        simp only [RV.relAt] at h2
        obtain ⟨⟨u, k1, _, k3⟩, _⟩ := h2
        simp only [RV.rel] at k3
        rw [add_lit, ← k3, ← k1, Nat.mul_one]
    simp only [execOp, Sem.run_bind, key, Result.andThen]
    rfl)
end
theorem szBytes_ac (a : List UInt8) (left : Int) (h0 : 0 ≤ left) (h1 : left ≤ 1048576) (hl : a.length ≤ maxLen) : ACv Try.prog 80 [bytesR a, .int left] (.int (sz1 left a.length)) := by
  unfold maxLen at hl
  refine ac_enter Try.func80 rfl _ Try.ntmps80 (by simp) fun C hn hm => ?_
  by_cases h : left < (a.length : Int)
  · repeat' (first
    | refine RunsL.step tabOk hn rfl ?_
    | refine RunsL.nil ?_
    | refine Runs.toRegion 30 rfl ?_
    | ((first | refine RunsL.pe hn rfl rfl rfl ?_ | refine RunsD.pe rfl rfl ?_); first
      | refine ⟨_, pu_sub rfl rfl (by first | omega | (simp only [List.length_map]; omega)), ?_⟩)
    | (refine Runs.ctls 30 rfl ?_; first | refine Runs.cond_t rfl ?_ | refine Runs.cond_f rfl ?_ | ((first | refine Runs.cond_yes rfl ?_ ?_ | refine Runs.cond_nno rfl ?_ ?_); · first | omega | rfl | assumption | (simp only [List.length_map]; omega)) | ((first | refine Runs.cond_no rfl ?_ ?_ | refine Runs.cond_nyes rfl ?_ ?_); · first | omega | rfl | assumption | (simp only [List.length_map]; omega)) | refine Runs.cond_dec rfl (fun h => ?_) (fun h => ?_) | refine Runs.cond_ndec rfl (fun h => ?_) (fun h => ?_) | refine Runs.cond_nb rfl (fun h => ?_) (fun h => ?_) | refine Runs.cond_b rfl (fun h => ?_) (fun h => ?_) | refine Runs.ret (ends_ro hm rfl rfl ?_) | exact Runs.ret (ends_cellR hm rfl rfl rfl (Nat.le_of_ble_eq_true rfl) rfl rfl))
    | refine op_box rfl (tl hn rfl) ?_
    | refine op_storeF rfl rfl rfl rfl (Nat.le_of_ble_eq_true rfl) ?_
    | refine op_alloc (tl hn rfl) ?_
    | refine op_storeN rfl rfl rfl rfl (Nat.le_of_ble_eq_true rfl) ?_
    | refine RunsD.step tabOk hn rfl rfl ?_
    | refine RunsD.nil ?_
    | refine Runs.toDraw 30 mixed hn rfl (by kernel_rfl) rfl ?_
    | ((first | refine RunsL.pe hn rfl rfl rfl ?_ | refine RunsD.pe rfl rfl ?_); first
      | refine ⟨_, pu_add rfl rfl (by omega), ?_⟩
      | refine ⟨_, pu_indexAddr_map rfl rfl (by omega) (by assumption), ?_⟩
      | refine ⟨_, pu_sub rfl rfl (by omega), ?_⟩
      | refine ⟨_, pu_pick_b rfl rfl rfl, ?_⟩
      | refine ⟨_, pu_mul rfl rfl (by omega), ?_⟩
      | refine ⟨_, pu_build rfl rfl rfl rfl rfl rfl, ?_⟩)
    | ((first | refine RunsL.guard_dec rfl rfl rfl ?_ ?_ | refine RunsL.guard_ndec rfl rfl rfl ?_ ?_ | refine RunsL.guard_nb rfl rfl rfl ?_ ?_ | refine RunsL.guard_b rfl rfl rfl ?_ ?_ | refine RunsD.guard_dec rfl rfl rfl ?_ ?_ | refine RunsD.guard_ndec rfl rfl rfl ?_ ?_ | refine RunsD.guard_nb rfl rfl rfl ?_ ?_ | refine RunsD.guard_b rfl rfl rfl ?_ ?_) <;> intro h <;> try (exfalso; first | omega | contradiction | (simp only [List.length_map] at h; omega))))
    exact rr_int (sz1_neg h).symm
  · repeat' (first
    | refine RunsL.step tabOk hn rfl ?_
    | refine RunsL.nil ?_
    | refine Runs.toRegion 30 rfl ?_
    | ((first | refine RunsL.pe hn rfl rfl rfl ?_ | refine RunsD.pe rfl rfl ?_); first
      | refine ⟨_, pu_sub rfl rfl (by first | omega | (simp only [List.length_map]; omega)), ?_⟩)
    | (refine Runs.ctls 30 rfl ?_; first | refine Runs.cond_t rfl ?_ | refine Runs.cond_f rfl ?_ | ((first | refine Runs.cond_yes rfl ?_ ?_ | refine Runs.cond_nno rfl ?_ ?_); · first | omega | rfl | assumption | (simp only [List.length_map]; omega)) | ((first | refine Runs.cond_no rfl ?_ ?_ | refine Runs.cond_nyes rfl ?_ ?_); · first | omega | rfl | assumption | (simp only [List.length_map]; omega)) | refine Runs.cond_dec rfl (fun h => ?_) (fun h => ?_) | refine Runs.cond_ndec rfl (fun h => ?_) (fun h => ?_) | refine Runs.cond_nb rfl (fun h => ?_) (fun h => ?_) | refine Runs.cond_b rfl (fun h => ?_) (fun h => ?_) | refine Runs.ret (ends_ro hm rfl rfl ?_) | exact Runs.ret (ends_cellR hm rfl rfl rfl (Nat.le_of_ble_eq_true rfl) rfl rfl))
    | refine op_box rfl (tl hn rfl) ?_
    | refine op_storeF rfl rfl rfl rfl (Nat.le_of_ble_eq_true rfl) ?_
    | refine op_alloc (tl hn rfl) ?_
    | refine op_storeN rfl rfl rfl rfl (Nat.le_of_ble_eq_true rfl) ?_
    | refine RunsD.step tabOk hn rfl rfl ?_
    | refine RunsD.nil ?_
    | refine Runs.toDraw 30 mixed hn rfl (by kernel_rfl) rfl ?_
    | ((first | refine RunsL.pe hn rfl rfl rfl ?_ | refine RunsD.pe rfl rfl ?_); first
      | refine ⟨_, pu_add rfl rfl (by omega), ?_⟩
      | refine ⟨_, pu_indexAddr_map rfl rfl (by omega) (by assumption), ?_⟩
      | refine ⟨_, pu_sub rfl rfl (by omega), ?_⟩
      | refine ⟨_, pu_pick_b rfl rfl rfl, ?_⟩
      | refine ⟨_, pu_mul rfl rfl (by omega), ?_⟩
      | refine ⟨_, pu_build rfl rfl rfl rfl rfl rfl, ?_⟩)
    | ((first | refine RunsL.guard_dec rfl rfl rfl ?_ ?_ | refine RunsL.guard_ndec rfl rfl rfl ?_ ?_ | refine RunsL.guard_nb rfl rfl rfl ?_ ?_ | refine RunsL.guard_b rfl rfl rfl ?_ ?_ | refine RunsD.guard_dec rfl rfl rfl ?_ ?_ | refine RunsD.guard_ndec rfl rfl rfl ?_ ?_ | refine RunsD.guard_nb rfl rfl rfl ?_ ?_ | refine RunsD.guard_b rfl rfl rfl ?_ ?_) <;> intro h <;> try (exfalso; first | omega | contradiction | (simp only [List.length_map] at h; omega))))
    exact rr_int (by rw [sz1_pos (by omega)]; simp)
theorem eqBytes_ac (a : List UInt8) (hl : a.length ≤ maxLen) : ACv Try.prog 42 [bytesR a, bytesR a] (.bool true) := by
  unfold maxLen at hl
  refine ac_enter Try.func42 rfl _ Try.ntmps42 (by simp) fun C hn hm => ?_
  repeat' (first
    | refine RunsL.step tabOk hn rfl ?_
    | refine RunsL.nil ?_
    | refine Runs.toRegion 30 rfl ?_
    | (refine Runs.ctls 30 rfl ?_; first | refine Runs.cond_t rfl ?_ | refine Runs.cond_f rfl ?_ | ((first | refine Runs.cond_yes rfl ?_ ?_ | refine Runs.cond_nno rfl ?_ ?_); · first | omega | rfl | assumption | (simp only [List.length_map]; omega)) | ((first | refine Runs.cond_no rfl ?_ ?_ | refine Runs.cond_nyes rfl ?_ ?_); · first | omega | rfl | assumption | (simp only [List.length_map]; omega)) | refine Runs.cond_dec rfl (fun h => ?_) (fun h => ?_) | refine Runs.cond_ndec rfl (fun h => ?_) (fun h => ?_) | refine Runs.cond_nb rfl (fun h => ?_) (fun h => ?_) | refine Runs.cond_b rfl (fun h => ?_) (fun h => ?_) | refine Runs.ret (ends_ro hm rfl rfl ?_) | exact Runs.ret (ends_cellR hm rfl rfl rfl (Nat.le_of_ble_eq_true rfl) rfl rfl))
    | refine op_box rfl (tl hn rfl) ?_
    | refine op_storeF rfl rfl rfl rfl (Nat.le_of_ble_eq_true rfl) ?_
    | refine op_alloc (tl hn rfl) ?_
    | refine op_storeN rfl rfl rfl rfl (Nat.le_of_ble_eq_true rfl) ?_
    | refine RunsD.step tabOk hn rfl rfl ?_
    | refine RunsD.nil ?_
    | refine Runs.toDraw 30 mixed hn rfl (by kernel_rfl) rfl ?_
    | ((first | refine RunsL.pe hn rfl rfl rfl ?_ | refine RunsD.pe rfl rfl ?_); first
      | refine ⟨_, pu_add rfl rfl (by omega), ?_⟩
      | refine ⟨_, pu_indexAddr_map rfl rfl (by omega) (by assumption), ?_⟩
      | refine ⟨_, pu_sub rfl rfl (by omega), ?_⟩
      | refine ⟨_, pu_pick_b rfl rfl rfl, ?_⟩
      | refine ⟨_, pu_mul rfl rfl (by omega), ?_⟩
      | refine ⟨_, pu_build rfl rfl rfl rfl rfl rfl, ?_⟩)
    | ((first | refine RunsL.guard_dec rfl rfl rfl ?_ ?_ | refine RunsL.guard_ndec rfl rfl rfl ?_ ?_ | refine RunsL.guard_nb rfl rfl rfl ?_ ?_ | refine RunsL.guard_b rfl rfl rfl ?_ ?_ | refine RunsD.guard_dec rfl rfl rfl ?_ ?_ | refine RunsD.guard_ndec rfl rfl rfl ?_ ?_ | refine RunsD.guard_nb rfl rfl rfl ?_ ?_ | refine RunsD.guard_b rfl rfl rfl ?_ ?_) <;> intro h <;> try (exfalso; first | omega | contradiction | (simp only [List.length_map] at h; omega))))
  refine Runs.loopN 30 rfl (fun j => [(0, .ro (bytesR a)), (1, .ro (bytesR a)), (5, .int (j : Int))]) (fun _ => []) (fun _ => True) a.length 0 (Nat.zero_le _) trivial ⟨rfl, rfl, rfl, trivial⟩ rfl fun j hj _ next => ?_
  by_cases hlt : j < a.length
  · obtain ⟨x, hx⟩ : ∃ x, a[(j : Int).toNat]? = some x := ⟨_, List.getElem?_eq_getElem hlt⟩
    repeat' (first
      | refine RunsL.step tabOk hn rfl ?_
      | refine RunsL.nil ?_
      | refine Runs.toRegion 30 rfl ?_
      | (refine Runs.ctls 30 rfl ?_; first | refine Runs.cond_t rfl ?_ | refine Runs.cond_f rfl ?_ | ((first | refine Runs.cond_yes rfl ?_ ?_ | refine Runs.cond_nno rfl ?_ ?_); · first | omega | rfl | assumption | (simp only [List.length_map]; omega)) | ((first | refine Runs.cond_no rfl ?_ ?_ | refine Runs.cond_nyes rfl ?_ ?_); · first | omega | rfl | assumption | (simp only [List.length_map]; omega)) | refine Runs.cond_dec rfl (fun h => ?_) (fun h => ?_) | refine Runs.cond_ndec rfl (fun h => ?_) (fun h => ?_) | refine Runs.cond_nb rfl (fun h => ?_) (fun h => ?_) | refine Runs.cond_b rfl (fun h => ?_) (fun h => ?_) | refine Runs.ret (ends_ro hm rfl rfl ?_) | exact Runs.ret (ends_cellR hm rfl rfl rfl (Nat.le_of_ble_eq_true rfl) rfl rfl))
      | refine op_box rfl (tl hn rfl) ?_
      | refine op_storeF rfl rfl rfl rfl (Nat.le_of_ble_eq_true rfl) ?_
      | refine op_alloc (tl hn rfl) ?_
      | refine op_storeN rfl rfl rfl rfl (Nat.le_of_ble_eq_true rfl) ?_
      | refine RunsD.step tabOk hn rfl rfl ?_
      | refine RunsD.nil ?_
      | refine Runs.toDraw 30 mixed hn rfl (by kernel_rfl) rfl ?_
      | ((first | refine RunsL.pe hn rfl rfl rfl ?_ | refine RunsD.pe rfl rfl ?_); first
        | refine ⟨_, pu_add rfl rfl (by omega), ?_⟩
        | refine ⟨_, pu_indexAddr_map rfl rfl (by omega) (by assumption), ?_⟩
        | refine ⟨_, pu_sub rfl rfl (by omega), ?_⟩
        | refine ⟨_, pu_pick_b rfl rfl rfl, ?_⟩
        | refine ⟨_, pu_mul rfl rfl (by omega), ?_⟩
        | refine ⟨_, pu_build rfl rfl rfl rfl rfl rfl, ?_⟩)
      | ((first | refine RunsL.guard_dec rfl rfl rfl ?_ ?_ | refine RunsL.guard_ndec rfl rfl rfl ?_ ?_ | refine RunsL.guard_nb rfl rfl rfl ?_ ?_ | refine RunsL.guard_b rfl rfl rfl ?_ ?_ | refine RunsD.guard_dec rfl rfl rfl ?_ ?_ | refine RunsD.guard_ndec rfl rfl rfl ?_ ?_ | refine RunsD.guard_nb rfl rfl rfl ?_ ?_ | refine RunsD.guard_b rfl rfl rfl ?_ ?_) <;> intro h <;> try (exfalso; first | omega | contradiction | (simp only [List.length_map] at h; omega))))
    exact next _ _ ⟨rfl, rfl, rfl, trivial⟩ hlt trivial rfl
  · repeat' (first
    | refine RunsL.step tabOk hn rfl ?_
    | refine RunsL.nil ?_
    | refine Runs.toRegion 30 rfl ?_
    | (refine Runs.ctls 30 rfl ?_; first | refine Runs.cond_t rfl ?_ | refine Runs.cond_f rfl ?_ | ((first | refine Runs.cond_yes rfl ?_ ?_ | refine Runs.cond_nno rfl ?_ ?_); · first | omega | rfl | assumption | (simp only [List.length_map]; omega)) | ((first | refine Runs.cond_no rfl ?_ ?_ | refine Runs.cond_nyes rfl ?_ ?_); · first | omega | rfl | assumption | (simp only [List.length_map]; omega)) | refine Runs.cond_dec rfl (fun h => ?_) (fun h => ?_) | refine Runs.cond_ndec rfl (fun h => ?_) (fun h => ?_) | refine Runs.cond_nb rfl (fun h => ?_) (fun h => ?_) | refine Runs.cond_b rfl (fun h => ?_) (fun h => ?_) | refine Runs.ret (ends_ro hm rfl rfl ?_) | exact Runs.ret (ends_cellR hm rfl rfl rfl (Nat.le_of_ble_eq_true rfl) rfl rfl))
    | refine op_box rfl (tl hn rfl) ?_
    | refine op_storeF rfl rfl rfl rfl (Nat.le_of_ble_eq_true rfl) ?_
    | refine op_alloc (tl hn rfl) ?_
    | refine op_storeN rfl rfl rfl rfl (Nat.le_of_ble_eq_true rfl) ?_
    | refine RunsD.step tabOk hn rfl rfl ?_
    | refine RunsD.nil ?_
    | refine Runs.toDraw 30 mixed hn rfl (by kernel_rfl) rfl ?_
    | ((first | refine RunsL.pe hn rfl rfl rfl ?_ | refine RunsD.pe rfl rfl ?_); first
      | refine ⟨_, pu_add rfl rfl (by omega), ?_⟩
      | refine ⟨_, pu_indexAddr_map rfl rfl (by omega) (by assumption), ?_⟩
      | refine ⟨_, pu_sub rfl rfl (by omega), ?_⟩
      | refine ⟨_, pu_pick_b rfl rfl rfl, ?_⟩
      | refine ⟨_, pu_mul rfl rfl (by omega), ?_⟩
      | refine ⟨_, pu_build rfl rfl rfl rfl rfl rfl, ?_⟩)
    | ((first | refine RunsL.guard_dec rfl rfl rfl ?_ ?_ | refine RunsL.guard_ndec rfl rfl rfl ?_ ?_ | refine RunsL.guard_nb rfl rfl rfl ?_ ?_ | refine RunsL.guard_b rfl rfl rfl ?_ ?_ | refine RunsD.guard_dec rfl rfl rfl ?_ ?_ | refine RunsD.guard_ndec rfl rfl rfl ?_ ?_ | refine RunsD.guard_nb rfl rfl rfl ?_ ?_ | refine RunsD.guard_b rfl rfl rfl ?_ ?_) <;> intro h <;> try (exfalso; first | omega | contradiction | (simp only [List.length_map] at h; omega))))
    exact rr_bool rfl
theorem seals_bytes (e : TypeId) (l : List UInt8) : Seals (.row e 1 (l.map RV.u8)) (bytesR l) := by
  have h := seals_row1 e (l.map RV.u8)
  rwa [List.map_map] at h
theorem toBytes_ac (a : List UInt8) (hl : a.length ≤ 4194304) : ACv Try.prog 85 [bytesR a] (bytesR a) := by
  refine AC.shut (R := fun rr => rr = .row 5 1 (a.map RV.u8)) ?_ (by rintro _ rfl; exact seals_bytes _ a)
  refine ac_enter Try.func85 rfl _ Try.ntmps85 (by simp) fun C hn hm => ?_
  repeat' (first
    | refine RunsL.step tabOk hn rfl ?_
    | refine RunsL.nil ?_
    | refine Runs.toRegion 30 rfl ?_
    | refine op_make1 rfl rfl rfl rfl (by first | omega | (simp only [List.length_map]; omega)) (by unfold maxLen; simp only [List.length_map]; omega) (tl hn rfl) ?_
    | (refine Runs.ctls 30 rfl ?_; first | refine Runs.cond_t rfl ?_ | refine Runs.cond_f rfl ?_ | ((first | refine Runs.cond_yes rfl ?_ ?_ | refine Runs.cond_nno rfl ?_ ?_); · first | omega | rfl | assumption | (simp only [List.length_map]; omega)) | ((first | refine Runs.cond_no rfl ?_ ?_ | refine Runs.cond_nyes rfl ?_ ?_); · first | omega | rfl | assumption | (simp only [List.length_map]; omega)) | refine Runs.cond_dec rfl (fun h => ?_) (fun h => ?_) | refine Runs.cond_ndec rfl (fun h => ?_) (fun h => ?_) | refine Runs.cond_nb rfl (fun h => ?_) (fun h => ?_) | refine Runs.cond_b rfl (fun h => ?_) (fun h => ?_) | refine Runs.ret (ends_ro hm rfl rfl ?_) | exact Runs.ret (ends_cellR hm rfl rfl rfl (Nat.le_of_ble_eq_true rfl) rfl rfl))
    | refine op_box rfl (tl hn rfl) ?_
    | refine op_storeF rfl rfl rfl rfl (Nat.le_of_ble_eq_true rfl) ?_
    | refine op_alloc (tl hn rfl) ?_
    | refine op_storeN rfl rfl rfl rfl (Nat.le_of_ble_eq_true rfl) ?_
    | refine RunsD.step tabOk hn rfl rfl ?_
    | refine RunsD.nil ?_
    | refine Runs.toDraw 30 mixed hn rfl (by kernel_rfl) rfl ?_
    | ((first | refine RunsL.pe hn rfl rfl rfl ?_ | refine RunsD.pe rfl rfl ?_); first
      | refine ⟨_, pu_add rfl rfl (by omega), ?_⟩
      | refine ⟨_, pu_indexAddr_map rfl rfl (by omega) (by assumption), ?_⟩
      | refine ⟨_, pu_sub rfl rfl (by omega), ?_⟩
      | refine ⟨_, pu_pick_b rfl rfl rfl, ?_⟩
      | refine ⟨_, pu_mul rfl rfl (by omega), ?_⟩
      | refine ⟨_, pu_build rfl rfl rfl rfl rfl rfl, ?_⟩)
    | ((first | refine RunsL.guard_dec rfl rfl rfl ?_ ?_ | refine RunsL.guard_ndec rfl rfl rfl ?_ ?_ | refine RunsL.guard_nb rfl rfl rfl ?_ ?_ | refine RunsL.guard_b rfl rfl rfl ?_ ?_ | refine RunsD.guard_dec rfl rfl rfl ?_ ?_ | refine RunsD.guard_ndec rfl rfl rfl ?_ ?_ | refine RunsD.guard_nb rfl rfl rfl ?_ ?_ | refine RunsD.guard_b rfl rfl rfl ?_ ?_) <;> intro h <;> try (exfalso; first | omega | contradiction | (simp only [List.length_map] at h; omega))))
  refine Runs.loopN 30 rfl (fun j => [(0, .ro (bytesR a)), (3, .own 0), (4, .int (j : Int))]) (fun j => [⟨5, 1, (a.take j ++ List.replicate (a.length - j) 0).map fun z => .ro (.u8 z)⟩]) (fun _ => True) a.length 0 (Nat.zero_le _) trivial ⟨rfl, rfl, rfl, trivial⟩ (by simp) fun j hj _ next => ?_
  by_cases hlt : j < a.length
  · obtain ⟨x, hx⟩ : ∃ x, a[(j : Int).toNat]? = some x := ⟨_, List.getElem?_eq_getElem hlt⟩
    repeat' (first
      | refine RunsL.step tabOk hn rfl ?_
      | refine RunsL.nil ?_
      | refine Runs.toRegion 30 rfl ?_
      | refine op_storeF rfl rfl rfl rfl (by simp; omega) ?_
      | ((first | refine RunsL.pe hn rfl rfl rfl ?_ | refine RunsD.pe rfl rfl ?_); first
        | refine ⟨_, pu_indexAddr_own (n := a.length) rfl rfl rfl rfl (by simp; omega) (by omega) (by omega), ?_⟩)
      | (refine Runs.ctls 30 rfl ?_; first | refine Runs.cond_t rfl ?_ | refine Runs.cond_f rfl ?_ | ((first | refine Runs.cond_yes rfl ?_ ?_ | refine Runs.cond_nno rfl ?_ ?_); · first | omega | rfl | assumption | (simp only [List.length_map]; omega)) | ((first | refine Runs.cond_no rfl ?_ ?_ | refine Runs.cond_nyes rfl ?_ ?_); · first | omega | rfl | assumption | (simp only [List.length_map]; omega)) | refine Runs.cond_dec rfl (fun h => ?_) (fun h => ?_) | refine Runs.cond_ndec rfl (fun h => ?_) (fun h => ?_) | refine Runs.cond_nb rfl (fun h => ?_) (fun h => ?_) | refine Runs.cond_b rfl (fun h => ?_) (fun h => ?_) | refine Runs.ret (ends_ro hm rfl rfl ?_) | exact Runs.ret (ends_cellR hm rfl rfl rfl (Nat.le_of_ble_eq_true rfl) rfl rfl))
      | refine op_box rfl (tl hn rfl) ?_
      | refine op_storeF rfl rfl rfl rfl (Nat.le_of_ble_eq_true rfl) ?_
      | refine op_alloc (tl hn rfl) ?_
      | refine op_storeN rfl rfl rfl rfl (Nat.le_of_ble_eq_true rfl) ?_
      | refine RunsD.step tabOk hn rfl rfl ?_
      | refine RunsD.nil ?_
      | refine Runs.toDraw 30 mixed hn rfl (by kernel_rfl) rfl ?_
      | ((first | refine RunsL.pe hn rfl rfl rfl ?_ | refine RunsD.pe rfl rfl ?_); first
        | refine ⟨_, pu_add rfl rfl (by omega), ?_⟩
        | refine ⟨_, pu_indexAddr_map rfl rfl (by omega) (by assumption), ?_⟩
        | refine ⟨_, pu_sub rfl rfl (by omega), ?_⟩
        | refine ⟨_, pu_pick_b rfl rfl rfl, ?_⟩
        | refine ⟨_, pu_mul rfl rfl (by omega), ?_⟩
        | refine ⟨_, pu_build rfl rfl rfl rfl rfl rfl, ?_⟩)
      | ((first | refine RunsL.guard_dec rfl rfl rfl ?_ ?_ | refine RunsL.guard_ndec rfl rfl rfl ?_ ?_ | refine RunsL.guard_nb rfl rfl rfl ?_ ?_ | refine RunsL.guard_b rfl rfl rfl ?_ ?_ | refine RunsD.guard_dec rfl rfl rfl ?_ ?_ | refine RunsD.guard_ndec rfl rfl rfl ?_ ?_ | refine RunsD.guard_nb rfl rfl rfl ?_ ?_ | refine RunsD.guard_b rfl rfl rfl ?_ ?_) <;> intro h <;> try (exfalso; first | omega | contradiction | (simp only [List.length_map] at h; omega))))
    refine next _ _ ⟨rfl, rfl, rfl, trivial⟩ hlt trivial ?_
    have h := take_set a 0 a.length j rfl x hx
    simp only [List.set_cons_zero, Nat.mul_one, Int.toNat_natCast]
    rw [← h, List.map_set]
  · obtain rfl : j = a.length := by omega
    repeat' (first
      | refine RunsL.step tabOk hn rfl ?_
      | refine RunsL.nil ?_
      | refine Runs.toRegion 30 rfl ?_
      | (refine Runs.ctls 30 rfl ?_; first | refine Runs.cond_t rfl ?_ | refine Runs.cond_f rfl ?_ | ((first | refine Runs.cond_yes rfl ?_ ?_ | refine Runs.cond_nno rfl ?_ ?_); · first | omega | rfl | assumption | (simp only [List.length_map]; omega)) | ((first | refine Runs.cond_no rfl ?_ ?_ | refine Runs.cond_nyes rfl ?_ ?_); · first | omega | rfl | assumption | (simp only [List.length_map]; omega)) | refine Runs.cond_dec rfl (fun h => ?_) (fun h => ?_) | refine Runs.cond_ndec rfl (fun h => ?_) (fun h => ?_) | refine Runs.cond_nb rfl (fun h => ?_) (fun h => ?_) | refine Runs.cond_b rfl (fun h => ?_) (fun h => ?_) | refine Runs.ret (ends_ro hm rfl rfl ?_) | exact Runs.ret (ends_cellR hm rfl rfl rfl (Nat.le_of_ble_eq_true rfl) rfl rfl))
      | refine op_box rfl (tl hn rfl) ?_
      | refine op_storeF rfl rfl rfl rfl (Nat.le_of_ble_eq_true rfl) ?_
      | refine op_alloc (tl hn rfl) ?_
      | refine op_storeN rfl rfl rfl rfl (Nat.le_of_ble_eq_true rfl) ?_
      | refine RunsD.step tabOk hn rfl rfl ?_
      | refine RunsD.nil ?_
      | refine Runs.toDraw 30 mixed hn rfl (by kernel_rfl) rfl ?_
      | ((first | refine RunsL.pe hn rfl rfl rfl ?_ | refine RunsD.pe rfl rfl ?_); first
        | refine ⟨_, pu_add rfl rfl (by omega), ?_⟩
        | refine ⟨_, pu_indexAddr_map rfl rfl (by omega) (by assumption), ?_⟩
        | refine ⟨_, pu_sub rfl rfl (by omega), ?_⟩
        | refine ⟨_, pu_pick_b rfl rfl rfl, ?_⟩
        | refine ⟨_, pu_mul rfl rfl (by omega), ?_⟩
        | refine ⟨_, pu_build rfl rfl rfl rfl rfl rfl, ?_⟩)
      | ((first | refine RunsL.guard_dec rfl rfl rfl ?_ ?_ | refine RunsL.guard_ndec rfl rfl rfl ?_ ?_ | refine RunsL.guard_nb rfl rfl rfl ?_ ?_ | refine RunsL.guard_b rfl rfl rfl ?_ ?_ | refine RunsD.guard_dec rfl rfl rfl ?_ ?_ | refine RunsD.guard_ndec rfl rfl rfl ?_ ?_ | refine RunsD.guard_nb rfl rfl rfl ?_ ?_ | refine RunsD.guard_b rfl rfl rfl ?_ ?_) <;> intro h <;> try (exfalso; first | omega | contradiction | (simp only [List.length_map] at h; omega))))
    exact Runs.ctls 30 rfl (Runs.ret (ends_own (rs := a.map RV.u8) hm rfl rfl rfl (by simp) rfl))
theorem u8_ext {x y : UInt8} (h : (x.toNat : Int) = (y.toNat : Int)) : x = y := UInt8.toNat_inj.1 (Int.ofNat_inj.1 h)
end Go.Proofs.Ytcifgbmmnkilfaa
