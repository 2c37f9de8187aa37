/- Values of the format, which are trees, over values: the laws' helpers on them, opened arguments, counting, comparing. -/
import Derived.Test.YtignpklaefibaaaByt
import Derived.Test.YtignpklaefibaaaArg
import Derived.Test.YtignpklaefibaaaSum
namespace Go.Proofs.Ytignpklaefibaaa
set_option linter.unusedSimpArgs false
set_option linter.unusedVariables false
open Go.RowKit
inductive Tre where
  | mk (number : Int) (bytes : List UInt8) (items : List Tre)
namespace Tre
def number : Tre → Int | .mk n _ _ => n
def bytes : Tre → List UInt8 | .mk _ b _ => b
def items : Tre → List Tre | .mk _ _ l => l
mutual
/-- The cells of a tree. -/
def cells : Tre → List RV
  | .mk n b l => [.int n, bytesR b, .seq 3 (cellsL l)]
def cellsL : List Tre → List (List RV)
  | [] => []
  | v :: vs => cells v :: cellsL vs
/-- What a size counts. -/
def total : Tre → Nat
  | .mk _ b l => b.length + l.length + totalL l
def totalL : List Tre → Nat
  | [] => 0
  | v :: vs => total v + totalL vs
def count : Tre → Nat
  | .mk _ _ l => 1 + countL l
def countL : List Tre → Nat
  | [] => 0
  | v :: vs => count v + countL vs
def weight : Tre → Nat
  | .mk _ b l => b.length + weightL l
def weightL : List Tre → Nat
  | [] => 0
  | v :: vs => weight v + weightL vs
/-- In range: each number, each length. -/
def Ok : Tre → Prop
  | .mk n b l => I64 n ∧ b.length ≤ maxLen ∧ l.length ≤ maxLen ∧ OkL l
def OkL : List Tre → Prop
  | [] => True
  | v :: vs => Ok v ∧ OkL vs
end
theorem cellsL_eq : ∀ l, cellsL l = l.map cells
  | [] => rfl
  | v :: vs => by rw [cellsL, cellsL_eq vs]; rfl
theorem totalL_eq : ∀ l, totalL l = (l.map total).sum
  | [] => rfl
  | v :: vs => by rw [totalL, totalL_eq vs]; rfl
theorem countL_eq : ∀ l, countL l = (l.map count).sum
  | [] => rfl
  | v :: vs => by rw [countL, countL_eq vs]; rfl
theorem weightL_eq : ∀ l, weightL l = (l.map weight).sum
  | [] => rfl
  | v :: vs => by rw [weightL, weightL_eq vs]; rfl
theorem OkL_iff : ∀ {l}, OkL l ↔ ∀ x ∈ l, Ok x
  | [] => by simp [OkL]
  | v :: vs => by simp [OkL, OkL_iff (l := vs)]
theorem cells_eq (v : Tre) : v.cells = [.int v.number, bytesR v.bytes, .seq 3 (v.items.map cells)] := by
  cases v; rw [cells, cellsL_eq]; rfl
theorem total_eq (v : Tre) : v.total = v.bytes.length + v.items.length + (v.items.map total).sum := by
  cases v; rw [total, totalL_eq]; rfl
theorem count_eq (v : Tre) : v.count = 1 + (v.items.map count).sum := by
  cases v; rw [count, countL_eq]; rfl
theorem weight_eq (v : Tre) : v.weight = v.bytes.length + (v.items.map weight).sum := by
  cases v; rw [weight, weightL_eq]; rfl
theorem Ok.out {v : Tre} (h : v.Ok) : I64 v.number ∧ v.bytes.length ≤ maxLen ∧ v.items.length ≤ maxLen ∧ ∀ x ∈ v.items, x.Ok := by
  cases v; rw [Ok, OkL_iff] at h; exact h
theorem cells_len (v : Tre) : v.cells.length = 3 := by rw [cells_eq]; rfl
mutual
theorem ind {P : Tre → Prop} (h : ∀ v, (∀ x ∈ v.items, P x) → P v) : ∀ v, P v
  | .mk n b l => h _ (indL h l)
theorem indL {P : Tre → Prop} (h : ∀ v, (∀ x ∈ v.items, P x) → P v) : ∀ l : List Tre, ∀ x ∈ l, P x
  | [], x, hx => by cases hx
  | v :: vs, x, hx => by
    rcases List.mem_cons.1 hx with e | e
    · rw [e]; exact ind h v
    · exact indL h vs x e
end
mutual
theorem count_le : ∀ v : Tre, v.count ≤ 1 + v.total
  | .mk n b l => by have := countL_le l; simp only [count, total]; omega
theorem countL_le : ∀ l : List Tre, countL l ≤ l.length + totalL l
  | [] => by simp [countL]
  | v :: vs => by have := count_le v; have := countL_le vs; simp only [countL, totalL, List.length_cons]; omega
end
mutual
theorem weight_le : ∀ v : Tre, v.weight ≤ v.total
  | .mk n b l => by have := weightL_le l; simp only [weight, total]; omega
theorem weightL_le : ∀ l : List Tre, weightL l ≤ totalL l
  | [] => by simp [weightL]
  | v :: vs => by have := weight_le v; have := weightL_le vs; simp only [weightL, totalL]; omega
end
end Tre
/-- A list of trees. -/
def tresR (l : List Tre) : RV := .seq 3 (l.map Tre.cells)
def treR (v : Tre) : RV := .agg [.int v.number, bytesR v.bytes, tresR v.items]
theorem treC (v : Tre) : RV.agg v.cells = treR v := by rw [Tre.cells_eq]; rfl
theorem tre_of {rcs : List RV} (h : TyC Try.prog 28 rcs) : ∃ v : Tre, .agg rcs = treR v ∧ v.Ok := by
  have hc : Try.prog.cellsOf 28 = 3 := by kernel_rfl
  have key : ∀ (t : TypeId) (rcs : List RV), TyC Try.prog t rcs → (t = 28 → ∃ v : Tre, rcs = v.cells ∧ v.Ok) ∧ (t = 26 → ∃ l : List Tre, rcs = [tresR l] ∧ l.length ≤ maxLen ∧ ∀ x ∈ l, x.Ok) := by
    intro t rcs h
    induction h with
    | int h wf => exact ⟨fun e => (by subst e; rw [Try.underlying28] at h; cases h), fun e => (by subst e; rw [Try.underlying26] at h; cases h)⟩
    | bool h => exact ⟨fun e => (by subst e; rw [Try.underlying28] at h; cases h), fun e => (by subst e; rw [Try.underlying26] at h; cases h)⟩
    | str h _ => exact ⟨fun e => (by subst e; rw [Try.underlying28] at h; cases h), fun e => (by subst e; rw [Try.underlying26] at h; cases h)⟩
    | slice h hl hels ih =>
      refine ⟨fun e => (by subst e; rw [Try.underlying28] at h; cases h), fun e => ?_⟩
      subst e
      rw [Try.underlying26] at h
      injection h with h; injection h with h; subst h
      obtain ⟨l, rfl, hq⟩ := els_of (f := Tre.cells) (Q := Tre.Ok) fun el hel => (ih el hel).1 rfl
      exact ⟨l, by rw [hc]; rfl, by simpa using hl, hq⟩
    | struct h hl hcs ih =>
      refine ⟨fun e => ?_, fun e => (by subst e; rw [Try.underlying26] at h; cases h)⟩
      subst e
      rename_i fs cells
      rw [Try.underlying28] at h
      injection h with h; injection h with h; subst h
      obtain ⟨c0, c1, c2, rfl⟩ : ∃ a b c, cells = [a, b, c] := by
        rcases cells with _ | ⟨a, _ | ⟨b, _ | ⟨c, _ | ⟨d, r⟩⟩⟩⟩ <;> simp at hl
        exact ⟨a, b, c, rfl⟩
      obtain ⟨n, rfl, b0⟩ := (hcs 0 _ c0 rfl rfl).i64 Try.underlying3
      obtain ⟨bs, rfl, hb⟩ := (hcs 1 _ c1 rfl rfl).bytes Try.underlying25 Try.underlying5 (by kernel_rfl)
      obtain ⟨l, rfl, hl2, hq⟩ := (ih 2 _ c2 rfl rfl).2 rfl
      refine ⟨.mk n bs l, by rw [Tre.cells_eq]; rfl, ?_⟩
      rw [Tre.Ok, Tre.OkL_iff]
      exact ⟨b0, hb, hl2, hq⟩
  obtain ⟨v, rfl, hv⟩ := (key _ _ h).1 rfl
  exact ⟨v, treC v, hv⟩
theorem szTres_ac (l : List Tre) (ih : ∀ x ∈ l, ∀ left : Int, 0 ≤ left → left ≤ 1048576 → x.Ok → ACv Try.prog 10 [treR x, .int left] (.int (sz1 left x.total))) (left : Int) (h0 : 0 ≤ left) (h1 : left ≤ 1048576) (hl : l.length ≤ maxLen) (ho : ∀ x ∈ l, x.Ok) :
    ACv Try.prog 41 [tresR l, .int left] (.int (sz1 left (l.length + (l.map Tre.total).sum : Nat))) := by
  unfold maxLen at hl
  refine ac_enter Try.func41 rfl _ Try.ntmps41 (by simp) fun C hn hm => ?_
  by_cases h : left < (l.length : Int)
  · repeat' (first
    | refine RunsL.step tabOk hn rfl ?_
    | refine RunsL.nil ?_
    | refine Runs.toRegion 30 rfl ?_
    | ((first | refine RunsL.pe hn rfl rfl rfl ?_ | refine RunsD.pe rfl rfl ?_); first
      | refine ⟨_, pu_sub rfl rfl (by first | omega | (simp only [List.length_map]; omega)), ?_⟩)
    | (refine Runs.ctls 30 rfl ?_; first | refine Runs.cond_t rfl ?_ | refine Runs.cond_f rfl ?_ | ((first | refine Runs.cond_yes rfl ?_ ?_ | refine Runs.cond_nno rfl ?_ ?_); · first | omega | rfl | assumption | (simp only [List.length_map]; omega)) | ((first | refine Runs.cond_no rfl ?_ ?_ | refine Runs.cond_nyes rfl ?_ ?_); · first | omega | rfl | assumption | (simp only [List.length_map]; omega)) | refine Runs.cond_dec rfl (fun h => ?_) (fun h => ?_) | refine Runs.cond_ndec rfl (fun h => ?_) (fun h => ?_) | refine Runs.cond_nb rfl (fun h => ?_) (fun h => ?_) | refine Runs.cond_b rfl (fun h => ?_) (fun h => ?_) | refine Runs.ret (ends_ro hm rfl rfl ?_) | exact Runs.ret (ends_cellR hm rfl rfl rfl (Nat.le_of_ble_eq_true rfl) rfl rfl))
    | refine op_box rfl (tl hn rfl) ?_
    | refine op_storeF rfl rfl rfl rfl (Nat.le_of_ble_eq_true rfl) ?_
    | refine op_alloc (tl hn rfl) ?_
    | refine op_storeN rfl rfl rfl rfl (Nat.le_of_ble_eq_true rfl) ?_
    | refine RunsD.step tabOk hn rfl rfl ?_
    | refine RunsD.nil ?_
    | refine Runs.toDraw 30 mixed hn rfl (by kernel_rfl) rfl ?_
    | ((first | refine RunsL.pe hn rfl rfl rfl ?_ | refine RunsD.pe rfl rfl ?_); first
      | refine ⟨_, pu_add rfl rfl (by omega), ?_⟩
      | refine ⟨_, pu_indexAddr_map rfl rfl (by omega) (by assumption), ?_⟩
      | refine ⟨_, pu_sub rfl rfl (by omega), ?_⟩
      | refine ⟨_, pu_pick_b rfl rfl rfl, ?_⟩
      | refine ⟨_, pu_mul rfl rfl (by omega), ?_⟩
      | refine ⟨_, pu_build rfl rfl rfl rfl rfl rfl, ?_⟩)
    | ((first | refine RunsL.guard_dec rfl rfl rfl ?_ ?_ | refine RunsL.guard_ndec rfl rfl rfl ?_ ?_ | refine RunsL.guard_nb rfl rfl rfl ?_ ?_ | refine RunsL.guard_b rfl rfl rfl ?_ ?_ | refine RunsD.guard_dec rfl rfl rfl ?_ ?_ | refine RunsD.guard_ndec rfl rfl rfl ?_ ?_ | refine RunsD.guard_nb rfl rfl rfl ?_ ?_ | refine RunsD.guard_b rfl rfl rfl ?_ ?_) <;> intro h <;> try (exfalso; first | omega | contradiction | (simp only [List.length_map] at h; omega))))
    exact rr_int (sz1_neg (by omega)).symm
  · repeat' (first
    | refine RunsL.step tabOk hn rfl ?_
    | refine RunsL.nil ?_
    | refine Runs.toRegion 30 rfl ?_
    | ((first | refine RunsL.pe hn rfl rfl rfl ?_ | refine RunsD.pe rfl rfl ?_); first
      | refine ⟨_, pu_sub rfl rfl (by first | omega | (simp only [List.length_map]; omega)), ?_⟩)
    | (refine Runs.ctls 30 rfl ?_; first | refine Runs.cond_t rfl ?_ | refine Runs.cond_f rfl ?_ | ((first | refine Runs.cond_yes rfl ?_ ?_ | refine Runs.cond_nno rfl ?_ ?_); · first | omega | rfl | assumption | (simp only [List.length_map]; omega)) | ((first | refine Runs.cond_no rfl ?_ ?_ | refine Runs.cond_nyes rfl ?_ ?_); · first | omega | rfl | assumption | (simp only [List.length_map]; omega)) | refine Runs.cond_dec rfl (fun h => ?_) (fun h => ?_) | refine Runs.cond_ndec rfl (fun h => ?_) (fun h => ?_) | refine Runs.cond_nb rfl (fun h => ?_) (fun h => ?_) | refine Runs.cond_b rfl (fun h => ?_) (fun h => ?_) | refine Runs.ret (ends_ro hm rfl rfl ?_) | exact Runs.ret (ends_cellR hm rfl rfl rfl (Nat.le_of_ble_eq_true rfl) rfl rfl))
    | refine op_box rfl (tl hn rfl) ?_
    | refine op_storeF rfl rfl rfl rfl (Nat.le_of_ble_eq_true rfl) ?_
    | refine op_alloc (tl hn rfl) ?_
    | refine op_storeN rfl rfl rfl rfl (Nat.le_of_ble_eq_true rfl) ?_
    | refine RunsD.step tabOk hn rfl rfl ?_
    | refine RunsD.nil ?_
    | refine Runs.toDraw 30 mixed hn rfl (by kernel_rfl) rfl ?_
    | ((first | refine RunsL.pe hn rfl rfl rfl ?_ | refine RunsD.pe rfl rfl ?_); first
      | refine ⟨_, pu_add rfl rfl (by omega), ?_⟩
      | refine ⟨_, pu_indexAddr_map rfl rfl (by omega) (by assumption), ?_⟩
      | refine ⟨_, pu_sub rfl rfl (by omega), ?_⟩
      | refine ⟨_, pu_pick_b rfl rfl rfl, ?_⟩
      | refine ⟨_, pu_mul rfl rfl (by omega), ?_⟩
      | refine ⟨_, pu_build rfl rfl rfl rfl rfl rfl, ?_⟩)
    | ((first | refine RunsL.guard_dec rfl rfl rfl ?_ ?_ | refine RunsL.guard_ndec rfl rfl rfl ?_ ?_ | refine RunsL.guard_nb rfl rfl rfl ?_ ?_ | refine RunsL.guard_b rfl rfl rfl ?_ ?_ | refine RunsD.guard_dec rfl rfl rfl ?_ ?_ | refine RunsD.guard_ndec rfl rfl rfl ?_ ?_ | refine RunsD.guard_nb rfl rfl rfl ?_ ?_ | refine RunsD.guard_b rfl rfl rfl ?_ ?_) <;> intro h <;> try (exfalso; first | omega | contradiction | (simp only [List.length_map] at h; omega))))
    refine Runs.loopN 30 rfl (fun j => [(0, .ro (tresR l)), (1, .int (left - l.length - ((l.take j).map Tre.total).sum)), (5, .int (j : Int))]) (fun _ => []) (fun j => ((l.take j).map Tre.total).sum ≤ left - l.length) l.length 0 (Nat.zero_le _) (by simp; omega) ⟨rfl, by simp [look], rfl, trivial⟩ rfl fun j hj hQ next => ?_
    by_cases hlt : j < l.length
    · obtain ⟨x, hx⟩ : ∃ x, l[(j : Int).toNat]? = some x := ⟨_, List.getElem?_eq_getElem hlt⟩
      have hx' : l[j]? = some x := hx
      have hm' := List.mem_of_getElem? hx'
      have hs := sum_take_next Tre.total hx'
      have hle := sum_take_le Tre.total l (j + 1)
      have hcall := ih x hm' (left - l.length - ((l.take j).map Tre.total).sum) (by omega) (by omega) (ho x hm')
      by_cases hz : (left - l.length - ((l.take j).map Tre.total).sum) < (x.total : Int)
      · have e := sz1_neg hz
        rw [e] at hcall
        repeat' (first
          | refine RunsL.step tabOk hn rfl ?_
          | refine RunsL.nil ?_
          | refine Runs.toRegion 30 rfl ?_
          | ((first | refine RunsL.pe hn rfl rfl rfl ?_ | refine RunsD.pe rfl rfl ?_); first
            | refine ⟨_, pu_callR hcall rfl, ?_⟩
            | refine ⟨_, pu_loadN_eq rfl (Tre.cells_eq _) rfl, ?_⟩)
          | (refine Runs.ctls 30 rfl ?_; first | refine Runs.cond_t rfl ?_ | refine Runs.cond_f rfl ?_ | ((first | refine Runs.cond_yes rfl ?_ ?_ | refine Runs.cond_nno rfl ?_ ?_); · first | omega | rfl | assumption | (simp only [List.length_map]; omega)) | ((first | refine Runs.cond_no rfl ?_ ?_ | refine Runs.cond_nyes rfl ?_ ?_); · first | omega | rfl | assumption | (simp only [List.length_map]; omega)) | refine Runs.cond_dec rfl (fun h => ?_) (fun h => ?_) | refine Runs.cond_ndec rfl (fun h => ?_) (fun h => ?_) | refine Runs.cond_nb rfl (fun h => ?_) (fun h => ?_) | refine Runs.cond_b rfl (fun h => ?_) (fun h => ?_) | refine Runs.ret (ends_ro hm rfl rfl ?_) | exact Runs.ret (ends_cellR hm rfl rfl rfl (Nat.le_of_ble_eq_true rfl) rfl rfl))
          | refine op_box rfl (tl hn rfl) ?_
          | refine op_storeF rfl rfl rfl rfl (Nat.le_of_ble_eq_true rfl) ?_
          | refine op_alloc (tl hn rfl) ?_
          | refine op_storeN rfl rfl rfl rfl (Nat.le_of_ble_eq_true rfl) ?_
          | refine RunsD.step tabOk hn rfl rfl ?_
          | refine RunsD.nil ?_
          | refine Runs.toDraw 30 mixed hn rfl (by kernel_rfl) rfl ?_
          | ((first | refine RunsL.pe hn rfl rfl rfl ?_ | refine RunsD.pe rfl rfl ?_); first
            | refine ⟨_, pu_add rfl rfl (by omega), ?_⟩
            | refine ⟨_, pu_indexAddr_map rfl rfl (by omega) (by assumption), ?_⟩
            | refine ⟨_, pu_sub rfl rfl (by omega), ?_⟩
            | refine ⟨_, pu_pick_b rfl rfl rfl, ?_⟩
            | refine ⟨_, pu_mul rfl rfl (by omega), ?_⟩
            | refine ⟨_, pu_build rfl rfl rfl rfl rfl rfl, ?_⟩)
          | ((first | refine RunsL.guard_dec rfl rfl rfl ?_ ?_ | refine RunsL.guard_ndec rfl rfl rfl ?_ ?_ | refine RunsL.guard_nb rfl rfl rfl ?_ ?_ | refine RunsL.guard_b rfl rfl rfl ?_ ?_ | refine RunsD.guard_dec rfl rfl rfl ?_ ?_ | refine RunsD.guard_ndec rfl rfl rfl ?_ ?_ | refine RunsD.guard_nb rfl rfl rfl ?_ ?_ | refine RunsD.guard_b rfl rfl rfl ?_ ?_) <;> intro h <;> try (exfalso; first | omega | contradiction | (simp only [List.length_map] at h; omega))))
        exact rr_int (sz1_neg (by omega)).symm
      · have e := sz1_pos (left := left - l.length - ((l.take j).map Tre.total).sum) (n := x.total) (by omega)
        rw [e] at hcall
        repeat' (first
          | refine RunsL.step tabOk hn rfl ?_
          | refine RunsL.nil ?_
          | refine Runs.toRegion 30 rfl ?_
          | ((first | refine RunsL.pe hn rfl rfl rfl ?_ | refine RunsD.pe rfl rfl ?_); first
            | refine ⟨_, pu_callR hcall rfl, ?_⟩
            | refine ⟨_, pu_loadN_eq rfl (Tre.cells_eq _) rfl, ?_⟩)
          | (refine Runs.ctls 30 rfl ?_; first | refine Runs.cond_t rfl ?_ | refine Runs.cond_f rfl ?_ | ((first | refine Runs.cond_yes rfl ?_ ?_ | refine Runs.cond_nno rfl ?_ ?_); · first | omega | rfl | assumption | (simp only [List.length_map]; omega)) | ((first | refine Runs.cond_no rfl ?_ ?_ | refine Runs.cond_nyes rfl ?_ ?_); · first | omega | rfl | assumption | (simp only [List.length_map]; omega)) | refine Runs.cond_dec rfl (fun h => ?_) (fun h => ?_) | refine Runs.cond_ndec rfl (fun h => ?_) (fun h => ?_) | refine Runs.cond_nb rfl (fun h => ?_) (fun h => ?_) | refine Runs.cond_b rfl (fun h => ?_) (fun h => ?_) | refine Runs.ret (ends_ro hm rfl rfl ?_) | exact Runs.ret (ends_cellR hm rfl rfl rfl (Nat.le_of_ble_eq_true rfl) rfl rfl))
          | refine op_box rfl (tl hn rfl) ?_
          | refine op_storeF rfl rfl rfl rfl (Nat.le_of_ble_eq_true rfl) ?_
          | refine op_alloc (tl hn rfl) ?_
          | refine op_storeN rfl rfl rfl rfl (Nat.le_of_ble_eq_true rfl) ?_
          | refine RunsD.step tabOk hn rfl rfl ?_
          | refine RunsD.nil ?_
          | refine Runs.toDraw 30 mixed hn rfl (by kernel_rfl) rfl ?_
          | ((first | refine RunsL.pe hn rfl rfl rfl ?_ | refine RunsD.pe rfl rfl ?_); first
            | refine ⟨_, pu_add rfl rfl (by omega), ?_⟩
            | refine ⟨_, pu_indexAddr_map rfl rfl (by omega) (by assumption), ?_⟩
            | refine ⟨_, pu_sub rfl rfl (by omega), ?_⟩
            | refine ⟨_, pu_pick_b rfl rfl rfl, ?_⟩
            | refine ⟨_, pu_mul rfl rfl (by omega), ?_⟩
            | refine ⟨_, pu_build rfl rfl rfl rfl rfl rfl, ?_⟩)
          | ((first | refine RunsL.guard_dec rfl rfl rfl ?_ ?_ | refine RunsL.guard_ndec rfl rfl rfl ?_ ?_ | refine RunsL.guard_nb rfl rfl rfl ?_ ?_ | refine RunsL.guard_b rfl rfl rfl ?_ ?_ | refine RunsD.guard_dec rfl rfl rfl ?_ ?_ | refine RunsD.guard_ndec rfl rfl rfl ?_ ?_ | refine RunsD.guard_nb rfl rfl rfl ?_ ?_ | refine RunsD.guard_b rfl rfl rfl ?_ ?_) <;> intro h <;> try (exfalso; first | omega | contradiction | (simp only [List.length_map] at h; omega))))
        refine next _ _ ⟨rfl, ?_, rfl, trivial⟩ hlt (by omega) rfl
        exact av_int (by rw [hs]; omega)
    · repeat' (first
      | refine RunsL.step tabOk hn rfl ?_
      | refine RunsL.nil ?_
      | refine Runs.toRegion 30 rfl ?_
      | (refine Runs.ctls 30 rfl ?_; first | refine Runs.cond_t rfl ?_ | refine Runs.cond_f rfl ?_ | ((first | refine Runs.cond_yes rfl ?_ ?_ | refine Runs.cond_nno rfl ?_ ?_); · first | omega | rfl | assumption | (simp only [List.length_map]; omega)) | ((first | refine Runs.cond_no rfl ?_ ?_ | refine Runs.cond_nyes rfl ?_ ?_); · first | omega | rfl | assumption | (simp only [List.length_map]; omega)) | refine Runs.cond_dec rfl (fun h => ?_) (fun h => ?_) | refine Runs.cond_ndec rfl (fun h => ?_) (fun h => ?_) | refine Runs.cond_nb rfl (fun h => ?_) (fun h => ?_) | refine Runs.cond_b rfl (fun h => ?_) (fun h => ?_) | refine Runs.ret (ends_ro hm rfl rfl ?_) | exact Runs.ret (ends_cellR hm rfl rfl rfl (Nat.le_of_ble_eq_true rfl) rfl rfl))
      | refine op_box rfl (tl hn rfl) ?_
      | refine op_storeF rfl rfl rfl rfl (Nat.le_of_ble_eq_true rfl) ?_
      | refine op_alloc (tl hn rfl) ?_
      | refine op_storeN rfl rfl rfl rfl (Nat.le_of_ble_eq_true rfl) ?_
      | refine RunsD.step tabOk hn rfl rfl ?_
      | refine RunsD.nil ?_
      | refine Runs.toDraw 30 mixed hn rfl (by kernel_rfl) rfl ?_
      | ((first | refine RunsL.pe hn rfl rfl rfl ?_ | refine RunsD.pe rfl rfl ?_); first
        | refine ⟨_, pu_add rfl rfl (by omega), ?_⟩
        | refine ⟨_, pu_indexAddr_map rfl rfl (by omega) (by assumption), ?_⟩
        | refine ⟨_, pu_sub rfl rfl (by omega), ?_⟩
        | refine ⟨_, pu_pick_b rfl rfl rfl, ?_⟩
        | refine ⟨_, pu_mul rfl rfl (by omega), ?_⟩
        | refine ⟨_, pu_build rfl rfl rfl rfl rfl rfl, ?_⟩)
      | ((first | refine RunsL.guard_dec rfl rfl rfl ?_ ?_ | refine RunsL.guard_ndec rfl rfl rfl ?_ ?_ | refine RunsL.guard_nb rfl rfl rfl ?_ ?_ | refine RunsL.guard_b rfl rfl rfl ?_ ?_ | refine RunsD.guard_dec rfl rfl rfl ?_ ?_ | refine RunsD.guard_ndec rfl rfl rfl ?_ ?_ | refine RunsD.guard_nb rfl rfl rfl ?_ ?_ | refine RunsD.guard_b rfl rfl rfl ?_ ?_) <;> intro h <;> try (exfalso; first | omega | contradiction | (simp only [List.length_map] at h; omega))))
      obtain rfl : j = l.length := by omega
      rw [List.take_length] at hQ ⊢
      exact rr_int (by rw [sz1_pos (by omega)]; omega)
theorem szTre_ac : ∀ (v : Tre) (left : Int), 0 ≤ left → left ≤ 1048576 → v.Ok → ACv Try.prog 10 [treR v, .int left] (.int (sz1 left v.total)) := by
  refine Tre.ind fun v ih left h0 h1 ho => ?_
  obtain ⟨o1, o2, o3, o4⟩ := ho.out
  have hb := szBytes_ac v.bytes left h0 h1 o2
  have ht := v.total_eq
  refine ac_enter Try.func10 rfl _ Try.ntmps10 (by simp) fun C hn hm => ?_
  by_cases h : left < (v.bytes.length : Int)
  · rw [sz1_neg h] at hb
    repeat' (first
      | refine RunsL.step tabOk hn rfl ?_
      | refine RunsL.nil ?_
      | refine Runs.toRegion 30 rfl ?_
      | ((first | refine RunsL.pe hn rfl rfl rfl ?_ | refine RunsD.pe rfl rfl ?_); first
        | refine ⟨_, pu_callR hb rfl, ?_⟩)
      | (refine Runs.ctls 30 rfl ?_; first | refine Runs.cond_t rfl ?_ | refine Runs.cond_f rfl ?_ | ((first | refine Runs.cond_yes rfl ?_ ?_ | refine Runs.cond_nno rfl ?_ ?_); · first | omega | rfl | assumption | (simp only [List.length_map]; omega)) | ((first | refine Runs.cond_no rfl ?_ ?_ | refine Runs.cond_nyes rfl ?_ ?_); · first | omega | rfl | assumption | (simp only [List.length_map]; omega)) | refine Runs.cond_dec rfl (fun h => ?_) (fun h => ?_) | refine Runs.cond_ndec rfl (fun h => ?_) (fun h => ?_) | refine Runs.cond_nb rfl (fun h => ?_) (fun h => ?_) | refine Runs.cond_b rfl (fun h => ?_) (fun h => ?_) | refine Runs.ret (ends_ro hm rfl rfl ?_) | exact Runs.ret (ends_cellR hm rfl rfl rfl (Nat.le_of_ble_eq_true rfl) rfl rfl))
      | refine op_box rfl (tl hn rfl) ?_
      | refine op_storeF rfl rfl rfl rfl (Nat.le_of_ble_eq_true rfl) ?_
      | refine op_alloc (tl hn rfl) ?_
      | refine op_storeN rfl rfl rfl rfl (Nat.le_of_ble_eq_true rfl) ?_
      | refine RunsD.step tabOk hn rfl rfl ?_
      | refine RunsD.nil ?_
      | refine Runs.toDraw 30 mixed hn rfl (by kernel_rfl) rfl ?_
      | ((first | refine RunsL.pe hn rfl rfl rfl ?_ | refine RunsD.pe rfl rfl ?_); first
        | refine ⟨_, pu_add rfl rfl (by omega), ?_⟩
        | refine ⟨_, pu_indexAddr_map rfl rfl (by omega) (by assumption), ?_⟩
        | refine ⟨_, pu_sub rfl rfl (by omega), ?_⟩
        | refine ⟨_, pu_pick_b rfl rfl rfl, ?_⟩
        | refine ⟨_, pu_mul rfl rfl (by omega), ?_⟩
        | refine ⟨_, pu_build rfl rfl rfl rfl rfl rfl, ?_⟩)
      | ((first | refine RunsL.guard_dec rfl rfl rfl ?_ ?_ | refine RunsL.guard_ndec rfl rfl rfl ?_ ?_ | refine RunsL.guard_nb rfl rfl rfl ?_ ?_ | refine RunsL.guard_b rfl rfl rfl ?_ ?_ | refine RunsD.guard_dec rfl rfl rfl ?_ ?_ | refine RunsD.guard_ndec rfl rfl rfl ?_ ?_ | refine RunsD.guard_nb rfl rfl rfl ?_ ?_ | refine RunsD.guard_b rfl rfl rfl ?_ ?_) <;> intro h <;> try (exfalso; first | omega | contradiction | (simp only [List.length_map] at h; omega))))
    exact rr_int (sz1_neg (by omega)).symm
  · rw [sz1_pos (by omega)] at hb
    have hv := szTres_ac v.items ih (left - v.bytes.length) (by omega) (by omega) o3 o4
    by_cases h2 : left - v.bytes.length < ((v.items.length + (v.items.map Tre.total).sum : Nat) : Int)
    · rw [sz1_neg h2] at hv
      repeat' (first
        | refine RunsL.step tabOk hn rfl ?_
        | refine RunsL.nil ?_
        | refine Runs.toRegion 30 rfl ?_
        | ((first | refine RunsL.pe hn rfl rfl rfl ?_ | refine RunsD.pe rfl rfl ?_); first
          | refine ⟨_, pu_callR hb rfl, ?_⟩
          | refine ⟨_, pu_callR hv rfl, ?_⟩)
        | (refine Runs.ctls 30 rfl ?_; first | refine Runs.cond_t rfl ?_ | refine Runs.cond_f rfl ?_ | ((first | refine Runs.cond_yes rfl ?_ ?_ | refine Runs.cond_nno rfl ?_ ?_); · first | omega | rfl | assumption | (simp only [List.length_map]; omega)) | ((first | refine Runs.cond_no rfl ?_ ?_ | refine Runs.cond_nyes rfl ?_ ?_); · first | omega | rfl | assumption | (simp only [List.length_map]; omega)) | refine Runs.cond_dec rfl (fun h => ?_) (fun h => ?_) | refine Runs.cond_ndec rfl (fun h => ?_) (fun h => ?_) | refine Runs.cond_nb rfl (fun h => ?_) (fun h => ?_) | refine Runs.cond_b rfl (fun h => ?_) (fun h => ?_) | refine Runs.ret (ends_ro hm rfl rfl ?_) | exact Runs.ret (ends_cellR hm rfl rfl rfl (Nat.le_of_ble_eq_true rfl) rfl rfl))
        | refine op_box rfl (tl hn rfl) ?_
        | refine op_storeF rfl rfl rfl rfl (Nat.le_of_ble_eq_true rfl) ?_
        | refine op_alloc (tl hn rfl) ?_
        | refine op_storeN rfl rfl rfl rfl (Nat.le_of_ble_eq_true rfl) ?_
        | refine RunsD.step tabOk hn rfl rfl ?_
        | refine RunsD.nil ?_
        | refine Runs.toDraw 30 mixed hn rfl (by kernel_rfl) rfl ?_
        | ((first | refine RunsL.pe hn rfl rfl rfl ?_ | refine RunsD.pe rfl rfl ?_); first
          | refine ⟨_, pu_add rfl rfl (by omega), ?_⟩
          | refine ⟨_, pu_indexAddr_map rfl rfl (by omega) (by assumption), ?_⟩
          | refine ⟨_, pu_sub rfl rfl (by omega), ?_⟩
          | refine ⟨_, pu_pick_b rfl rfl rfl, ?_⟩
          | refine ⟨_, pu_mul rfl rfl (by omega), ?_⟩
          | refine ⟨_, pu_build rfl rfl rfl rfl rfl rfl, ?_⟩)
        | ((first | refine RunsL.guard_dec rfl rfl rfl ?_ ?_ | refine RunsL.guard_ndec rfl rfl rfl ?_ ?_ | refine RunsL.guard_nb rfl rfl rfl ?_ ?_ | refine RunsL.guard_b rfl rfl rfl ?_ ?_ | refine RunsD.guard_dec rfl rfl rfl ?_ ?_ | refine RunsD.guard_ndec rfl rfl rfl ?_ ?_ | refine RunsD.guard_nb rfl rfl rfl ?_ ?_ | refine RunsD.guard_b rfl rfl rfl ?_ ?_) <;> intro h <;> try (exfalso; first | omega | contradiction | (simp only [List.length_map] at h; omega))))
      exact rr_int (sz1_neg (by omega)).symm
    · rw [sz1_pos (by omega)] at hv
      repeat' (first
        | refine RunsL.step tabOk hn rfl ?_
        | refine RunsL.nil ?_
        | refine Runs.toRegion 30 rfl ?_
        | ((first | refine RunsL.pe hn rfl rfl rfl ?_ | refine RunsD.pe rfl rfl ?_); first
          | refine ⟨_, pu_callR hb rfl, ?_⟩
          | refine ⟨_, pu_callR hv rfl, ?_⟩)
        | (refine Runs.ctls 30 rfl ?_; first | refine Runs.cond_t rfl ?_ | refine Runs.cond_f rfl ?_ | ((first | refine Runs.cond_yes rfl ?_ ?_ | refine Runs.cond_nno rfl ?_ ?_); · first | omega | rfl | assumption | (simp only [List.length_map]; omega)) | ((first | refine Runs.cond_no rfl ?_ ?_ | refine Runs.cond_nyes rfl ?_ ?_); · first | omega | rfl | assumption | (simp only [List.length_map]; omega)) | refine Runs.cond_dec rfl (fun h => ?_) (fun h => ?_) | refine Runs.cond_ndec rfl (fun h => ?_) (fun h => ?_) | refine Runs.cond_nb rfl (fun h => ?_) (fun h => ?_) | refine Runs.cond_b rfl (fun h => ?_) (fun h => ?_) | refine Runs.ret (ends_ro hm rfl rfl ?_) | exact Runs.ret (ends_cellR hm rfl rfl rfl (Nat.le_of_ble_eq_true rfl) rfl rfl))
        | refine op_box rfl (tl hn rfl) ?_
        | refine op_storeF rfl rfl rfl rfl (Nat.le_of_ble_eq_true rfl) ?_
        | refine op_alloc (tl hn rfl) ?_
        | refine op_storeN rfl rfl rfl rfl (Nat.le_of_ble_eq_true rfl) ?_
        | refine RunsD.step tabOk hn rfl rfl ?_
        | refine RunsD.nil ?_
        | refine Runs.toDraw 30 mixed hn rfl (by kernel_rfl) rfl ?_
        | ((first | refine RunsL.pe hn rfl rfl rfl ?_ | refine RunsD.pe rfl rfl ?_); first
          | refine ⟨_, pu_add rfl rfl (by omega), ?_⟩
          | refine ⟨_, pu_indexAddr_map rfl rfl (by omega) (by assumption), ?_⟩
          | refine ⟨_, pu_sub rfl rfl (by omega), ?_⟩
          | refine ⟨_, pu_pick_b rfl rfl rfl, ?_⟩
          | refine ⟨_, pu_mul rfl rfl (by omega), ?_⟩
          | refine ⟨_, pu_build rfl rfl rfl rfl rfl rfl, ?_⟩)
        | ((first | refine RunsL.guard_dec rfl rfl rfl ?_ ?_ | refine RunsL.guard_ndec rfl rfl rfl ?_ ?_ | refine RunsL.guard_nb rfl rfl rfl ?_ ?_ | refine RunsL.guard_b rfl rfl rfl ?_ ?_ | refine RunsD.guard_dec rfl rfl rfl ?_ ?_ | refine RunsD.guard_ndec rfl rfl rfl ?_ ?_ | refine RunsD.guard_nb rfl rfl rfl ?_ ?_ | refine RunsD.guard_b rfl rfl rfl ?_ ?_) <;> intro h <;> try (exfalso; first | omega | contradiction | (simp only [List.length_map] at h; omega))))
      exact rr_int (by rw [sz1_pos (by omega)]; omega)
theorem toTres_ac (l : List Tre) (ih : ∀ x ∈ l, x.total ≤ 1048576 → ACv Try.prog 13 [treR x] (treR x)) (hl : l.length ≤ 1048576) (ht : (l.map Tre.total).sum ≤ 1048576) : ACv Try.prog 47 [tresR l] (tresR l) := by
  have hl' : (l.map Tre.cells).length = l.length := List.length_map ..
  refine ac_enter Try.func47 rfl _ Try.ntmps47 (by simp) fun C hn hm => ?_
  repeat' (first
    | refine RunsL.step tabOk hn rfl ?_
    | refine RunsL.nil ?_
    | refine Runs.toRegion 30 rfl ?_
    | refine op_makeN (zs := [.int .i64 0, .slice none 0 0, .slice none 0 0]) rfl rfl rfl rfl (by decide) rfl (by omega) (by unfold maxLen; omega) (tl hn rfl) ?_
    | (refine Runs.ctls 30 rfl ?_; first | refine Runs.cond_t rfl ?_ | refine Runs.cond_f rfl ?_ | ((first | refine Runs.cond_yes rfl ?_ ?_ | refine Runs.cond_nno rfl ?_ ?_); · first | omega | rfl | assumption | (simp only [List.length_map]; omega)) | ((first | refine Runs.cond_no rfl ?_ ?_ | refine Runs.cond_nyes rfl ?_ ?_); · first | omega | rfl | assumption | (simp only [List.length_map]; omega)) | refine Runs.cond_dec rfl (fun h => ?_) (fun h => ?_) | refine Runs.cond_ndec rfl (fun h => ?_) (fun h => ?_) | refine Runs.cond_nb rfl (fun h => ?_) (fun h => ?_) | refine Runs.cond_b rfl (fun h => ?_) (fun h => ?_) | refine Runs.ret (ends_ro hm rfl rfl ?_) | exact Runs.ret (ends_cellR hm rfl rfl rfl (Nat.le_of_ble_eq_true rfl) rfl rfl))
    | refine op_box rfl (tl hn rfl) ?_
    | refine op_storeF rfl rfl rfl rfl (Nat.le_of_ble_eq_true rfl) ?_
    | refine op_alloc (tl hn rfl) ?_
    | refine op_storeN rfl rfl rfl rfl (Nat.le_of_ble_eq_true rfl) ?_
    | refine RunsD.step tabOk hn rfl rfl ?_
    | refine RunsD.nil ?_
    | refine Runs.toDraw 30 mixed hn rfl (by kernel_rfl) rfl ?_
    | ((first | refine RunsL.pe hn rfl rfl rfl ?_ | refine RunsD.pe rfl rfl ?_); first
      | refine ⟨_, pu_add rfl rfl (by omega), ?_⟩
      | refine ⟨_, pu_indexAddr_map rfl rfl (by omega) (by assumption), ?_⟩
      | refine ⟨_, pu_sub rfl rfl (by omega), ?_⟩
      | refine ⟨_, pu_pick_b rfl rfl rfl, ?_⟩
      | refine ⟨_, pu_mul rfl rfl (by omega), ?_⟩
      | refine ⟨_, pu_build rfl rfl rfl rfl rfl rfl, ?_⟩)
    | ((first | refine RunsL.guard_dec rfl rfl rfl ?_ ?_ | refine RunsL.guard_ndec rfl rfl rfl ?_ ?_ | refine RunsL.guard_nb rfl rfl rfl ?_ ?_ | refine RunsL.guard_b rfl rfl rfl ?_ ?_ | refine RunsD.guard_dec rfl rfl rfl ?_ ?_ | refine RunsD.guard_ndec rfl rfl rfl ?_ ?_ | refine RunsD.guard_nb rfl rfl rfl ?_ ?_ | refine RunsD.guard_b rfl rfl rfl ?_ ?_) <;> intro h <;> try (exfalso; first | omega | contradiction | (simp only [List.length_map] at h; omega))))
  refine Runs.loopN 30 rfl (fun j => [(0, .ro (tresR l)), (3, .own 0), (4, .int (j : Int))]) (fun j => [⟨38, 3, (filled Tre.cells [.int 0, .nil, .nil] l j).map .ro⟩]) (fun _ => True) l.length 0 (Nat.zero_le _) trivial ⟨rfl, rfl, rfl, trivial⟩ (by rw [filled_zero, hl']; rfl) fun j hj _ next => ?_
  have hlen := filled_len Tre.cells_len (zc := [.int 0, .nil, .nil]) rfl l j hj
  by_cases hlt : j < l.length
  · obtain ⟨x, hx⟩ : ∃ x, l[(j : Int).toNat]? = some x := ⟨_, List.getElem?_eq_getElem hlt⟩
    have hm' := List.mem_of_getElem? hx
    have hcall := ih x hm' (Nat.le_trans (sum_mem_le Tre.total hm') ht)
    repeat' (first
      | refine RunsL.step tabOk hn rfl ?_
      | refine RunsL.nil ?_
      | refine Runs.toRegion 30 rfl ?_
      | refine op_storeN rfl rfl rfl rfl (by simp only [List.length_map, List.length_cons, List.length_nil]; omega) ?_
      | ((first | refine RunsL.pe hn rfl rfl rfl ?_ | refine RunsD.pe rfl rfl ?_); first
        | refine ⟨_, pu_callR hcall rfl, ?_⟩
        | refine ⟨_, pu_loadN_eq rfl (Tre.cells_eq _) rfl, ?_⟩
        | refine ⟨_, pu_indexAddr_own (n := l.length) rfl rfl rfl rfl (by simp only [List.length_map]; omega) (by omega) (by omega), ?_⟩)
      | (refine Runs.ctls 30 rfl ?_; first | refine Runs.cond_t rfl ?_ | refine Runs.cond_f rfl ?_ | ((first | refine Runs.cond_yes rfl ?_ ?_ | refine Runs.cond_nno rfl ?_ ?_); · first | omega | rfl | assumption | (simp only [List.length_map]; omega)) | ((first | refine Runs.cond_no rfl ?_ ?_ | refine Runs.cond_nyes rfl ?_ ?_); · first | omega | rfl | assumption | (simp only [List.length_map]; omega)) | refine Runs.cond_dec rfl (fun h => ?_) (fun h => ?_) | refine Runs.cond_ndec rfl (fun h => ?_) (fun h => ?_) | refine Runs.cond_nb rfl (fun h => ?_) (fun h => ?_) | refine Runs.cond_b rfl (fun h => ?_) (fun h => ?_) | refine Runs.ret (ends_ro hm rfl rfl ?_) | exact Runs.ret (ends_cellR hm rfl rfl rfl (Nat.le_of_ble_eq_true rfl) rfl rfl))
      | refine op_box rfl (tl hn rfl) ?_
      | refine op_storeF rfl rfl rfl rfl (Nat.le_of_ble_eq_true rfl) ?_
      | refine op_alloc (tl hn rfl) ?_
      | refine op_storeN rfl rfl rfl rfl (Nat.le_of_ble_eq_true rfl) ?_
      | refine RunsD.step tabOk hn rfl rfl ?_
      | refine RunsD.nil ?_
      | refine Runs.toDraw 30 mixed hn rfl (by kernel_rfl) rfl ?_
      | ((first | refine RunsL.pe hn rfl rfl rfl ?_ | refine RunsD.pe rfl rfl ?_); first
        | refine ⟨_, pu_add rfl rfl (by omega), ?_⟩
        | refine ⟨_, pu_indexAddr_map rfl rfl (by omega) (by assumption), ?_⟩
        | refine ⟨_, pu_sub rfl rfl (by omega), ?_⟩
        | refine ⟨_, pu_pick_b rfl rfl rfl, ?_⟩
        | refine ⟨_, pu_mul rfl rfl (by omega), ?_⟩
        | refine ⟨_, pu_build rfl rfl rfl rfl rfl rfl, ?_⟩)
      | ((first | refine RunsL.guard_dec rfl rfl rfl ?_ ?_ | refine RunsL.guard_ndec rfl rfl rfl ?_ ?_ | refine RunsL.guard_nb rfl rfl rfl ?_ ?_ | refine RunsL.guard_b rfl rfl rfl ?_ ?_ | refine RunsD.guard_dec rfl rfl rfl ?_ ?_ | refine RunsD.guard_ndec rfl rfl rfl ?_ ?_ | refine RunsD.guard_nb rfl rfl rfl ?_ ?_ | refine RunsD.guard_b rfl rfl rfl ?_ ?_) <;> intro h <;> try (exfalso; first | omega | contradiction | (simp only [List.length_map] at h; omega))))
    refine next _ _ ⟨rfl, rfl, rfl, trivial⟩ hlt trivial ?_
    rw [← filled_set Tre.cells_len rfl l j x hx, Tre.cells_eq]
    rfl
  · obtain rfl : j = l.length := by omega
    repeat' (first
      | refine RunsL.step tabOk hn rfl ?_
      | refine RunsL.nil ?_
      | refine Runs.toRegion 30 rfl ?_
      | (refine Runs.ctls 30 rfl ?_; first | refine Runs.cond_t rfl ?_ | refine Runs.cond_f rfl ?_ | ((first | refine Runs.cond_yes rfl ?_ ?_ | refine Runs.cond_nno rfl ?_ ?_); · first | omega | rfl | assumption | (simp only [List.length_map]; omega)) | ((first | refine Runs.cond_no rfl ?_ ?_ | refine Runs.cond_nyes rfl ?_ ?_); · first | omega | rfl | assumption | (simp only [List.length_map]; omega)) | refine Runs.cond_dec rfl (fun h => ?_) (fun h => ?_) | refine Runs.cond_ndec rfl (fun h => ?_) (fun h => ?_) | refine Runs.cond_nb rfl (fun h => ?_) (fun h => ?_) | refine Runs.cond_b rfl (fun h => ?_) (fun h => ?_) | refine Runs.ret (ends_ro hm rfl rfl ?_) | exact Runs.ret (ends_cellR hm rfl rfl rfl (Nat.le_of_ble_eq_true rfl) rfl rfl))
      | refine op_box rfl (tl hn rfl) ?_
      | refine op_storeF rfl rfl rfl rfl (Nat.le_of_ble_eq_true rfl) ?_
      | refine op_alloc (tl hn rfl) ?_
      | refine op_storeN rfl rfl rfl rfl (Nat.le_of_ble_eq_true rfl) ?_
      | refine RunsD.step tabOk hn rfl rfl ?_
      | refine RunsD.nil ?_
      | refine Runs.toDraw 30 mixed hn rfl (by kernel_rfl) rfl ?_
      | ((first | refine RunsL.pe hn rfl rfl rfl ?_ | refine RunsD.pe rfl rfl ?_); first
        | refine ⟨_, pu_add rfl rfl (by omega), ?_⟩
        | refine ⟨_, pu_indexAddr_map rfl rfl (by omega) (by assumption), ?_⟩
        | refine ⟨_, pu_sub rfl rfl (by omega), ?_⟩
        | refine ⟨_, pu_pick_b rfl rfl rfl, ?_⟩
        | refine ⟨_, pu_mul rfl rfl (by omega), ?_⟩
        | refine ⟨_, pu_build rfl rfl rfl rfl rfl rfl, ?_⟩)
      | ((first | refine RunsL.guard_dec rfl rfl rfl ?_ ?_ | refine RunsL.guard_ndec rfl rfl rfl ?_ ?_ | refine RunsL.guard_nb rfl rfl rfl ?_ ?_ | refine RunsL.guard_b rfl rfl rfl ?_ ?_ | refine RunsD.guard_dec rfl rfl rfl ?_ ?_ | refine RunsD.guard_ndec rfl rfl rfl ?_ ?_ | refine RunsD.guard_nb rfl rfl rfl ?_ ?_ | refine RunsD.guard_b rfl rfl rfl ?_ ?_) <;> intro h <;> try (exfalso; first | omega | contradiction | (simp only [List.length_map] at h; omega))))
    exact Runs.ctls 30 rfl (Runs.ret (ends_ownR (els := l.map Tre.cells) hm rfl rfl rfl rfl (by rw [filled_full]) (by simp [Tre.cells_len])))
theorem toTre_ac : ∀ v : Tre, v.total ≤ 1048576 → ACv Try.prog 13 [treR v] (treR v) := by
  refine Tre.ind fun v ih ht => ?_
  have he := v.total_eq
  have hb := toBytes_ac v.bytes (by omega)
  have hi := toTres_ac v.items ih (by omega) (by omega)
  refine ac_enter Try.func13 rfl _ Try.ntmps13 (by simp) fun C hn hm => ?_
  repeat' (first
    | refine RunsL.step tabOk hn rfl ?_
    | refine RunsL.nil ?_
    | refine Runs.toRegion 30 rfl ?_
    | ((first | refine RunsL.pe hn rfl rfl rfl ?_ | refine RunsD.pe rfl rfl ?_); first
      | refine ⟨_, pu_callR hb rfl, ?_⟩
      | refine ⟨_, pu_callR hi rfl, ?_⟩)
    | (refine Runs.ctls 30 rfl ?_; first | refine Runs.cond_t rfl ?_ | refine Runs.cond_f rfl ?_ | ((first | refine Runs.cond_yes rfl ?_ ?_ | refine Runs.cond_nno rfl ?_ ?_); · first | omega | rfl | assumption | (simp only [List.length_map]; omega)) | ((first | refine Runs.cond_no rfl ?_ ?_ | refine Runs.cond_nyes rfl ?_ ?_); · first | omega | rfl | assumption | (simp only [List.length_map]; omega)) | refine Runs.cond_dec rfl (fun h => ?_) (fun h => ?_) | refine Runs.cond_ndec rfl (fun h => ?_) (fun h => ?_) | refine Runs.cond_nb rfl (fun h => ?_) (fun h => ?_) | refine Runs.cond_b rfl (fun h => ?_) (fun h => ?_) | refine Runs.ret (ends_ro hm rfl rfl ?_) | exact Runs.ret (ends_cellR hm rfl rfl rfl (Nat.le_of_ble_eq_true rfl) rfl rfl))
    | refine op_box rfl (tl hn rfl) ?_
    | refine op_storeF rfl rfl rfl rfl (Nat.le_of_ble_eq_true rfl) ?_
    | refine op_alloc (tl hn rfl) ?_
    | refine op_storeN rfl rfl rfl rfl (Nat.le_of_ble_eq_true rfl) ?_
    | refine RunsD.step tabOk hn rfl rfl ?_
    | refine RunsD.nil ?_
    | refine Runs.toDraw 30 mixed hn rfl (by kernel_rfl) rfl ?_
    | ((first | refine RunsL.pe hn rfl rfl rfl ?_ | refine RunsD.pe rfl rfl ?_); first
      | refine ⟨_, pu_add rfl rfl (by omega), ?_⟩
      | refine ⟨_, pu_indexAddr_map rfl rfl (by omega) (by assumption), ?_⟩
      | refine ⟨_, pu_sub rfl rfl (by omega), ?_⟩
      | refine ⟨_, pu_pick_b rfl rfl rfl, ?_⟩
      | refine ⟨_, pu_mul rfl rfl (by omega), ?_⟩
      | refine ⟨_, pu_build rfl rfl rfl rfl rfl rfl, ?_⟩)
    | ((first | refine RunsL.guard_dec rfl rfl rfl ?_ ?_ | refine RunsL.guard_ndec rfl rfl rfl ?_ ?_ | refine RunsL.guard_nb rfl rfl rfl ?_ ?_ | refine RunsL.guard_b rfl rfl rfl ?_ ?_ | refine RunsD.guard_dec rfl rfl rfl ?_ ?_ | refine RunsD.guard_ndec rfl rfl rfl ?_ ?_ | refine RunsD.guard_nb rfl rfl rfl ?_ ?_ | refine RunsD.guard_b rfl rfl rfl ?_ ?_) <;> intro h <;> try (exfalso; first | omega | contradiction | (simp only [List.length_map] at h; omega))))
theorem eqTres_ac (l : List Tre) (ih : ∀ x ∈ l, x.Ok → ACv Try.prog 16 [treR x, treR x] (.bool true)) (hl : l.length ≤ maxLen) (ho : ∀ x ∈ l, x.Ok) : ACv Try.prog 52 [tresR l, tresR l] (.bool true) := by
  unfold maxLen at hl
  refine ac_enter Try.func52 rfl _ Try.ntmps52 (by simp) fun C hn hm => ?_
  repeat' (first
    | refine RunsL.step tabOk hn rfl ?_
    | refine RunsL.nil ?_
    | refine Runs.toRegion 30 rfl ?_
    | (refine Runs.ctls 30 rfl ?_; first | refine Runs.cond_t rfl ?_ | refine Runs.cond_f rfl ?_ | ((first | refine Runs.cond_yes rfl ?_ ?_ | refine Runs.cond_nno rfl ?_ ?_); · first | omega | rfl | assumption | (simp only [List.length_map]; omega)) | ((first | refine Runs.cond_no rfl ?_ ?_ | refine Runs.cond_nyes rfl ?_ ?_); · first | omega | rfl | assumption | (simp only [List.length_map]; omega)) | refine Runs.cond_dec rfl (fun h => ?_) (fun h => ?_) | refine Runs.cond_ndec rfl (fun h => ?_) (fun h => ?_) | refine Runs.cond_nb rfl (fun h => ?_) (fun h => ?_) | refine Runs.cond_b rfl (fun h => ?_) (fun h => ?_) | refine Runs.ret (ends_ro hm rfl rfl ?_) | exact Runs.ret (ends_cellR hm rfl rfl rfl (Nat.le_of_ble_eq_true rfl) rfl rfl))
    | refine op_box rfl (tl hn rfl) ?_
    | refine op_storeF rfl rfl rfl rfl (Nat.le_of_ble_eq_true rfl) ?_
    | refine op_alloc (tl hn rfl) ?_
    | refine op_storeN rfl rfl rfl rfl (Nat.le_of_ble_eq_true rfl) ?_
    | refine RunsD.step tabOk hn rfl rfl ?_
    | refine RunsD.nil ?_
    | refine Runs.toDraw 30 mixed hn rfl (by kernel_rfl) rfl ?_
    | ((first | refine RunsL.pe hn rfl rfl rfl ?_ | refine RunsD.pe rfl rfl ?_); first
      | refine ⟨_, pu_add rfl rfl (by omega), ?_⟩
      | refine ⟨_, pu_indexAddr_map rfl rfl (by omega) (by assumption), ?_⟩
      | refine ⟨_, pu_sub rfl rfl (by omega), ?_⟩
      | refine ⟨_, pu_pick_b rfl rfl rfl, ?_⟩
      | refine ⟨_, pu_mul rfl rfl (by omega), ?_⟩
      | refine ⟨_, pu_build rfl rfl rfl rfl rfl rfl, ?_⟩)
    | ((first | refine RunsL.guard_dec rfl rfl rfl ?_ ?_ | refine RunsL.guard_ndec rfl rfl rfl ?_ ?_ | refine RunsL.guard_nb rfl rfl rfl ?_ ?_ | refine RunsL.guard_b rfl rfl rfl ?_ ?_ | refine RunsD.guard_dec rfl rfl rfl ?_ ?_ | refine RunsD.guard_ndec rfl rfl rfl ?_ ?_ | refine RunsD.guard_nb rfl rfl rfl ?_ ?_ | refine RunsD.guard_b rfl rfl rfl ?_ ?_) <;> intro h <;> try (exfalso; first | omega | contradiction | (simp only [List.length_map] at h; omega))))
  refine Runs.loopN 30 rfl (fun j => [(0, .ro (tresR l)), (1, .ro (tresR l)), (5, .int (j : Int))]) (fun _ => []) (fun _ => True) l.length 0 (Nat.zero_le _) trivial ⟨rfl, rfl, rfl, trivial⟩ rfl fun j hj _ next => ?_
  by_cases hlt : j < l.length
  · obtain ⟨x, hx⟩ : ∃ x, l[(j : Int).toNat]? = some x := ⟨_, List.getElem?_eq_getElem hlt⟩
    have hm' := List.mem_of_getElem? hx
    have hcall := ih x hm' (ho x hm')
    repeat' (first
      | refine RunsL.step tabOk hn rfl ?_
      | refine RunsL.nil ?_
      | refine Runs.toRegion 30 rfl ?_
      | ((first | refine RunsL.pe hn rfl rfl rfl ?_ | refine RunsD.pe rfl rfl ?_); first
        | refine ⟨_, pu_callR hcall rfl, ?_⟩
        | refine ⟨_, pu_loadN_eq rfl (Tre.cells_eq _) rfl, ?_⟩)
      | (refine Runs.ctls 30 rfl ?_; first | refine Runs.cond_t rfl ?_ | refine Runs.cond_f rfl ?_ | ((first | refine Runs.cond_yes rfl ?_ ?_ | refine Runs.cond_nno rfl ?_ ?_); · first | omega | rfl | assumption | (simp only [List.length_map]; omega)) | ((first | refine Runs.cond_no rfl ?_ ?_ | refine Runs.cond_nyes rfl ?_ ?_); · first | omega | rfl | assumption | (simp only [List.length_map]; omega)) | refine Runs.cond_dec rfl (fun h => ?_) (fun h => ?_) | refine Runs.cond_ndec rfl (fun h => ?_) (fun h => ?_) | refine Runs.cond_nb rfl (fun h => ?_) (fun h => ?_) | refine Runs.cond_b rfl (fun h => ?_) (fun h => ?_) | refine Runs.ret (ends_ro hm rfl rfl ?_) | exact Runs.ret (ends_cellR hm rfl rfl rfl (Nat.le_of_ble_eq_true rfl) rfl rfl))
      | refine op_box rfl (tl hn rfl) ?_
      | refine op_storeF rfl rfl rfl rfl (Nat.le_of_ble_eq_true rfl) ?_
      | refine op_alloc (tl hn rfl) ?_
      | refine op_storeN rfl rfl rfl rfl (Nat.le_of_ble_eq_true rfl) ?_
      | refine RunsD.step tabOk hn rfl rfl ?_
      | refine RunsD.nil ?_
      | refine Runs.toDraw 30 mixed hn rfl (by kernel_rfl) rfl ?_
      | ((first | refine RunsL.pe hn rfl rfl rfl ?_ | refine RunsD.pe rfl rfl ?_); first
        | refine ⟨_, pu_add rfl rfl (by omega), ?_⟩
        | refine ⟨_, pu_indexAddr_map rfl rfl (by omega) (by assumption), ?_⟩
        | refine ⟨_, pu_sub rfl rfl (by omega), ?_⟩
        | refine ⟨_, pu_pick_b rfl rfl rfl, ?_⟩
        | refine ⟨_, pu_mul rfl rfl (by omega), ?_⟩
        | refine ⟨_, pu_build rfl rfl rfl rfl rfl rfl, ?_⟩)
      | ((first | refine RunsL.guard_dec rfl rfl rfl ?_ ?_ | refine RunsL.guard_ndec rfl rfl rfl ?_ ?_ | refine RunsL.guard_nb rfl rfl rfl ?_ ?_ | refine RunsL.guard_b rfl rfl rfl ?_ ?_ | refine RunsD.guard_dec rfl rfl rfl ?_ ?_ | refine RunsD.guard_ndec rfl rfl rfl ?_ ?_ | refine RunsD.guard_nb rfl rfl rfl ?_ ?_ | refine RunsD.guard_b rfl rfl rfl ?_ ?_) <;> intro h <;> try (exfalso; first | omega | contradiction | (simp only [List.length_map] at h; omega))))
    exact next _ _ ⟨rfl, rfl, rfl, trivial⟩ hlt trivial rfl
  · repeat' (first
    | refine RunsL.step tabOk hn rfl ?_
    | refine RunsL.nil ?_
    | refine Runs.toRegion 30 rfl ?_
    | (refine Runs.ctls 30 rfl ?_; first | refine Runs.cond_t rfl ?_ | refine Runs.cond_f rfl ?_ | ((first | refine Runs.cond_yes rfl ?_ ?_ | refine Runs.cond_nno rfl ?_ ?_); · first | omega | rfl | assumption | (simp only [List.length_map]; omega)) | ((first | refine Runs.cond_no rfl ?_ ?_ | refine Runs.cond_nyes rfl ?_ ?_); · first | omega | rfl | assumption | (simp only [List.length_map]; omega)) | refine Runs.cond_dec rfl (fun h => ?_) (fun h => ?_) | refine Runs.cond_ndec rfl (fun h => ?_) (fun h => ?_) | refine Runs.cond_nb rfl (fun h => ?_) (fun h => ?_) | refine Runs.cond_b rfl (fun h => ?_) (fun h => ?_) | refine Runs.ret (ends_ro hm rfl rfl ?_) | exact Runs.ret (ends_cellR hm rfl rfl rfl (Nat.le_of_ble_eq_true rfl) rfl rfl))
    | refine op_box rfl (tl hn rfl) ?_
    | refine op_storeF rfl rfl rfl rfl (Nat.le_of_ble_eq_true rfl) ?_
    | refine op_alloc (tl hn rfl) ?_
    | refine op_storeN rfl rfl rfl rfl (Nat.le_of_ble_eq_true rfl) ?_
    | refine RunsD.step tabOk hn rfl rfl ?_
    | refine RunsD.nil ?_
    | refine Runs.toDraw 30 mixed hn rfl (by kernel_rfl) rfl ?_
    | ((first | refine RunsL.pe hn rfl rfl rfl ?_ | refine RunsD.pe rfl rfl ?_); first
      | refine ⟨_, pu_add rfl rfl (by omega), ?_⟩
      | refine ⟨_, pu_indexAddr_map rfl rfl (by omega) (by assumption), ?_⟩
      | refine ⟨_, pu_sub rfl rfl (by omega), ?_⟩
      | refine ⟨_, pu_pick_b rfl rfl rfl, ?_⟩
      | refine ⟨_, pu_mul rfl rfl (by omega), ?_⟩
      | refine ⟨_, pu_build rfl rfl rfl rfl rfl rfl, ?_⟩)
    | ((first | refine RunsL.guard_dec rfl rfl rfl ?_ ?_ | refine RunsL.guard_ndec rfl rfl rfl ?_ ?_ | refine RunsL.guard_nb rfl rfl rfl ?_ ?_ | refine RunsL.guard_b rfl rfl rfl ?_ ?_ | refine RunsD.guard_dec rfl rfl rfl ?_ ?_ | refine RunsD.guard_ndec rfl rfl rfl ?_ ?_ | refine RunsD.guard_nb rfl rfl rfl ?_ ?_ | refine RunsD.guard_b rfl rfl rfl ?_ ?_) <;> intro h <;> try (exfalso; first | omega | contradiction | (simp only [List.length_map] at h; omega))))
    exact rr_bool rfl
theorem eqTre_ac : ∀ v : Tre, v.Ok → ACv Try.prog 16 [treR v, treR v] (.bool true) := by
  refine Tre.ind fun v ih ho => ?_
  obtain ⟨o1, o2, o3, o4⟩ := ho.out
  have hb := eqBytes_ac v.bytes o2
  have hi := eqTres_ac v.items ih o3 o4
  refine ac_enter Try.func16 rfl _ Try.ntmps16 (by simp) fun C hn hm => ?_
  repeat' (first
    | refine RunsL.step tabOk hn rfl ?_
    | refine RunsL.nil ?_
    | refine Runs.toRegion 30 rfl ?_
    | ((first | refine RunsL.pe hn rfl rfl rfl ?_ | refine RunsD.pe rfl rfl ?_); first
      | refine ⟨_, pu_callR hb rfl, ?_⟩
      | refine ⟨_, pu_callR hi rfl, ?_⟩)
    | (refine Runs.ctls 30 rfl ?_; first | refine Runs.cond_t rfl ?_ | refine Runs.cond_f rfl ?_ | ((first | refine Runs.cond_yes rfl ?_ ?_ | refine Runs.cond_nno rfl ?_ ?_); · first | omega | rfl | assumption | (simp only [List.length_map]; omega)) | ((first | refine Runs.cond_no rfl ?_ ?_ | refine Runs.cond_nyes rfl ?_ ?_); · first | omega | rfl | assumption | (simp only [List.length_map]; omega)) | refine Runs.cond_dec rfl (fun h => ?_) (fun h => ?_) | refine Runs.cond_ndec rfl (fun h => ?_) (fun h => ?_) | refine Runs.cond_nb rfl (fun h => ?_) (fun h => ?_) | refine Runs.cond_b rfl (fun h => ?_) (fun h => ?_) | refine Runs.ret (ends_ro hm rfl rfl ?_) | exact Runs.ret (ends_cellR hm rfl rfl rfl (Nat.le_of_ble_eq_true rfl) rfl rfl))
    | refine op_box rfl (tl hn rfl) ?_
    | refine op_storeF rfl rfl rfl rfl (Nat.le_of_ble_eq_true rfl) ?_
    | refine op_alloc (tl hn rfl) ?_
    | refine op_storeN rfl rfl rfl rfl (Nat.le_of_ble_eq_true rfl) ?_
    | refine RunsD.step tabOk hn rfl rfl ?_
    | refine RunsD.nil ?_
    | refine Runs.toDraw 30 mixed hn rfl (by kernel_rfl) rfl ?_
    | ((first | refine RunsL.pe hn rfl rfl rfl ?_ | refine RunsD.pe rfl rfl ?_); first
      | refine ⟨_, pu_add rfl rfl (by omega), ?_⟩
      | refine ⟨_, pu_indexAddr_map rfl rfl (by omega) (by assumption), ?_⟩
      | refine ⟨_, pu_sub rfl rfl (by omega), ?_⟩
      | refine ⟨_, pu_pick_b rfl rfl rfl, ?_⟩
      | refine ⟨_, pu_mul rfl rfl (by omega), ?_⟩
      | refine ⟨_, pu_build rfl rfl rfl rfl rfl rfl, ?_⟩)
    | ((first | refine RunsL.guard_dec rfl rfl rfl ?_ ?_ | refine RunsL.guard_ndec rfl rfl rfl ?_ ?_ | refine RunsL.guard_nb rfl rfl rfl ?_ ?_ | refine RunsL.guard_b rfl rfl rfl ?_ ?_ | refine RunsD.guard_dec rfl rfl rfl ?_ ?_ | refine RunsD.guard_ndec rfl rfl rfl ?_ ?_ | refine RunsD.guard_nb rfl rfl rfl ?_ ?_ | refine RunsD.guard_b rfl rfl rfl ?_ ?_) <;> intro h <;> try (exfalso; first | omega | contradiction | (simp only [List.length_map] at h; omega))))
  exact rr_bool rfl
noncomputable instance : DecidableEq Tre := fun a b => Classical.propDecidable _
theorem tre_eq (a b : Tre) : a = b ↔ a.number = b.number ∧ a.bytes = b.bytes ∧ a.items = b.items := by
  cases a; cases b; simp [Tre.number, Tre.bytes, Tre.items]
end Go.Proofs.Ytignpklaefibaaa
