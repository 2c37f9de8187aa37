/- Gathered texts. -/
import Derived.Test.YtkhnijggbfoimaaGat0
import Derived.Test.YtkhnijggbfoimaaGat1
import Derived.Laws.IdiomStrings
import Derived.StillTail
/- Bytes over values: the laws' helpers, equality, conversion to a string. -/
namespace Go.Proofs.Ytkhnijggbfoimaa
set_option linter.unusedSimpArgs false
set_option linter.unusedVariables false
open Go.RowKit
open AV (Mem Keeps)
section
variable {P : Program} {C : Ctx} {env : Env} {σ : List Ob} {t : Nat} {ty : TypeId} {pos : String} {after : Array Edge} {gd : Option (Nat × Bool)}
theorem pu_string {src dst e : TypeId} {x : Operand} {l : List UInt8} (hs : P.underlying src = some (.slice e)) (he : P.underlying e = some (.int .u8)) (hd : P.underlying dst = some .string) (hx : ev env x = .ro (bytesR l)) :
    Pur P C ⟨some t, .convert src dst x, ty, pos, after, gd⟩ env σ (.str ⟨l.toArray⟩) :=
  Pur.of (fun a m hG hσ hH => by
    have h := hH x (by simp [Op.operands])
    rw [hx] at h
    simp only [AV.rel, bytesR, RV.rel] at h
    obtain ⟨A, n, c, e1, hn, hc, _, hA⟩ := h
    rw [List.length_map] at hn
    refine ⟨.string ⟨l.toArray⟩, ?_, by simp [AV.rel, RV.rel]⟩
    have key : (convert src dst (a.eval x)).run P m.w = .ok (.string ⟨l.toArray⟩) m.w := by
      rw [e1]
      cases hl : l with
      | nil =>
        subst hl
        have : n = 0 := by simpa using hn
        subst this
        cases A with
        | none => rw [run_convert_bytes_string m.w src dst e none 0 c hs he hd]; rfl
        | some a => exact run_convert_bytes_back m.w src dst e a c [] hs he hd (fun j hj => absurd hj (by simp))
      | cons y ys =>
        obtain ⟨b, o, eA, hb, _, hE⟩ := hA (by rw [hn, hl]; simp)
        rw [eA, hn, ← hl]
        refine run_convert_bytes_back m.w src dst e ⟨b, o, none⟩ c l hs he hd fun j hj => ?_
        have h1 := RV.relE_at _ o 1 hE j [.u8 l[j]] (by rw [List.getElem?_map, List.getElem?_eq_getElem hj]; rfl)
        obtain ⟨_, h2⟩ := h1
        simp only [RV.relAt] at h2
        obtain ⟨⟨u, k1, _, k3⟩, _⟩ := h2
        simp only [RV.rel] at k3
        rw [add_lit, ← k3, ← k1, Nat.mul_one]
    simp only [execOp, Sem.run_bind, key, Result.andThen]
    rfl)
end
theorem eqBytes_ac (a : List UInt8) (hl : a.length ≤ maxLen) : ACv Try.prog 24 [bytesR a, bytesR a] (.bool true) := by
  unfold maxLen at hl
  refine ac_enter Try.func24 rfl _ Try.ntmps24 (by simp) fun C hn hm => ?_
  repeat' (first
 | refine RunsL.step tabOk hn rfl ?_
 | refine RunsL.nil ?_
 | refine Runs.toRegion 30 rfl ?_
 | (refine Runs.ctls 30 rfl ?_; first | refine Runs.cond_t rfl ?_ | refine Runs.cond_f rfl ?_ | ((first | refine Runs.cond_yes rfl ?_ ?_ | refine Runs.cond_nno rfl ?_ ?_); · first | omega | rfl | assumption | (simp only [List.length_map]; omega)) | ((first | refine Runs.cond_no rfl ?_ ?_ | refine Runs.cond_nyes rfl ?_ ?_); · first | omega | rfl | assumption | (simp only [List.length_map]; omega)) | refine Runs.cond_dec rfl (fun h => ?_) (fun h => ?_) | refine Runs.cond_ndec rfl (fun h => ?_) (fun h => ?_) | refine Runs.cond_nb rfl (fun h => ?_) (fun h => ?_) | refine Runs.cond_b rfl (fun h => ?_) (fun h => ?_) | refine Runs.ret (ends_ro hm rfl rfl ?_) | exact Runs.ret (ends_cellR hm rfl rfl rfl (Nat.le_of_ble_eq_true rfl) rfl rfl))
 | refine op_box rfl (tl hn rfl) ?_
 | refine op_storeF rfl rfl rfl rfl (Nat.le_of_ble_eq_true rfl) ?_
 | refine op_alloc (tl hn rfl) ?_
 | refine op_storeN rfl rfl rfl rfl (Nat.le_of_ble_eq_true rfl) ?_
 | refine RunsD.step tabOk hn rfl rfl ?_
 | refine RunsD.nil ?_
 | refine Runs.toDraw 30 mixed hn rfl (by kernel_rfl) rfl ?_
 | ((first | refine RunsL.pe hn rfl rfl rfl ?_ | refine RunsD.pe rfl rfl ?_); first
 | refine ⟨_, pu_add rfl rfl (by omega), ?_⟩
 | refine ⟨_, pu_indexAddr_map rfl rfl (by omega) (by assumption), ?_⟩
 | refine ⟨_, pu_sub rfl rfl (by omega), ?_⟩
 | refine ⟨_, pu_pick_b rfl rfl rfl, ?_⟩
 | refine ⟨_, pu_mul rfl rfl (by omega), ?_⟩
 | refine ⟨_, pu_build rfl rfl rfl rfl rfl rfl, ?_⟩))
  refine Runs.loopN 30 rfl (fun j => [(0, .ro (bytesR a)), (1, .ro (bytesR a)), (5, .int (j : Int))]) (fun _ => []) (fun _ => True) a.length 0 (Nat.zero_le _) trivial ⟨rfl, rfl, rfl, trivial⟩ rfl fun j hj _ next => ?_
  by_cases hlt : j < a.length
  · obtain ⟨x, hx⟩ : ∃ x, a[(j : Int).toNat]? = some x := ⟨_, List.getElem?_eq_getElem hlt⟩
    repeat' (first
 | refine RunsL.step tabOk hn rfl ?_
 | refine RunsL.nil ?_
 | refine Runs.toRegion 30 rfl ?_
 | (refine Runs.ctls 30 rfl ?_; first | refine Runs.cond_t rfl ?_ | refine Runs.cond_f rfl ?_ | ((first | refine Runs.cond_yes rfl ?_ ?_ | refine Runs.cond_nno rfl ?_ ?_); · first | omega | rfl | assumption | (simp only [List.length_map]; omega)) | ((first | refine Runs.cond_no rfl ?_ ?_ | refine Runs.cond_nyes rfl ?_ ?_); · first | omega | rfl | assumption | (simp only [List.length_map]; omega)) | refine Runs.cond_dec rfl (fun h => ?_) (fun h => ?_) | refine Runs.cond_ndec rfl (fun h => ?_) (fun h => ?_) | refine Runs.cond_nb rfl (fun h => ?_) (fun h => ?_) | refine Runs.cond_b rfl (fun h => ?_) (fun h => ?_) | refine Runs.ret (ends_ro hm rfl rfl ?_) | exact Runs.ret (ends_cellR hm rfl rfl rfl (Nat.le_of_ble_eq_true rfl) rfl rfl))
 | refine op_box rfl (tl hn rfl) ?_
 | refine op_storeF rfl rfl rfl rfl (Nat.le_of_ble_eq_true rfl) ?_
 | refine op_alloc (tl hn rfl) ?_
 | refine op_storeN rfl rfl rfl rfl (Nat.le_of_ble_eq_true rfl) ?_
 | refine RunsD.step tabOk hn rfl rfl ?_
 | refine RunsD.nil ?_
 | refine Runs.toDraw 30 mixed hn rfl (by kernel_rfl) rfl ?_
 | ((first | refine RunsL.pe hn rfl rfl rfl ?_ | refine RunsD.pe rfl rfl ?_); first
 | refine ⟨_, pu_add rfl rfl (by omega), ?_⟩
 | refine ⟨_, pu_indexAddr_map rfl rfl (by omega) (by assumption), ?_⟩
 | refine ⟨_, pu_sub rfl rfl (by omega), ?_⟩
 | refine ⟨_, pu_pick_b rfl rfl rfl, ?_⟩
 | refine ⟨_, pu_mul rfl rfl (by omega), ?_⟩
 | refine ⟨_, pu_build rfl rfl rfl rfl rfl rfl, ?_⟩))
    exact next _ _ ⟨rfl, rfl, rfl, trivial⟩ hlt trivial rfl
  · repeat' (first
 | refine RunsL.step tabOk hn rfl ?_
 | refine RunsL.nil ?_
 | refine Runs.toRegion 30 rfl ?_
 | (refine Runs.ctls 30 rfl ?_; first | refine Runs.cond_t rfl ?_ | refine Runs.cond_f rfl ?_ | ((first | refine Runs.cond_yes rfl ?_ ?_ | refine Runs.cond_nno rfl ?_ ?_); · first | omega | rfl | assumption | (simp only [List.length_map]; omega)) | ((first | refine Runs.cond_no rfl ?_ ?_ | refine Runs.cond_nyes rfl ?_ ?_); · first | omega | rfl | assumption | (simp only [List.length_map]; omega)) | refine Runs.cond_dec rfl (fun h => ?_) (fun h => ?_) | refine Runs.cond_ndec rfl (fun h => ?_) (fun h => ?_) | refine Runs.cond_nb rfl (fun h => ?_) (fun h => ?_) | refine Runs.cond_b rfl (fun h => ?_) (fun h => ?_) | refine Runs.ret (ends_ro hm rfl rfl ?_) | exact Runs.ret (ends_cellR hm rfl rfl rfl (Nat.le_of_ble_eq_true rfl) rfl rfl))
 | refine op_box rfl (tl hn rfl) ?_
 | refine op_storeF rfl rfl rfl rfl (Nat.le_of_ble_eq_true rfl) ?_
 | refine op_alloc (tl hn rfl) ?_
 | refine op_storeN rfl rfl rfl rfl (Nat.le_of_ble_eq_true rfl) ?_
 | refine RunsD.step tabOk hn rfl rfl ?_
 | refine RunsD.nil ?_
 | refine Runs.toDraw 30 mixed hn rfl (by kernel_rfl) rfl ?_
 | ((first | refine RunsL.pe hn rfl rfl rfl ?_ | refine RunsD.pe rfl rfl ?_); first
 | refine ⟨_, pu_add rfl rfl (by omega), ?_⟩
 | refine ⟨_, pu_indexAddr_map rfl rfl (by omega) (by assumption), ?_⟩
 | refine ⟨_, pu_sub rfl rfl (by omega), ?_⟩
 | refine ⟨_, pu_pick_b rfl rfl rfl, ?_⟩
 | refine ⟨_, pu_mul rfl rfl (by omega), ?_⟩
 | refine ⟨_, pu_build rfl rfl rfl rfl rfl rfl, ?_⟩))
    exact rr_bool rfl
theorem seals_bytes (e : TypeId) (l : List UInt8) : Seals (.row e 1 (l.map RV.u8)) (bytesR l) := by
  have h := seals_row1 e (l.map RV.u8)
  rwa [List.map_map] at h
theorem toBytes_ac (a : List UInt8) (hl : a.length ≤ 4194304) : ACv Try.prog 22 [bytesR a] (bytesR a) := by
  refine AC.shut (R := fun rr => rr = .row 5 1 (a.map RV.u8)) ?_ (by rintro _ rfl; exact seals_bytes _ a)
  refine ac_enter Try.func22 rfl _ Try.ntmps22 (by simp) fun C hn hm => ?_
  repeat' (first
 | refine RunsL.step tabOk hn rfl ?_
 | refine RunsL.nil ?_
 | refine Runs.toRegion 30 rfl ?_
 | refine op_make1 rfl rfl rfl rfl (by first | omega | (simp only [List.length_map]; omega)) (by unfold maxLen; simp only [List.length_map]; omega) (tl hn rfl) ?_
 | (refine Runs.ctls 30 rfl ?_; first | refine Runs.cond_t rfl ?_ | refine Runs.cond_f rfl ?_ | ((first | refine Runs.cond_yes rfl ?_ ?_ | refine Runs.cond_nno rfl ?_ ?_); · first | omega | rfl | assumption | (simp only [List.length_map]; omega)) | ((first | refine Runs.cond_no rfl ?_ ?_ | refine Runs.cond_nyes rfl ?_ ?_); · first | omega | rfl | assumption | (simp only [List.length_map]; omega)) | refine Runs.cond_dec rfl (fun h => ?_) (fun h => ?_) | refine Runs.cond_ndec rfl (fun h => ?_) (fun h => ?_) | refine Runs.cond_nb rfl (fun h => ?_) (fun h => ?_) | refine Runs.cond_b rfl (fun h => ?_) (fun h => ?_) | refine Runs.ret (ends_ro hm rfl rfl ?_) | exact Runs.ret (ends_cellR hm rfl rfl rfl (Nat.le_of_ble_eq_true rfl) rfl rfl))
 | refine op_box rfl (tl hn rfl) ?_
 | refine op_storeF rfl rfl rfl rfl (Nat.le_of_ble_eq_true rfl) ?_
 | refine op_alloc (tl hn rfl) ?_
 | refine op_storeN rfl rfl rfl rfl (Nat.le_of_ble_eq_true rfl) ?_
 | (refine RunsL.pe hn rfl rfl rfl ?_; first
 | refine ⟨_, pu_add rfl rfl (by omega), ?_⟩
 | refine ⟨_, pu_indexAddr_map rfl rfl (by omega) (by assumption), ?_⟩
 | refine ⟨_, pu_sub rfl rfl (by omega), ?_⟩
 | refine ⟨_, pu_pick_b rfl rfl rfl, ?_⟩
 | refine ⟨_, pu_mul rfl rfl (by omega), ?_⟩
 | refine ⟨_, pu_build rfl rfl rfl rfl rfl rfl, ?_⟩))
  refine Runs.loopN 30 rfl (fun j => [(0, .ro (bytesR a)), (3, .own 0), (4, .int (j : Int))]) (fun j => [⟨5, 1, (a.take j ++ List.replicate (a.length - j) 0).map fun z => .ro (.u8 z)⟩]) (fun _ => True) a.length 0 (Nat.zero_le _) trivial ⟨rfl, rfl, rfl, trivial⟩ (by simp) fun j hj _ next => ?_
  by_cases hlt : j < a.length
  · obtain ⟨x, hx⟩ : ∃ x, a[(j : Int).toNat]? = some x := ⟨_, List.getElem?_eq_getElem hlt⟩
    repeat' (first
 | refine RunsL.step tabOk hn rfl ?_
 | refine RunsL.nil ?_
 | refine Runs.toRegion 30 rfl ?_
 | refine op_storeF rfl rfl rfl rfl (by simp; omega) ?_
 | (refine RunsL.pe hn rfl rfl rfl ?_; first
 | refine ⟨_, pu_indexAddr_own (n := a.length) rfl rfl rfl rfl (by simp; omega) (by omega) (by omega), ?_⟩)
 | (refine Runs.ctls 30 rfl ?_; first | refine Runs.cond_t rfl ?_ | refine Runs.cond_f rfl ?_ | ((first | refine Runs.cond_yes rfl ?_ ?_ | refine Runs.cond_nno rfl ?_ ?_); · first | omega | rfl | assumption | (simp only [List.length_map]; omega)) | ((first | refine Runs.cond_no rfl ?_ ?_ | refine Runs.cond_nyes rfl ?_ ?_); · first | omega | rfl | assumption | (simp only [List.length_map]; omega)) | refine Runs.cond_dec rfl (fun h => ?_) (fun h => ?_) | refine Runs.cond_ndec rfl (fun h => ?_) (fun h => ?_) | refine Runs.cond_nb rfl (fun h => ?_) (fun h => ?_) | refine Runs.cond_b rfl (fun h => ?_) (fun h => ?_) | refine Runs.ret (ends_ro hm rfl rfl ?_) | exact Runs.ret (ends_cellR hm rfl rfl rfl (Nat.le_of_ble_eq_true rfl) rfl rfl))
 | refine op_box rfl (tl hn rfl) ?_
 | refine op_storeF rfl rfl rfl rfl (Nat.le_of_ble_eq_true rfl) ?_
 | refine op_alloc (tl hn rfl) ?_
 | refine op_storeN rfl rfl rfl rfl (Nat.le_of_ble_eq_true rfl) ?_
 | (refine RunsL.pe hn rfl rfl rfl ?_; first
 | refine ⟨_, pu_add rfl rfl (by omega), ?_⟩
 | refine ⟨_, pu_indexAddr_map rfl rfl (by omega) (by assumption), ?_⟩
 | refine ⟨_, pu_sub rfl rfl (by omega), ?_⟩
 | refine ⟨_, pu_pick_b rfl rfl rfl, ?_⟩
 | refine ⟨_, pu_mul rfl rfl (by omega), ?_⟩
 | refine ⟨_, pu_build rfl rfl rfl rfl rfl rfl, ?_⟩))
    refine next _ _ ⟨rfl, rfl, rfl, trivial⟩ hlt trivial ?_
    have h := take_set a 0 a.length j rfl x hx
    simp only [List.set_cons_zero, Nat.mul_one, Int.toNat_natCast]
    rw [← h, List.map_set]
  · obtain rfl : j = a.length := by omega
    repeat' (first
 | refine RunsL.step tabOk hn rfl ?_
 | refine RunsL.nil ?_
 | refine Runs.toRegion 30 rfl ?_
 | (refine Runs.ctls 30 rfl ?_; first | refine Runs.cond_t rfl ?_ | refine Runs.cond_f rfl ?_ | ((first | refine Runs.cond_yes rfl ?_ ?_ | refine Runs.cond_nno rfl ?_ ?_); · first | omega | rfl | assumption | (simp only [List.length_map]; omega)) | ((first | refine Runs.cond_no rfl ?_ ?_ | refine Runs.cond_nyes rfl ?_ ?_); · first | omega | rfl | assumption | (simp only [List.length_map]; omega)) | refine Runs.cond_dec rfl (fun h => ?_) (fun h => ?_) | refine Runs.cond_ndec rfl (fun h => ?_) (fun h => ?_) | refine Runs.cond_nb rfl (fun h => ?_) (fun h => ?_) | refine Runs.cond_b rfl (fun h => ?_) (fun h => ?_) | refine Runs.ret (ends_ro hm rfl rfl ?_) | exact Runs.ret (ends_cellR hm rfl rfl rfl (Nat.le_of_ble_eq_true rfl) rfl rfl))
 | refine op_box rfl (tl hn rfl) ?_
 | refine op_storeF rfl rfl rfl rfl (Nat.le_of_ble_eq_true rfl) ?_
 | refine op_alloc (tl hn rfl) ?_
 | refine op_storeN rfl rfl rfl rfl (Nat.le_of_ble_eq_true rfl) ?_
 | (refine RunsL.pe hn rfl rfl rfl ?_; first
 | refine ⟨_, pu_add rfl rfl (by omega), ?_⟩
 | refine ⟨_, pu_indexAddr_map rfl rfl (by omega) (by assumption), ?_⟩
 | refine ⟨_, pu_sub rfl rfl (by omega), ?_⟩
 | refine ⟨_, pu_pick_b rfl rfl rfl, ?_⟩
 | refine ⟨_, pu_mul rfl rfl (by omega), ?_⟩
 | refine ⟨_, pu_build rfl rfl rfl rfl rfl rfl, ?_⟩))
    exact Runs.ctls 30 rfl (Runs.ret (ends_own (rs := a.map RV.u8) hm rfl rfl rfl (by simp) rfl))
theorem u8_ext {x y : UInt8} (h : (x.toNat : Int) = (y.toNat : Int)) : x = y := UInt8.toNat_inj.1 (Int.ofNat_inj.1 h)
end Go.Proofs.Ytkhnijggbfoimaa
/- Sums over lists; integers in a frame. Over any program. -/
namespace Go.Proofs.Ytkhnijggbfoimaa
set_option linter.unusedSimpArgs false
set_option linter.unusedVariables false
open Go.RowKit
section
variable {α : Type} (f : α → Nat)
theorem sum_take_next {l : List α} {j : Nat} {x : α} (hx : l[j]? = some x) : ((l.take (j + 1)).map f).sum = ((l.take j).map f).sum + f x := by
  obtain ⟨hj, rfl⟩ := List.getElem?_eq_some_iff.1 hx
  rw [List.take_succ_eq_append_getElem hj]; simp only [List.map_append, List.map_cons, List.map_nil, List.sum_append, List.sum_cons, List.sum_nil, Nat.add_zero]
theorem sum_take_le (l : List α) (j : Nat) : ((l.take j).map f).sum ≤ (l.map f).sum := by
  have h := congrArg (fun l => (l.map f).sum) (List.take_append_drop j l)
  simp only [List.map_append, List.sum_append] at h
  omega
theorem sum_mem_le {l : List α} {x : α} (h : x ∈ l) : f x ≤ (l.map f).sum := by
  induction l with
  | nil => cases h
  | cons y l ih =>
    rw [List.map_cons, List.sum_cons]
    rcases List.mem_cons.1 h with e | e
    · rw [e]; omega
    · have := ih e; omega
end
theorem av_int {a b : Int} (h : a = b) : AV.int a = AV.int b := by rw [h]
end Go.Proofs.Ytkhnijggbfoimaa
/- Descriptions over values: the laws' helpers on strings, rules and descriptions; opened arguments. -/
namespace Go.Proofs.Ytkhnijggbfoimaa
set_option linter.unusedSimpArgs false
set_option linter.unusedVariables false
open Go.RowKit
structure Rul where
  name : ByteArray
  kind : Int
  size : Int
  little : Bool
  bytes : List UInt8
  names : List ByteArray
  tags : List Int
  kids : List Int
abbrev Des := List Rul
def rulR (r : Rul) : List RV := [.str r.name, .int r.kind, .int r.size, .bool r.little, bytesR r.bytes, strsR r.names, intsR r.tags, intsR r.kids]
def rulsR (d : Des) : RV := .seq 8 (d.map rulR)
def desR (d : Des) : RV := .agg [rulsR d]
theorem rulR_len (r : Rul) : (rulR r).length = 8 := rfl
namespace Rul
def total (r : Rul) : Nat := r.name.size + r.bytes.length + (r.names.length + (r.names.map ByteArray.size).sum) + r.tags.length + r.kids.length
structure Ok (r : Rul) : Prop where
  kind : I64 r.kind
  size : I64 r.size
  tags : ∀ z ∈ r.tags, I64 z
  kids : ∀ z ∈ r.kids, I64 z
  lens : r.name.size ≤ maxLen ∧ r.bytes.length ≤ maxLen ∧ r.names.length ≤ maxLen ∧ (∀ s ∈ r.names, s.size ≤ maxLen) ∧ r.tags.length ≤ maxLen ∧ r.kids.length ≤ maxLen ∧ True
end Rul
def dtotal (d : Des) : Nat := d.length + (d.map Rul.total).sum
structure DesOk (d : Des) : Prop where
  rules : ∀ r ∈ d, r.Ok
  len : d.length ≤ maxLen
section
variable {P : Program} {C : Ctx} {env : Env} {σ : List Ob} {t : Nat} {ty : TypeId} {pos : String} {after : Array Edge} {gd : Option (Nat × Bool)}
theorem pu_neqSame {xt yt : TypeId} {x y : Operand} {s : ByteArray} (hx : ev env x = .str s) (hy : ev env y = .str s) : Pur P C ⟨some t, .binOp .neq xt x y yt, ty, pos, after, gd⟩ env σ (.bool false) := by
  have h := pu_neqS (P := P) (C := C) (σ := σ) (t := t) (ty := ty) (pos := pos) (after := after) (gd := gd) (xt := xt) (yt := yt) hx hy
  have e : (!(s.toList == s.toList)) = false := by simp
  rwa [e] at h
end
end Go.Proofs.Ytkhnijggbfoimaa
/- Descriptions that the laws' helpers make: all in memory of their own. -/
namespace Go.Proofs.Ytkhnijggbfoimaa
set_option linter.unusedSimpArgs false
set_option linter.unusedVariables false
open Go.RowKit
def bytesO (l : List UInt8) : OV := .row 5 1 ((l.map fun z => Value.int .u8 (z.toNat : Int)).map .c)
def intsO (l : List Int) : OV := .row 3 1 ((l.map fun z => Value.int .i64 z).map .c)
set_option maxHeartbeats 4000000 in
theorem toBytesO_ac (a : List UInt8) (hl : a.length ≤ 4194304) : ACo Try.prog 22 [bytesR a] (bytesO a) := by
  refine aco_row (vs := a.map fun z => Value.int .u8 (z.toNat : Int)) ?_
  rw [List.map_map]
  refine ac_enter Try.func22 rfl _ Try.ntmps22 (by simp) fun C hn hm => ?_
  repeat' (first
 | refine RunsL.step tabOk hn rfl ?_
 | refine RunsL.nil ?_
 | refine Runs.toRegion 30 rfl ?_
 | refine op_make1 rfl rfl rfl rfl (by first | omega | (simp only [List.length_map]; omega)) (by unfold maxLen; simp only [List.length_map]; omega) (tl hn rfl) ?_
 | (refine Runs.ctls 30 rfl ?_; first | refine Runs.cond_t rfl ?_ | refine Runs.cond_f rfl ?_ | ((first | refine Runs.cond_yes rfl ?_ ?_ | refine Runs.cond_nno rfl ?_ ?_); · first | omega | rfl | assumption | (simp only [List.length_map]; omega)) | ((first | refine Runs.cond_no rfl ?_ ?_ | refine Runs.cond_nyes rfl ?_ ?_); · first | omega | rfl | assumption | (simp only [List.length_map]; omega)) | refine Runs.cond_dec rfl (fun h => ?_) (fun h => ?_) | refine Runs.cond_ndec rfl (fun h => ?_) (fun h => ?_) | refine Runs.cond_nb rfl (fun h => ?_) (fun h => ?_) | refine Runs.cond_b rfl (fun h => ?_) (fun h => ?_) | refine Runs.ret (ends_ro hm rfl rfl ?_) | exact Runs.ret (ends_cellR hm rfl rfl rfl (Nat.le_of_ble_eq_true rfl) rfl rfl))
 | refine op_box rfl (tl hn rfl) ?_
 | refine op_storeF rfl rfl rfl rfl (Nat.le_of_ble_eq_true rfl) ?_
 | refine op_alloc (tl hn rfl) ?_
 | refine op_storeN rfl rfl rfl rfl (Nat.le_of_ble_eq_true rfl) ?_
 | (refine RunsL.pe hn rfl rfl rfl ?_; first
 | refine ⟨_, pu_add rfl rfl (by omega), ?_⟩
 | refine ⟨_, pu_indexAddr_map rfl rfl (by omega) (by assumption), ?_⟩
 | refine ⟨_, pu_sub rfl rfl (by omega), ?_⟩
 | refine ⟨_, pu_pick_b rfl rfl rfl, ?_⟩
 | refine ⟨_, pu_mul rfl rfl (by omega), ?_⟩
 | refine ⟨_, pu_build rfl rfl rfl rfl rfl rfl, ?_⟩))
  refine Runs.loopN 30 rfl (fun j => [(0, .ro (bytesR a)), (3, .own 0), (4, .int (j : Int))]) (fun j => [⟨5, 1, (a.take j ++ List.replicate (a.length - j) 0).map fun z => .ro (.u8 z)⟩]) (fun _ => True) a.length 0 (Nat.zero_le _) trivial ⟨rfl, rfl, rfl, trivial⟩ (by simp) fun j hj _ next => ?_
  by_cases hlt : j < a.length
  · obtain ⟨x, hx⟩ : ∃ x, a[(j : Int).toNat]? = some x := ⟨_, List.getElem?_eq_getElem hlt⟩
    repeat' (first
 | refine RunsL.step tabOk hn rfl ?_
 | refine RunsL.nil ?_
 | refine Runs.toRegion 30 rfl ?_
 | refine op_storeF rfl rfl rfl rfl (by simp; omega) ?_
 | (refine RunsL.pe hn rfl rfl rfl ?_; first
 | refine ⟨_, pu_indexAddr_own (n := a.length) rfl rfl rfl rfl (by simp; omega) (by omega) (by omega), ?_⟩)
 | (refine Runs.ctls 30 rfl ?_; first | refine Runs.cond_t rfl ?_ | refine Runs.cond_f rfl ?_ | ((first | refine Runs.cond_yes rfl ?_ ?_ | refine Runs.cond_nno rfl ?_ ?_); · first | omega | rfl | assumption | (simp only [List.length_map]; omega)) | ((first | refine Runs.cond_no rfl ?_ ?_ | refine Runs.cond_nyes rfl ?_ ?_); · first | omega | rfl | assumption | (simp only [List.length_map]; omega)) | refine Runs.cond_dec rfl (fun h => ?_) (fun h => ?_) | refine Runs.cond_ndec rfl (fun h => ?_) (fun h => ?_) | refine Runs.cond_nb rfl (fun h => ?_) (fun h => ?_) | refine Runs.cond_b rfl (fun h => ?_) (fun h => ?_) | refine Runs.ret (ends_ro hm rfl rfl ?_) | exact Runs.ret (ends_cellR hm rfl rfl rfl (Nat.le_of_ble_eq_true rfl) rfl rfl))
 | refine op_box rfl (tl hn rfl) ?_
 | refine op_storeF rfl rfl rfl rfl (Nat.le_of_ble_eq_true rfl) ?_
 | refine op_alloc (tl hn rfl) ?_
 | refine op_storeN rfl rfl rfl rfl (Nat.le_of_ble_eq_true rfl) ?_
 | (refine RunsL.pe hn rfl rfl rfl ?_; first
 | refine ⟨_, pu_add rfl rfl (by omega), ?_⟩
 | refine ⟨_, pu_indexAddr_map rfl rfl (by omega) (by assumption), ?_⟩
 | refine ⟨_, pu_sub rfl rfl (by omega), ?_⟩
 | refine ⟨_, pu_pick_b rfl rfl rfl, ?_⟩
 | refine ⟨_, pu_mul rfl rfl (by omega), ?_⟩
 | refine ⟨_, pu_build rfl rfl rfl rfl rfl rfl, ?_⟩))
    refine next _ _ ⟨rfl, rfl, rfl, trivial⟩ hlt trivial ?_
    have h := take_set a 0 a.length j rfl x hx
    simp only [List.set_cons_zero, Nat.mul_one, Int.toNat_natCast]
    rw [← h, List.map_set]
  · obtain rfl : j = a.length := by omega
    repeat' (first
 | refine RunsL.step tabOk hn rfl ?_
 | refine RunsL.nil ?_
 | refine Runs.toRegion 30 rfl ?_
 | (refine Runs.ctls 30 rfl ?_; first | refine Runs.cond_t rfl ?_ | refine Runs.cond_f rfl ?_ | ((first | refine Runs.cond_yes rfl ?_ ?_ | refine Runs.cond_nno rfl ?_ ?_); · first | omega | rfl | assumption | (simp only [List.length_map]; omega)) | ((first | refine Runs.cond_no rfl ?_ ?_ | refine Runs.cond_nyes rfl ?_ ?_); · first | omega | rfl | assumption | (simp only [List.length_map]; omega)) | refine Runs.cond_dec rfl (fun h => ?_) (fun h => ?_) | refine Runs.cond_ndec rfl (fun h => ?_) (fun h => ?_) | refine Runs.cond_nb rfl (fun h => ?_) (fun h => ?_) | refine Runs.cond_b rfl (fun h => ?_) (fun h => ?_) | refine Runs.ret (ends_ro hm rfl rfl ?_) | exact Runs.ret (ends_cellR hm rfl rfl rfl (Nat.le_of_ble_eq_true rfl) rfl rfl))
 | refine op_box rfl (tl hn rfl) ?_
 | refine op_storeF rfl rfl rfl rfl (Nat.le_of_ble_eq_true rfl) ?_
 | refine op_alloc (tl hn rfl) ?_
 | refine op_storeN rfl rfl rfl rfl (Nat.le_of_ble_eq_true rfl) ?_
 | (refine RunsL.pe hn rfl rfl rfl ?_; first
 | refine ⟨_, pu_add rfl rfl (by omega), ?_⟩
 | refine ⟨_, pu_indexAddr_map rfl rfl (by omega) (by assumption), ?_⟩
 | refine ⟨_, pu_sub rfl rfl (by omega), ?_⟩
 | refine ⟨_, pu_pick_b rfl rfl rfl, ?_⟩
 | refine ⟨_, pu_mul rfl rfl (by omega), ?_⟩
 | refine ⟨_, pu_build rfl rfl rfl rfl rfl rfl, ?_⟩))
    exact Runs.ctls 30 rfl (Runs.ret (ends_own (rs := a.map RV.u8) hm rfl rfl rfl (by simp) rfl))
theorem toIntsO_ac (a : List Int) (hl : a.length ≤ 4194304) : ACo Try.prog 38 [intsR a] (intsO a) := by
  refine aco_row (vs := a.map fun z => Value.int .i64 z) ?_
  rw [List.map_map]
  refine ac_enter Try.func38 rfl _ Try.ntmps38 (by simp) fun C hn hm => ?_
  repeat' (first
 | refine RunsL.step tabOk hn rfl ?_
 | refine RunsL.nil ?_
 | refine Runs.toRegion 30 rfl ?_
 | refine op_make1 rfl rfl rfl rfl (by first | omega | (simp only [List.length_map]; omega)) (by unfold maxLen; simp only [List.length_map]; omega) (tl hn rfl) ?_
 | (refine Runs.ctls 30 rfl ?_; first | refine Runs.cond_t rfl ?_ | refine Runs.cond_f rfl ?_ | ((first | refine Runs.cond_yes rfl ?_ ?_ | refine Runs.cond_nno rfl ?_ ?_); · first | omega | rfl | assumption | (simp only [List.length_map]; omega)) | ((first | refine Runs.cond_no rfl ?_ ?_ | refine Runs.cond_nyes rfl ?_ ?_); · first | omega | rfl | assumption | (simp only [List.length_map]; omega)) | refine Runs.cond_dec rfl (fun h => ?_) (fun h => ?_) | refine Runs.cond_ndec rfl (fun h => ?_) (fun h => ?_) | refine Runs.cond_nb rfl (fun h => ?_) (fun h => ?_) | refine Runs.cond_b rfl (fun h => ?_) (fun h => ?_) | refine Runs.ret (ends_ro hm rfl rfl ?_) | exact Runs.ret (ends_cellR hm rfl rfl rfl (Nat.le_of_ble_eq_true rfl) rfl rfl))
 | refine op_box rfl (tl hn rfl) ?_
 | refine op_storeF rfl rfl rfl rfl (Nat.le_of_ble_eq_true rfl) ?_
 | refine op_alloc (tl hn rfl) ?_
 | refine op_storeN rfl rfl rfl rfl (Nat.le_of_ble_eq_true rfl) ?_
 | (refine RunsL.pe hn rfl rfl rfl ?_; first
 | refine ⟨_, pu_add rfl rfl (by omega), ?_⟩
 | refine ⟨_, pu_indexAddr_map rfl rfl (by omega) (by assumption), ?_⟩
 | refine ⟨_, pu_sub rfl rfl (by omega), ?_⟩
 | refine ⟨_, pu_pick_b rfl rfl rfl, ?_⟩
 | refine ⟨_, pu_mul rfl rfl (by omega), ?_⟩
 | refine ⟨_, pu_build rfl rfl rfl rfl rfl rfl, ?_⟩))
  refine Runs.loopN 30 rfl (fun j => [(0, .ro (intsR a)), (3, .own 0), (4, .int (j : Int))]) (fun j => [⟨3, 1, (a.take j ++ List.replicate (a.length - j) 0).map fun z => .ro (.int z)⟩]) (fun _ => True) a.length 0 (Nat.zero_le _) trivial ⟨rfl, rfl, rfl, trivial⟩ (by simp) fun j hj _ next => ?_
  by_cases hlt : j < a.length
  · obtain ⟨x, hx⟩ : ∃ x, a[(j : Int).toNat]? = some x := ⟨_, List.getElem?_eq_getElem hlt⟩
    repeat' (first
 | refine RunsL.step tabOk hn rfl ?_
 | refine RunsL.nil ?_
 | refine Runs.toRegion 30 rfl ?_
 | refine op_storeF rfl rfl rfl rfl (by simp; omega) ?_
 | (refine RunsL.pe hn rfl rfl rfl ?_; first
 | refine ⟨_, pu_indexAddr_own (n := a.length) rfl rfl rfl rfl (by simp; omega) (by omega) (by omega), ?_⟩)
 | (refine Runs.ctls 30 rfl ?_; first | refine Runs.cond_t rfl ?_ | refine Runs.cond_f rfl ?_ | ((first | refine Runs.cond_yes rfl ?_ ?_ | refine Runs.cond_nno rfl ?_ ?_); · first | omega | rfl | assumption | (simp only [List.length_map]; omega)) | ((first | refine Runs.cond_no rfl ?_ ?_ | refine Runs.cond_nyes rfl ?_ ?_); · first | omega | rfl | assumption | (simp only [List.length_map]; omega)) | refine Runs.cond_dec rfl (fun h => ?_) (fun h => ?_) | refine Runs.cond_ndec rfl (fun h => ?_) (fun h => ?_) | refine Runs.cond_nb rfl (fun h => ?_) (fun h => ?_) | refine Runs.cond_b rfl (fun h => ?_) (fun h => ?_) | refine Runs.ret (ends_ro hm rfl rfl ?_) | exact Runs.ret (ends_cellR hm rfl rfl rfl (Nat.le_of_ble_eq_true rfl) rfl rfl))
 | refine op_box rfl (tl hn rfl) ?_
 | refine op_storeF rfl rfl rfl rfl (Nat.le_of_ble_eq_true rfl) ?_
 | refine op_alloc (tl hn rfl) ?_
 | refine op_storeN rfl rfl rfl rfl (Nat.le_of_ble_eq_true rfl) ?_
 | (refine RunsL.pe hn rfl rfl rfl ?_; first
 | refine ⟨_, pu_add rfl rfl (by omega), ?_⟩
 | refine ⟨_, pu_indexAddr_map rfl rfl (by omega) (by assumption), ?_⟩
 | refine ⟨_, pu_sub rfl rfl (by omega), ?_⟩
 | refine ⟨_, pu_pick_b rfl rfl rfl, ?_⟩
 | refine ⟨_, pu_mul rfl rfl (by omega), ?_⟩
 | refine ⟨_, pu_build rfl rfl rfl rfl rfl rfl, ?_⟩))
    refine next _ _ ⟨rfl, rfl, rfl, trivial⟩ hlt trivial ?_
    have h := take_set a 0 a.length j rfl x hx
    simp only [List.set_cons_zero, Nat.mul_one, Int.toNat_natCast]
    rw [← h, List.map_set]
  · obtain rfl : j = a.length := by omega
    repeat' (first
 | refine RunsL.step tabOk hn rfl ?_
 | refine RunsL.nil ?_
 | refine Runs.toRegion 30 rfl ?_
 | (refine Runs.ctls 30 rfl ?_; first | refine Runs.cond_t rfl ?_ | refine Runs.cond_f rfl ?_ | ((first | refine Runs.cond_yes rfl ?_ ?_ | refine Runs.cond_nno rfl ?_ ?_); · first | omega | rfl | assumption | (simp only [List.length_map]; omega)) | ((first | refine Runs.cond_no rfl ?_ ?_ | refine Runs.cond_nyes rfl ?_ ?_); · first | omega | rfl | assumption | (simp only [List.length_map]; omega)) | refine Runs.cond_dec rfl (fun h => ?_) (fun h => ?_) | refine Runs.cond_ndec rfl (fun h => ?_) (fun h => ?_) | refine Runs.cond_nb rfl (fun h => ?_) (fun h => ?_) | refine Runs.cond_b rfl (fun h => ?_) (fun h => ?_) | refine Runs.ret (ends_ro hm rfl rfl ?_) | exact Runs.ret (ends_cellR hm rfl rfl rfl (Nat.le_of_ble_eq_true rfl) rfl rfl))
 | refine op_box rfl (tl hn rfl) ?_
 | refine op_storeF rfl rfl rfl rfl (Nat.le_of_ble_eq_true rfl) ?_
 | refine op_alloc (tl hn rfl) ?_
 | refine op_storeN rfl rfl rfl rfl (Nat.le_of_ble_eq_true rfl) ?_
 | (refine RunsL.pe hn rfl rfl rfl ?_; first
 | refine ⟨_, pu_add rfl rfl (by omega), ?_⟩
 | refine ⟨_, pu_indexAddr_map rfl rfl (by omega) (by assumption), ?_⟩
 | refine ⟨_, pu_sub rfl rfl (by omega), ?_⟩
 | refine ⟨_, pu_pick_b rfl rfl rfl, ?_⟩
 | refine ⟨_, pu_mul rfl rfl (by omega), ?_⟩
 | refine ⟨_, pu_build rfl rfl rfl rfl rfl rfl, ?_⟩))
    exact Runs.ctls 30 rfl (Runs.ret (ends_own (rs := a.map RV.int) hm rfl rfl rfl (by simp) rfl))
theorem nodup_two {a b : List Nat} (k : Nat) (h1 : a.Nodup) (h2 : b.Nodup) (h3 : ∀ x ∈ a, x < k) (h4 : ∀ x ∈ b, k ≤ x) : (a ++ b).Nodup := by
  rw [List.nodup_append]
  exact ⟨h1, h2, fun x hx y hy e => by have := h3 x hx; have := h4 y hy; omega⟩
end Go.Proofs.Ytkhnijggbfoimaa
/- Marks on flat rows: written, and found again. -/
namespace Go.Proofs.Ytkhnijggbfoimaa
set_option linter.unusedSimpArgs false
set_option linter.unusedVariables false
open Go.RowKit
open AV (Mem Keeps)
theorem rels_cs {w : World} : ∀ (vs us : List Value) (bs : List Nat), OV.rels w (vs.map .c) us bs → us = vs ∧ bs = []
  | [], us, bs, h => by simpa [OV.rels] using h
  | v :: vs, us, bs, h => by
    simp only [List.map_cons, OV.rels, OV.rel] at h
    obtain ⟨u, us', b, bs', rfl, rfl, ⟨rfl, rfl⟩, h2⟩ := h
    obtain ⟨rfl, rfl⟩ := rels_cs vs us' bs' h2
    exact ⟨rfl, rfl⟩
theorem row_block {w : World} {e : TypeId} {vs : List Value} {u : Value} {bs : List Nat} (h : OV.rel w (.row e 1 (vs.map .c)) u bs) :
    (u = .slice none 0 0 ∧ vs = [] ∧ bs = []) ∨ ∃ g cap cur, u = .slice (some ⟨g, 0, none⟩) vs.length cap ∧ bs = [g] ∧ w.heap[g]? = some (.cells cur e (0, 0)) ∧ vs.length ≤ cap ∧ cap ≤ maxLen ∧ cur.size = cap ∧ cur.toList.take vs.length = vs := by
  simp only [OV.rel] at h
  obtain ⟨n, xs, bs', h1, h2, h3, h4, h5, rfl⟩ := h
  obtain ⟨rfl, rfl⟩ := rels_cs vs xs bs' h3
  rw [List.length_map, Nat.mul_one] at h1
  subst h1
  rcases h5.2 with ⟨rfl, h0⟩ | ⟨g, cap, cur, rfl, _, hh, c1, c2, c3, ht⟩
  · exact .inl ⟨rfl, List.eq_nil_of_length_eq_zero h0, rfl⟩
  · rw [Nat.mul_one] at c3 ht
    exact .inr ⟨g, cap, cur, rfl, rfl, hh, c1, c2, c3, ht⟩
theorem block_row {w : World} {e : TypeId} {vs : List Value} {g cap : Nat} {cur : Array Value} (hh : w.heap[g]? = some (.cells cur e (0, 0))) (c1 : vs.length ≤ cap) (c2 : cap ≤ maxLen) (c3 : cur.size = cap) (ht : cur.toList.take vs.length = vs) (h1 : ∀ x ∈ vs, x.oneCell' = true) :
    OV.rel w (.row e 1 (vs.map .c)) (.slice (some ⟨g, 0, none⟩) vs.length cap) [g] := by
  simp only [OV.rel]
  exact ⟨vs.length, vs, [], by simp, by omega, OV.rels_c vs, h1, ⟨by simp, .inr ⟨g, cap, cur, rfl, Nat.zero_le _, hh, c1, c2, by omega, by rw [Nat.mul_one]; exact ht⟩⟩, rfl⟩
def seqI (k : Int) (n : Nat) : List Int := (List.range n).map fun (i : Nat) => k + (i : Int)
theorem seqI_len (k : Int) (n : Nat) : (seqI k n).length = n := by unfold seqI; simp
theorem seqI_at {k : Int} {n i : Nat} (h : i < n) : (seqI k n)[i]? = some (k + i) := by unfold seqI; simp [h]
theorem seqI_succ (k : Int) (n : Nat) : seqI k (n + 1) = seqI k n ++ [k + n] := by unfold seqI; rw [List.range_succ, List.map_append]; rfl
theorem mark_next {cur : Array Value} {n j : Nat} {f : Int → Value} {k : Int} {vs : List Value} (hn : n ≤ cur.size) (hl : vs.length = n) (hj : j < n) (h : cur.toList.take n = (seqI k j).map f ++ vs.drop j) :
    (cur.setIfInBounds j (f (k + j))).toList.take n = (seqI k (j + 1)).map f ++ vs.drop (j + 1) := by
  rw [Array.toList_setIfInBounds, List.take_set, h, seqI_succ, List.map_append, List.append_assoc]
  have hs : ((seqI k j).map f).length = j := by rw [List.length_map, seqI_len]
  rw [List.set_append_right _ _ (by omega), hs, Nat.sub_self]
  have hd : vs.drop j = vs[j] :: vs.drop (j + 1) := (List.drop_eq_getElem_cons (by omega))
  rw [hd]
  rfl
set_option maxHeartbeats 8000000 in
theorem markIntS_mk (l : List Int) (k : Int) (h0 : 0 ≤ k) (hk : k ≤ 4611686018427387904) (hll : l.length ≤ 4194304) : MK Try.prog 45 (intsO l) k (k + l.length) (intsO (seqI k l.length)) := by
  intro w u bs h hnd hlt
  have hl : (l.map fun z => Value.int .i64 z).length = l.length := List.length_map ..
  rcases row_block h with ⟨rfl, h1, rfl⟩ | ⟨g, cap, cur, rfl, rfl, hh, c1, c2, c3, ht⟩
  · obtain rfl : l = [] := by simpa using h1
    refine mark_enter (X := fun w' => OV.rel w' (intsO (seqI k 0)) (.slice none 0 0) []) Try.func45 rfl _ Try.ntmps45 (by simp) hlt ?_
    generalize hC0 : (⟨w, fun b => b ∉ ([] : List Nat), fun _ => False, _⟩ : Ctx) = C0
    have hn : C0.n = 19 := by rw [← hC0]
    have hm0 : ∀ b, ¬ C0.mu b := by rw [← hC0]; exact fun _ h => h
    repeat' (first
 | refine RunsL.step tabOk hn rfl ?_
 | refine RunsL.nil ?_
 | refine Runs.toRegion 30 rfl ?_
 | (refine Runs.ctls 30 rfl ?_; first | refine Runs.cond_t rfl ?_ | refine Runs.cond_f rfl ?_ | ((first | refine Runs.cond_yes rfl ?_ ?_ | refine Runs.cond_nno rfl ?_ ?_); · first | omega | rfl | assumption | (simp only [List.length_map]; omega)) | ((first | refine Runs.cond_no rfl ?_ ?_ | refine Runs.cond_nyes rfl ?_ ?_); · first | omega | rfl | assumption | (simp only [List.length_map]; omega)) | refine Runs.cond_dec rfl (fun h => ?_) (fun h => ?_) | refine Runs.cond_ndec rfl (fun h => ?_) (fun h => ?_) | refine Runs.cond_nb rfl (fun h => ?_) (fun h => ?_) | refine Runs.cond_b rfl (fun h => ?_) (fun h => ?_) | refine Runs.ret (ends_ro hm rfl rfl ?_) | exact Runs.ret (ends_cellR hm rfl rfl rfl (Nat.le_of_ble_eq_true rfl) rfl rfl))
 | refine op_box rfl (tl hn rfl) ?_
 | refine op_storeF rfl rfl rfl rfl (Nat.le_of_ble_eq_true rfl) ?_
 | refine op_alloc (tl hn rfl) ?_
 | refine op_storeN rfl rfl rfl rfl (Nat.le_of_ble_eq_true rfl) ?_
 | (refine RunsL.pe hn rfl rfl rfl ?_; first
 | refine ⟨_, pu_add rfl rfl (by omega), ?_⟩
 | refine ⟨_, pu_indexAddr_map rfl rfl (by omega) (by assumption), ?_⟩
 | refine ⟨_, pu_sub rfl rfl (by omega), ?_⟩
 | refine ⟨_, pu_pick_b rfl rfl rfl, ?_⟩
 | refine ⟨_, pu_mul rfl rfl (by omega), ?_⟩
 | refine ⟨_, pu_build rfl rfl rfl rfl rfl rfl, ?_⟩))
    refine Runs.ctls 30 rfl (Runs.keep [(0, .ro (.c (.slice none 0 0))), (1, .int k), (5, .int 0)] ⟨rfl, rfl, rfl, trivial⟩ ?_)
    refine Runs.loopV (fun n C S => C = C0 ∧ S = ⟨[(0, .ro (.c (.slice none 0 0))), (1, .int k), (5, .int 0)], []⟩) ?_ 0 C0 _ ⟨rfl, rfl⟩
    rintro n C S ⟨rfl, rfl⟩ ih
    repeat' (first
 | refine RunsL.step tabOk hn rfl ?_
 | refine RunsL.nil ?_
 | refine Runs.toRegion 30 rfl ?_
 | (refine RunsL.pe hn rfl rfl rfl ?_; first
 | refine ⟨_, pu_lenC rfl, ?_⟩)
 | (refine Runs.ctls 30 rfl ?_; first | refine Runs.cond_t rfl ?_ | refine Runs.cond_f rfl ?_ | ((first | refine Runs.cond_yes rfl ?_ ?_ | refine Runs.cond_nno rfl ?_ ?_); · first | omega | rfl | assumption | (simp only [List.length_map]; omega)) | ((first | refine Runs.cond_no rfl ?_ ?_ | refine Runs.cond_nyes rfl ?_ ?_); · first | omega | rfl | assumption | (simp only [List.length_map]; omega)) | refine Runs.cond_dec rfl (fun h => ?_) (fun h => ?_) | refine Runs.cond_ndec rfl (fun h => ?_) (fun h => ?_) | refine Runs.cond_nb rfl (fun h => ?_) (fun h => ?_) | refine Runs.cond_b rfl (fun h => ?_) (fun h => ?_) | refine Runs.ret (ends_ro hm rfl rfl ?_) | exact Runs.ret (ends_cellR hm rfl rfl rfl (Nat.le_of_ble_eq_true rfl) rfl rfl))
 | refine op_box rfl (tl hn rfl) ?_
 | refine op_storeF rfl rfl rfl rfl (Nat.le_of_ble_eq_true rfl) ?_
 | refine op_alloc (tl hn rfl) ?_
 | refine op_storeN rfl rfl rfl rfl (Nat.le_of_ble_eq_true rfl) ?_
 | (refine RunsL.pe hn rfl rfl rfl ?_; first
 | refine ⟨_, pu_add rfl rfl (by omega), ?_⟩
 | refine ⟨_, pu_indexAddr_map rfl rfl (by omega) (by assumption), ?_⟩
 | refine ⟨_, pu_sub rfl rfl (by omega), ?_⟩
 | refine ⟨_, pu_pick_b rfl rfl rfl, ?_⟩
 | refine ⟨_, pu_mul rfl rfl (by omega), ?_⟩
 | refine ⟨_, pu_build rfl rfl rfl rfl rfl rfl, ?_⟩))
    refine Runs.ctls 30 rfl (Runs.ret (endsM (Nx.refl _ _) hm0 rfl (by show look _ _ = _; simp [look]) fun φ w hG => ?_))
    simp only [intsO, seqI, OV.rel, List.range_zero, List.map_nil, OV.rels]
    exact ⟨0, [], [], rfl, by omega, ⟨rfl, rfl⟩, by simp, ⟨rfl, .inl ⟨rfl, rfl⟩⟩, rfl⟩
  · rw [hl] at c1 ht ⊢
    refine mark_enter (X := fun w' => OV.rel w' (intsO (seqI k l.length)) (.slice (some ⟨g, 0, none⟩) l.length cap) [g]) Try.func45 rfl _ Try.ntmps45 (by simp) hlt ?_
    generalize hC0 : (⟨w, fun b => b ∉ [g], fun _ => False, _⟩ : Ctx) = C0
    have hn : C0.n = 19 := by rw [← hC0]
    have hm0 : ∀ b, ¬ C0.mu b := by rw [← hC0]; exact fun _ h => h
    have hb0 : Bk C0 g cur 3 := by rw [← hC0]; exact ⟨hh, fun h => h, fun h => h (by simp)⟩
    repeat' (first
 | refine RunsL.step tabOk hn rfl ?_
 | refine RunsL.nil ?_
 | refine Runs.toRegion 30 rfl ?_
 | (refine Runs.ctls 30 rfl ?_; first | refine Runs.cond_t rfl ?_ | refine Runs.cond_f rfl ?_ | ((first | refine Runs.cond_yes rfl ?_ ?_ | refine Runs.cond_nno rfl ?_ ?_); · first | omega | rfl | assumption | (simp only [List.length_map]; omega)) | ((first | refine Runs.cond_no rfl ?_ ?_ | refine Runs.cond_nyes rfl ?_ ?_); · first | omega | rfl | assumption | (simp only [List.length_map]; omega)) | refine Runs.cond_dec rfl (fun h => ?_) (fun h => ?_) | refine Runs.cond_ndec rfl (fun h => ?_) (fun h => ?_) | refine Runs.cond_nb rfl (fun h => ?_) (fun h => ?_) | refine Runs.cond_b rfl (fun h => ?_) (fun h => ?_) | refine Runs.ret (ends_ro hm rfl rfl ?_) | exact Runs.ret (ends_cellR hm rfl rfl rfl (Nat.le_of_ble_eq_true rfl) rfl rfl))
 | refine op_box rfl (tl hn rfl) ?_
 | refine op_storeF rfl rfl rfl rfl (Nat.le_of_ble_eq_true rfl) ?_
 | refine op_alloc (tl hn rfl) ?_
 | refine op_storeN rfl rfl rfl rfl (Nat.le_of_ble_eq_true rfl) ?_
 | (refine RunsL.pe hn rfl rfl rfl ?_; first
 | refine ⟨_, pu_add rfl rfl (by omega), ?_⟩
 | refine ⟨_, pu_indexAddr_map rfl rfl (by omega) (by assumption), ?_⟩
 | refine ⟨_, pu_sub rfl rfl (by omega), ?_⟩
 | refine ⟨_, pu_pick_b rfl rfl rfl, ?_⟩
 | refine ⟨_, pu_mul rfl rfl (by omega), ?_⟩
 | refine ⟨_, pu_build rfl rfl rfl rfl rfl rfl, ?_⟩))
    refine Runs.ctls 30 rfl (Runs.keep [(0, .ro (.c (.slice (some ⟨g, 0, none⟩) l.length cap))), (1, .int k), (5, .int 0)] ⟨rfl, rfl, rfl, trivial⟩ ?_)
    refine Runs.loopV (fun n C S => ∃ (j : Nat) (cu : Array Value), j + n = l.length ∧ C.n = 19 ∧ Nx C0 C [g] ∧ Bk C g cu 3 ∧ cu.size = cap ∧ cu.toList.take l.length = (seqI k j).map (Value.int .i64) ++ (l.map fun z => Value.int .i64 z).drop j ∧ S = ⟨[(0, .ro (.c (.slice (some ⟨g, 0, none⟩) l.length cap))), (1, .int (k + j)), (5, .int (j : Int))], []⟩) ?_ l.length C0 _ ⟨0, cur, by omega, hn, Nx.refl _ _, hb0, c3, by rw [ht]; rfl, by rw [show k + ((0 : Nat) : Int) = k by omega]; rfl⟩
    rintro n C S ⟨j, cu, hj, hn, hnx, hb, hcu, htk, rfl⟩ ih
    by_cases hlt' : j < l.length
    · repeat' (first
 | (refine op_storeC rfl rfl rfl hb (by simp; omega) fun C' nx hb' => ?_; have hn := nx.n.trans hn)
 | refine RunsL.step tabOk hn rfl ?_
 | refine RunsL.nil ?_
 | refine Runs.toRegion 30 rfl ?_
 | (refine RunsL.pe hn rfl rfl rfl ?_; first
 | refine ⟨_, pu_lenC rfl, ?_⟩
 | refine ⟨_, pu_indexC rfl rfl (by omega) (by omega), ?_⟩)
 | (refine Runs.ctls 30 rfl ?_; first | refine Runs.cond_t rfl ?_ | refine Runs.cond_f rfl ?_ | ((first | refine Runs.cond_yes rfl ?_ ?_ | refine Runs.cond_nno rfl ?_ ?_); · first | omega | rfl | assumption | (simp only [List.length_map]; omega)) | ((first | refine Runs.cond_no rfl ?_ ?_ | refine Runs.cond_nyes rfl ?_ ?_); · first | omega | rfl | assumption | (simp only [List.length_map]; omega)) | refine Runs.cond_dec rfl (fun h => ?_) (fun h => ?_) | refine Runs.cond_ndec rfl (fun h => ?_) (fun h => ?_) | refine Runs.cond_nb rfl (fun h => ?_) (fun h => ?_) | refine Runs.cond_b rfl (fun h => ?_) (fun h => ?_) | refine Runs.ret (ends_ro hm rfl rfl ?_) | exact Runs.ret (ends_cellR hm rfl rfl rfl (Nat.le_of_ble_eq_true rfl) rfl rfl))
 | refine op_box rfl (tl hn rfl) ?_
 | refine op_storeF rfl rfl rfl rfl (Nat.le_of_ble_eq_true rfl) ?_
 | refine op_alloc (tl hn rfl) ?_
 | refine op_storeN rfl rfl rfl rfl (Nat.le_of_ble_eq_true rfl) ?_
 | (refine RunsL.pe hn rfl rfl rfl ?_; first
 | refine ⟨_, pu_add rfl rfl (by omega), ?_⟩
 | refine ⟨_, pu_indexAddr_map rfl rfl (by omega) (by assumption), ?_⟩
 | refine ⟨_, pu_sub rfl rfl (by omega), ?_⟩
 | refine ⟨_, pu_pick_b rfl rfl rfl, ?_⟩
 | refine ⟨_, pu_mul rfl rfl (by omega), ?_⟩
 | refine ⟨_, pu_build rfl rfl rfl rfl rfl rfl, ?_⟩))
      have e : ((j : Int).toNat * 1) = j := by omega
      rw [e] at hb'
      have hmn := mark_next (f := Value.int .i64) (k := k) (vs := l.map fun z => Value.int .i64 z) (cur := cu) (by omega) hl hlt' htk
      refine Runs.ctls 30 rfl (Runs.keep [(0, .ro (.c (.slice (some ⟨g, 0, none⟩) l.length cap))), (1, .int (k + ((j + 1 : Nat) : Int))), (5, .int ((j + 1 : Nat) : Int))] ⟨rfl, by simp only [look]; exact av_int (by omega), by simp only [look]; exact av_int (by omega), trivial⟩ (ih (n - 1) (by omega) _ _ ⟨j + 1, _, by omega, hn, (hnx.trans nx).sub (by simp), hb', by simpa using hcu, hmn, rfl⟩))
    · obtain rfl : j = l.length := by omega
      repeat' (first
 | refine RunsL.step tabOk hn rfl ?_
 | refine RunsL.nil ?_
 | refine Runs.toRegion 30 rfl ?_
 | (refine RunsL.pe hn rfl rfl rfl ?_; first
 | refine ⟨_, pu_lenC rfl, ?_⟩)
 | (refine Runs.ctls 30 rfl ?_; first | refine Runs.cond_t rfl ?_ | refine Runs.cond_f rfl ?_ | ((first | refine Runs.cond_yes rfl ?_ ?_ | refine Runs.cond_nno rfl ?_ ?_); · first | omega | rfl | assumption | (simp only [List.length_map]; omega)) | ((first | refine Runs.cond_no rfl ?_ ?_ | refine Runs.cond_nyes rfl ?_ ?_); · first | omega | rfl | assumption | (simp only [List.length_map]; omega)) | refine Runs.cond_dec rfl (fun h => ?_) (fun h => ?_) | refine Runs.cond_ndec rfl (fun h => ?_) (fun h => ?_) | refine Runs.cond_nb rfl (fun h => ?_) (fun h => ?_) | refine Runs.cond_b rfl (fun h => ?_) (fun h => ?_) | refine Runs.ret (ends_ro hm rfl rfl ?_) | exact Runs.ret (ends_cellR hm rfl rfl rfl (Nat.le_of_ble_eq_true rfl) rfl rfl))
 | refine op_box rfl (tl hn rfl) ?_
 | refine op_storeF rfl rfl rfl rfl (Nat.le_of_ble_eq_true rfl) ?_
 | refine op_alloc (tl hn rfl) ?_
 | refine op_storeN rfl rfl rfl rfl (Nat.le_of_ble_eq_true rfl) ?_
 | (refine RunsL.pe hn rfl rfl rfl ?_; first
 | refine ⟨_, pu_add rfl rfl (by omega), ?_⟩
 | refine ⟨_, pu_indexAddr_map rfl rfl (by omega) (by assumption), ?_⟩
 | refine ⟨_, pu_sub rfl rfl (by omega), ?_⟩
 | refine ⟨_, pu_pick_b rfl rfl rfl, ?_⟩
 | refine ⟨_, pu_mul rfl rfl (by omega), ?_⟩
 | refine ⟨_, pu_build rfl rfl rfl rfl rfl rfl, ?_⟩))
      refine Runs.ctls 30 rfl (Runs.ret (endsM hnx hm0 rfl rfl fun φ w hG => ?_))
      have hvl : ((seqI k l.length).map (Value.int .i64)).length = l.length := by rw [List.length_map, seqI_len]
      have hbr := block_row (vs := (seqI k l.length).map (Value.int .i64)) (hb.now hG) (by rw [hvl]; exact c1) c2 hcu (by rw [hvl, htk, List.drop_of_length_le (by rw [hl]; exact Nat.le_refl _), List.append_nil]) (fun x hx => by obtain ⟨z, _, rfl⟩ := List.mem_map.1 hx; rfl)
      rw [hvl] at hbr
      exact hbr
end Go.Proofs.Ytkhnijggbfoimaa
/- Marks on rows of bytes. -/
namespace Go.Proofs.Ytkhnijggbfoimaa
set_option linter.unusedSimpArgs false
set_option linter.unusedVariables false
open Go.RowKit
open AV (Mem Keeps)
def mkB (k : Int) : Value := .int .u8 (IntKind.u8.wrap k)
set_option maxHeartbeats 8000000 in
theorem markByteS_mk (l : List UInt8) (k : Int) (h0 : 0 ≤ k) (hk : k ≤ 4611686018427387904) (hll : l.length ≤ 4194304) : MK Try.prog 29 (bytesO l) k (k + l.length) (.row 5 1 (((seqI k l.length).map mkB).map .c)) := by
  intro w u bs h hnd hlt
  have hl : (l.map fun z => Value.int .u8 (z.toNat : Int)).length = l.length := List.length_map ..
  rcases row_block h with ⟨rfl, h1, rfl⟩ | ⟨g, cap, cur, rfl, rfl, hh, c1, c2, c3, ht⟩
  · obtain rfl : l = [] := by simpa using h1
    refine mark_enter (X := fun w' => OV.rel w' (.row 5 1 (((seqI k 0).map mkB).map .c)) (.slice none 0 0) []) Try.func29 rfl _ Try.ntmps29 (by simp) hlt ?_
    generalize hC0 : (⟨w, fun b => b ∉ ([] : List Nat), fun _ => False, _⟩ : Ctx) = C0
    have hn : C0.n = 20 := by rw [← hC0]
    have hm0 : ∀ b, ¬ C0.mu b := by rw [← hC0]; exact fun _ h => h
    repeat' (first
 | refine RunsL.step tabOk hn rfl ?_
 | refine RunsL.nil ?_
 | refine Runs.toRegion 30 rfl ?_
 | (refine Runs.ctls 30 rfl ?_; first | refine Runs.cond_t rfl ?_ | refine Runs.cond_f rfl ?_ | ((first | refine Runs.cond_yes rfl ?_ ?_ | refine Runs.cond_nno rfl ?_ ?_); · first | omega | rfl | assumption | (simp only [List.length_map]; omega)) | ((first | refine Runs.cond_no rfl ?_ ?_ | refine Runs.cond_nyes rfl ?_ ?_); · first | omega | rfl | assumption | (simp only [List.length_map]; omega)) | refine Runs.cond_dec rfl (fun h => ?_) (fun h => ?_) | refine Runs.cond_ndec rfl (fun h => ?_) (fun h => ?_) | refine Runs.cond_nb rfl (fun h => ?_) (fun h => ?_) | refine Runs.cond_b rfl (fun h => ?_) (fun h => ?_) | refine Runs.ret (ends_ro hm rfl rfl ?_) | exact Runs.ret (ends_cellR hm rfl rfl rfl (Nat.le_of_ble_eq_true rfl) rfl rfl))
 | refine op_box rfl (tl hn rfl) ?_
 | refine op_storeF rfl rfl rfl rfl (Nat.le_of_ble_eq_true rfl) ?_
 | refine op_alloc (tl hn rfl) ?_
 | refine op_storeN rfl rfl rfl rfl (Nat.le_of_ble_eq_true rfl) ?_
 | (refine RunsL.pe hn rfl rfl rfl ?_; first
 | refine ⟨_, pu_add rfl rfl (by omega), ?_⟩
 | refine ⟨_, pu_indexAddr_map rfl rfl (by omega) (by assumption), ?_⟩
 | refine ⟨_, pu_sub rfl rfl (by omega), ?_⟩
 | refine ⟨_, pu_pick_b rfl rfl rfl, ?_⟩
 | refine ⟨_, pu_mul rfl rfl (by omega), ?_⟩
 | refine ⟨_, pu_build rfl rfl rfl rfl rfl rfl, ?_⟩))
    refine Runs.ctls 30 rfl (Runs.keep [(0, .ro (.c (.slice none 0 0))), (1, .int k), (5, .int 0)] ⟨rfl, rfl, rfl, trivial⟩ ?_)
    refine Runs.loopV (fun n C S => C = C0 ∧ S = ⟨[(0, .ro (.c (.slice none 0 0))), (1, .int k), (5, .int 0)], []⟩) ?_ 0 C0 _ ⟨rfl, rfl⟩
    rintro n C S ⟨rfl, rfl⟩ ih
    repeat' (first
 | refine RunsL.step tabOk hn rfl ?_
 | refine RunsL.nil ?_
 | refine Runs.toRegion 30 rfl ?_
 | (refine RunsL.pe hn rfl rfl rfl ?_; first
 | refine ⟨_, pu_lenC rfl, ?_⟩)
 | (refine Runs.ctls 30 rfl ?_; first | refine Runs.cond_t rfl ?_ | refine Runs.cond_f rfl ?_ | ((first | refine Runs.cond_yes rfl ?_ ?_ | refine Runs.cond_nno rfl ?_ ?_); · first | omega | rfl | assumption | (simp only [List.length_map]; omega)) | ((first | refine Runs.cond_no rfl ?_ ?_ | refine Runs.cond_nyes rfl ?_ ?_); · first | omega | rfl | assumption | (simp only [List.length_map]; omega)) | refine Runs.cond_dec rfl (fun h => ?_) (fun h => ?_) | refine Runs.cond_ndec rfl (fun h => ?_) (fun h => ?_) | refine Runs.cond_nb rfl (fun h => ?_) (fun h => ?_) | refine Runs.cond_b rfl (fun h => ?_) (fun h => ?_) | refine Runs.ret (ends_ro hm rfl rfl ?_) | exact Runs.ret (ends_cellR hm rfl rfl rfl (Nat.le_of_ble_eq_true rfl) rfl rfl))
 | refine op_box rfl (tl hn rfl) ?_
 | refine op_storeF rfl rfl rfl rfl (Nat.le_of_ble_eq_true rfl) ?_
 | refine op_alloc (tl hn rfl) ?_
 | refine op_storeN rfl rfl rfl rfl (Nat.le_of_ble_eq_true rfl) ?_
 | (refine RunsL.pe hn rfl rfl rfl ?_; first
 | refine ⟨_, pu_add rfl rfl (by omega), ?_⟩
 | refine ⟨_, pu_indexAddr_map rfl rfl (by omega) (by assumption), ?_⟩
 | refine ⟨_, pu_sub rfl rfl (by omega), ?_⟩
 | refine ⟨_, pu_pick_b rfl rfl rfl, ?_⟩
 | refine ⟨_, pu_mul rfl rfl (by omega), ?_⟩
 | refine ⟨_, pu_build rfl rfl rfl rfl rfl rfl, ?_⟩))
    refine Runs.ctls 30 rfl (Runs.ret (endsM (Nx.refl _ _) hm0 rfl (by show look _ _ = _; simp [look]) fun φ w hG => ?_))
    simp only [seqI, OV.rel, List.range_zero, List.map_nil, OV.rels]
    exact ⟨0, [], [], rfl, by omega, ⟨rfl, rfl⟩, by simp, ⟨rfl, .inl ⟨rfl, rfl⟩⟩, rfl⟩
  · rw [hl] at c1 ht ⊢
    refine mark_enter (X := fun w' => OV.rel w' (.row 5 1 (((seqI k l.length).map mkB).map .c)) (.slice (some ⟨g, 0, none⟩) l.length cap) [g]) Try.func29 rfl _ Try.ntmps29 (by simp) hlt ?_
    generalize hC0 : (⟨w, fun b => b ∉ [g], fun _ => False, _⟩ : Ctx) = C0
    have hn : C0.n = 20 := by rw [← hC0]
    have hm0 : ∀ b, ¬ C0.mu b := by rw [← hC0]; exact fun _ h => h
    have hb0 : Bk C0 g cur 5 := by rw [← hC0]; exact ⟨hh, fun h => h, fun h => h (by simp)⟩
    repeat' (first
 | refine RunsL.step tabOk hn rfl ?_
 | refine RunsL.nil ?_
 | refine Runs.toRegion 30 rfl ?_
 | (refine Runs.ctls 30 rfl ?_; first | refine Runs.cond_t rfl ?_ | refine Runs.cond_f rfl ?_ | ((first | refine Runs.cond_yes rfl ?_ ?_ | refine Runs.cond_nno rfl ?_ ?_); · first | omega | rfl | assumption | (simp only [List.length_map]; omega)) | ((first | refine Runs.cond_no rfl ?_ ?_ | refine Runs.cond_nyes rfl ?_ ?_); · first | omega | rfl | assumption | (simp only [List.length_map]; omega)) | refine Runs.cond_dec rfl (fun h => ?_) (fun h => ?_) | refine Runs.cond_ndec rfl (fun h => ?_) (fun h => ?_) | refine Runs.cond_nb rfl (fun h => ?_) (fun h => ?_) | refine Runs.cond_b rfl (fun h => ?_) (fun h => ?_) | refine Runs.ret (ends_ro hm rfl rfl ?_) | exact Runs.ret (ends_cellR hm rfl rfl rfl (Nat.le_of_ble_eq_true rfl) rfl rfl))
 | refine op_box rfl (tl hn rfl) ?_
 | refine op_storeF rfl rfl rfl rfl (Nat.le_of_ble_eq_true rfl) ?_
 | refine op_alloc (tl hn rfl) ?_
 | refine op_storeN rfl rfl rfl rfl (Nat.le_of_ble_eq_true rfl) ?_
 | (refine RunsL.pe hn rfl rfl rfl ?_; first
 | refine ⟨_, pu_add rfl rfl (by omega), ?_⟩
 | refine ⟨_, pu_indexAddr_map rfl rfl (by omega) (by assumption), ?_⟩
 | refine ⟨_, pu_sub rfl rfl (by omega), ?_⟩
 | refine ⟨_, pu_pick_b rfl rfl rfl, ?_⟩
 | refine ⟨_, pu_mul rfl rfl (by omega), ?_⟩
 | refine ⟨_, pu_build rfl rfl rfl rfl rfl rfl, ?_⟩))
    refine Runs.ctls 30 rfl (Runs.keep [(0, .ro (.c (.slice (some ⟨g, 0, none⟩) l.length cap))), (1, .int k), (5, .int 0)] ⟨rfl, rfl, rfl, trivial⟩ ?_)
    refine Runs.loopV (fun n C S => ∃ (j : Nat) (cu : Array Value), j + n = l.length ∧ C.n = 20 ∧ Nx C0 C [g] ∧ Bk C g cu 5 ∧ cu.size = cap ∧ cu.toList.take l.length = (seqI k j).map (mkB) ++ (l.map fun z => Value.int .u8 (z.toNat : Int)).drop j ∧ S = ⟨[(0, .ro (.c (.slice (some ⟨g, 0, none⟩) l.length cap))), (1, .int (k + j)), (5, .int (j : Int))], []⟩) ?_ l.length C0 _ ⟨0, cur, by omega, hn, Nx.refl _ _, hb0, c3, by rw [ht]; rfl, by rw [show k + ((0 : Nat) : Int) = k by omega]; rfl⟩
    rintro n C S ⟨j, cu, hj, hn, hnx, hb, hcu, htk, rfl⟩ ih
    by_cases hlt' : j < l.length
    · repeat' (first
 | (refine op_storeC rfl rfl rfl hb (by simp; omega) fun C' nx hb' => ?_; have hn := nx.n.trans hn)
 | refine RunsL.step tabOk hn rfl ?_
 | refine RunsL.nil ?_
 | refine Runs.toRegion 30 rfl ?_
 | (refine RunsL.pe hn rfl rfl rfl ?_; first
 | refine ⟨_, pu_convert inferInstance inferInstance rfl, ?_⟩
 | refine ⟨_, pu_lenC rfl, ?_⟩
 | refine ⟨_, pu_indexC rfl rfl (by omega) (by omega), ?_⟩)
 | (refine Runs.ctls 30 rfl ?_; first | refine Runs.cond_t rfl ?_ | refine Runs.cond_f rfl ?_ | ((first | refine Runs.cond_yes rfl ?_ ?_ | refine Runs.cond_nno rfl ?_ ?_); · first | omega | rfl | assumption | (simp only [List.length_map]; omega)) | ((first | refine Runs.cond_no rfl ?_ ?_ | refine Runs.cond_nyes rfl ?_ ?_); · first | omega | rfl | assumption | (simp only [List.length_map]; omega)) | refine Runs.cond_dec rfl (fun h => ?_) (fun h => ?_) | refine Runs.cond_ndec rfl (fun h => ?_) (fun h => ?_) | refine Runs.cond_nb rfl (fun h => ?_) (fun h => ?_) | refine Runs.cond_b rfl (fun h => ?_) (fun h => ?_) | refine Runs.ret (ends_ro hm rfl rfl ?_) | exact Runs.ret (ends_cellR hm rfl rfl rfl (Nat.le_of_ble_eq_true rfl) rfl rfl))
 | refine op_box rfl (tl hn rfl) ?_
 | refine op_storeF rfl rfl rfl rfl (Nat.le_of_ble_eq_true rfl) ?_
 | refine op_alloc (tl hn rfl) ?_
 | refine op_storeN rfl rfl rfl rfl (Nat.le_of_ble_eq_true rfl) ?_
 | (refine RunsL.pe hn rfl rfl rfl ?_; first
 | refine ⟨_, pu_add rfl rfl (by omega), ?_⟩
 | refine ⟨_, pu_indexAddr_map rfl rfl (by omega) (by assumption), ?_⟩
 | refine ⟨_, pu_sub rfl rfl (by omega), ?_⟩
 | refine ⟨_, pu_pick_b rfl rfl rfl, ?_⟩
 | refine ⟨_, pu_mul rfl rfl (by omega), ?_⟩
 | refine ⟨_, pu_build rfl rfl rfl rfl rfl rfl, ?_⟩))
      have e : ((j : Int).toNat * 1) = j := by omega
      rw [e] at hb'
      have hmn := mark_next (f := mkB) (k := k) (vs := l.map fun z => Value.int .u8 (z.toNat : Int)) (cur := cu) (by omega) hl hlt' htk
      refine Runs.ctls 30 rfl (Runs.keep [(0, .ro (.c (.slice (some ⟨g, 0, none⟩) l.length cap))), (1, .int (k + ((j + 1 : Nat) : Int))), (5, .int ((j + 1 : Nat) : Int))] ⟨rfl, by simp only [look]; exact av_int (by omega), by simp only [look]; exact av_int (by omega), trivial⟩ (ih (n - 1) (by omega) _ _ ⟨j + 1, _, by omega, hn, (hnx.trans nx).sub (by simp), hb', by simpa using hcu, hmn, rfl⟩))
    · obtain rfl : j = l.length := by omega
      repeat' (first
 | refine RunsL.step tabOk hn rfl ?_
 | refine RunsL.nil ?_
 | refine Runs.toRegion 30 rfl ?_
 | (refine RunsL.pe hn rfl rfl rfl ?_; first
 | refine ⟨_, pu_lenC rfl, ?_⟩)
 | (refine Runs.ctls 30 rfl ?_; first | refine Runs.cond_t rfl ?_ | refine Runs.cond_f rfl ?_ | ((first | refine Runs.cond_yes rfl ?_ ?_ | refine Runs.cond_nno rfl ?_ ?_); · first | omega | rfl | assumption | (simp only [List.length_map]; omega)) | ((first | refine Runs.cond_no rfl ?_ ?_ | refine Runs.cond_nyes rfl ?_ ?_); · first | omega | rfl | assumption | (simp only [List.length_map]; omega)) | refine Runs.cond_dec rfl (fun h => ?_) (fun h => ?_) | refine Runs.cond_ndec rfl (fun h => ?_) (fun h => ?_) | refine Runs.cond_nb rfl (fun h => ?_) (fun h => ?_) | refine Runs.cond_b rfl (fun h => ?_) (fun h => ?_) | refine Runs.ret (ends_ro hm rfl rfl ?_) | exact Runs.ret (ends_cellR hm rfl rfl rfl (Nat.le_of_ble_eq_true rfl) rfl rfl))
 | refine op_box rfl (tl hn rfl) ?_
 | refine op_storeF rfl rfl rfl rfl (Nat.le_of_ble_eq_true rfl) ?_
 | refine op_alloc (tl hn rfl) ?_
 | refine op_storeN rfl rfl rfl rfl (Nat.le_of_ble_eq_true rfl) ?_
 | (refine RunsL.pe hn rfl rfl rfl ?_; first
 | refine ⟨_, pu_add rfl rfl (by omega), ?_⟩
 | refine ⟨_, pu_indexAddr_map rfl rfl (by omega) (by assumption), ?_⟩
 | refine ⟨_, pu_sub rfl rfl (by omega), ?_⟩
 | refine ⟨_, pu_pick_b rfl rfl rfl, ?_⟩
 | refine ⟨_, pu_mul rfl rfl (by omega), ?_⟩
 | refine ⟨_, pu_build rfl rfl rfl rfl rfl rfl, ?_⟩))
      refine Runs.ctls 30 rfl (Runs.ret (endsM hnx hm0 rfl rfl fun φ w hG => ?_))
      have hvl : ((seqI k l.length).map (mkB)).length = l.length := by rw [List.length_map, seqI_len]
      have hbr := block_row (vs := (seqI k l.length).map (mkB)) (hb.now hG) (by rw [hvl]; exact c1) c2 hcu (by rw [hvl, htk, List.drop_of_length_le (by rw [hl]; exact Nat.le_refl _), List.append_nil]) (fun x hx => by obtain ⟨z, _, rfl⟩ := List.mem_map.1 hx; rfl)
      rw [hvl] at hbr
      exact hbr
theorem heldIntS_ac (n : Nat) (k : Int) (h0 : 0 ≤ k) (hk : k ≤ 4611686018427387904) (hn' : n ≤ 4194304) : ACv Try.prog 46 [intsR (seqI k n), .int k] (.int (k + n)) := by
  have hl := seqI_len k n
  have hlm : ((seqI k n).map fun z => [RV.int z]).length = (seqI k n).length := List.length_map ..
  refine ac_enter Try.func46 rfl _ Try.ntmps46 (by simp) fun C hn hm => ?_
  repeat' (first
 | refine RunsL.step tabOk hn rfl ?_
 | refine RunsL.nil ?_
 | refine Runs.toRegion 30 rfl ?_
 | (refine Runs.ctls 30 rfl ?_; first | refine Runs.cond_t rfl ?_ | refine Runs.cond_f rfl ?_ | ((first | refine Runs.cond_yes rfl ?_ ?_ | refine Runs.cond_nno rfl ?_ ?_); · first | omega | rfl | assumption | (simp only [List.length_map]; omega)) | ((first | refine Runs.cond_no rfl ?_ ?_ | refine Runs.cond_nyes rfl ?_ ?_); · first | omega | rfl | assumption | (simp only [List.length_map]; omega)) | refine Runs.cond_dec rfl (fun h => ?_) (fun h => ?_) | refine Runs.cond_ndec rfl (fun h => ?_) (fun h => ?_) | refine Runs.cond_nb rfl (fun h => ?_) (fun h => ?_) | refine Runs.cond_b rfl (fun h => ?_) (fun h => ?_) | refine Runs.ret (ends_ro hm rfl rfl ?_) | exact Runs.ret (ends_cellR hm rfl rfl rfl (Nat.le_of_ble_eq_true rfl) rfl rfl))
 | refine op_box rfl (tl hn rfl) ?_
 | refine op_storeF rfl rfl rfl rfl (Nat.le_of_ble_eq_true rfl) ?_
 | refine op_alloc (tl hn rfl) ?_
 | refine op_storeN rfl rfl rfl rfl (Nat.le_of_ble_eq_true rfl) ?_
 | (refine RunsL.pe hn rfl rfl rfl ?_; first
 | refine ⟨_, pu_add rfl rfl (by omega), ?_⟩
 | refine ⟨_, pu_indexAddr_map rfl rfl (by omega) (by assumption), ?_⟩
 | refine ⟨_, pu_sub rfl rfl (by omega), ?_⟩
 | refine ⟨_, pu_pick_b rfl rfl rfl, ?_⟩
 | refine ⟨_, pu_mul rfl rfl (by omega), ?_⟩
 | refine ⟨_, pu_build rfl rfl rfl rfl rfl rfl, ?_⟩))
  refine Runs.loopN 30 rfl (fun j => [(0, .ro (intsR (seqI k n))), (1, .int (k + (j : Int))), (5, .int (j : Int))]) (fun _ => []) (fun _ => True) n 0 (Nat.zero_le _) trivial ⟨rfl, by simp only [look]; exact av_int (by omega), rfl, trivial⟩ rfl fun j hj _ next => ?_
  by_cases hlt : j < n
  · have hx : (seqI k n)[(j : Int).toNat]? = some (k + (j : Int)) := seqI_at hlt
    repeat' (first
 | refine RunsL.step tabOk hn rfl ?_
 | refine RunsL.nil ?_
 | refine Runs.toRegion 30 rfl ?_
 | (refine Runs.ctls 30 rfl ?_; first | refine Runs.cond_t rfl ?_ | refine Runs.cond_f rfl ?_ | ((first | refine Runs.cond_yes rfl ?_ ?_ | refine Runs.cond_nno rfl ?_ ?_); · first | omega | rfl | assumption | (simp only [List.length_map]; omega)) | ((first | refine Runs.cond_no rfl ?_ ?_ | refine Runs.cond_nyes rfl ?_ ?_); · first | omega | rfl | assumption | (simp only [List.length_map]; omega)) | refine Runs.cond_dec rfl (fun h => ?_) (fun h => ?_) | refine Runs.cond_ndec rfl (fun h => ?_) (fun h => ?_) | refine Runs.cond_nb rfl (fun h => ?_) (fun h => ?_) | refine Runs.cond_b rfl (fun h => ?_) (fun h => ?_) | refine Runs.ret (ends_ro hm rfl rfl ?_) | exact Runs.ret (ends_cellR hm rfl rfl rfl (Nat.le_of_ble_eq_true rfl) rfl rfl))
 | refine op_box rfl (tl hn rfl) ?_
 | refine op_storeF rfl rfl rfl rfl (Nat.le_of_ble_eq_true rfl) ?_
 | refine op_alloc (tl hn rfl) ?_
 | refine op_storeN rfl rfl rfl rfl (Nat.le_of_ble_eq_true rfl) ?_
 | (refine RunsL.pe hn rfl rfl rfl ?_; first
 | refine ⟨_, pu_add rfl rfl (by omega), ?_⟩
 | refine ⟨_, pu_indexAddr_map rfl rfl (by omega) (by assumption), ?_⟩
 | refine ⟨_, pu_sub rfl rfl (by omega), ?_⟩
 | refine ⟨_, pu_pick_b rfl rfl rfl, ?_⟩
 | refine ⟨_, pu_mul rfl rfl (by omega), ?_⟩
 | refine ⟨_, pu_build rfl rfl rfl rfl rfl rfl, ?_⟩))
    all_goals first
      | exact next _ _ ⟨rfl, by simp only [look]; exact av_int (by omega), rfl, trivial⟩ hlt trivial rfl
      | (exfalso; omega)
  · obtain rfl : j = n := by omega
    repeat' (first
 | refine RunsL.step tabOk hn rfl ?_
 | refine RunsL.nil ?_
 | refine Runs.toRegion 30 rfl ?_
 | (refine Runs.ctls 30 rfl ?_; first | refine Runs.cond_t rfl ?_ | refine Runs.cond_f rfl ?_ | ((first | refine Runs.cond_yes rfl ?_ ?_ | refine Runs.cond_nno rfl ?_ ?_); · first | omega | rfl | assumption | (simp only [List.length_map]; omega)) | ((first | refine Runs.cond_no rfl ?_ ?_ | refine Runs.cond_nyes rfl ?_ ?_); · first | omega | rfl | assumption | (simp only [List.length_map]; omega)) | refine Runs.cond_dec rfl (fun h => ?_) (fun h => ?_) | refine Runs.cond_ndec rfl (fun h => ?_) (fun h => ?_) | refine Runs.cond_nb rfl (fun h => ?_) (fun h => ?_) | refine Runs.cond_b rfl (fun h => ?_) (fun h => ?_) | refine Runs.ret (ends_ro hm rfl rfl ?_) | exact Runs.ret (ends_cellR hm rfl rfl rfl (Nat.le_of_ble_eq_true rfl) rfl rfl))
 | refine op_box rfl (tl hn rfl) ?_
 | refine op_storeF rfl rfl rfl rfl (Nat.le_of_ble_eq_true rfl) ?_
 | refine op_alloc (tl hn rfl) ?_
 | refine op_storeN rfl rfl rfl rfl (Nat.le_of_ble_eq_true rfl) ?_
 | (refine RunsL.pe hn rfl rfl rfl ?_; first
 | refine ⟨_, pu_add rfl rfl (by omega), ?_⟩
 | refine ⟨_, pu_indexAddr_map rfl rfl (by omega) (by assumption), ?_⟩
 | refine ⟨_, pu_sub rfl rfl (by omega), ?_⟩
 | refine ⟨_, pu_pick_b rfl rfl rfl, ?_⟩
 | refine ⟨_, pu_mul rfl rfl (by omega), ?_⟩
 | refine ⟨_, pu_build rfl rfl rfl rfl rfl rfl, ?_⟩))
    all_goals first
      | exact rr_int rfl
      | (exfalso; omega)
def seqB (k : Int) (n : Nat) : List UInt8 := (seqI k n).map fun z => UInt8.ofNat (IntKind.u8.wrap z).toNat
theorem wrapB (z : Int) : IntKind.u8.wrap z = ((UInt8.ofNat (IntKind.u8.wrap z).toNat).toNat : Int) := by
  have h : 0 ≤ IntKind.u8.wrap z ∧ IntKind.u8.wrap z < 256 := by
    simp [IntKind.wrap, IntKind.bits, IntKind.signed]
    omega
  simp
  omega
theorem mkB_eq (z : Int) : mkB z = Value.int .u8 ((UInt8.ofNat (IntKind.u8.wrap z).toNat).toNat : Int) := by unfold mkB; rw [← wrapB]
theorem seqB_O (k : Int) (n : Nat) : OV.row 5 1 (((seqI k n).map mkB).map .c) = bytesO (seqB k n) := by
  unfold bytesO seqB
  congr 1
  simp only [List.map_map]
  refine List.map_congr_left fun z _ => ?_
  simp only [Function.comp]
  rw [mkB_eq]
theorem seqB_len (k : Int) (n : Nat) : (seqB k n).length = n := by unfold seqB; rw [List.length_map, seqI_len]
theorem seqB_at {k : Int} {n i : Nat} (h : i < n) : (seqB k n)[i]? = some (UInt8.ofNat (IntKind.u8.wrap (k + i)).toNat) := by unfold seqB; rw [List.getElem?_map, seqI_at h]; rfl
end Go.Proofs.Ytkhnijggbfoimaa
/- Quotient and rest by a positive number; texts joined. Over any program. -/
namespace Go.Proofs.Ytkhnijggbfoimaa
set_option linter.unusedSimpArgs false
set_option linter.unusedVariables false
open Go.RowKit
open AV (Mem Keeps)
section
variable {P : Program} {C : Ctx} {env : Env} {σ : List Ob} {t : Nat} {ty : TypeId} {pos : String} {after : Array Edge} {gd : Option (Nat × Bool)}
theorem pu_quo {xt yt : TypeId} {x y : Operand} {p q : Int} (hx : ev env x = .int p) (hy : ev env y = .int q) (h : 0 ≤ p ∧ p ≤ 9223372036854775807 ∧ 1 ≤ q) : Pur P C ⟨some t, .binOp .quo xt x y yt, ty, pos, after, gd⟩ env σ (.int (p / q)) :=
  pu_bin hx hy (fun w => by
    have h0 : ¬ q = 0 := by omega
    have hw : IntKind.i64.wrap (p.tdiv q) = p / q := by
      rw [Int.tdiv_eq_ediv_of_nonneg h.1]
      have h1 : 0 ≤ p / q := Int.ediv_nonneg h.1 (by omega)
      have h2 : p / q ≤ p := Int.ediv_le_self _ h.1
      simp [IntKind.wrap, IntKind.bits, IntKind.signed]; omega
    simp [go_sem, Op.intDiv, h0, hw])
theorem pu_rem {xt yt : TypeId} {x y : Operand} {p q : Int} (hx : ev env x = .int p) (hy : ev env y = .int q) (h : 0 ≤ p ∧ p ≤ 9223372036854775807 ∧ 1 ≤ q) : Pur P C ⟨some t, .binOp .rem xt x y yt, ty, pos, after, gd⟩ env σ (.int (p % q)) :=
  pu_bin hx hy (fun w => by
    have h0 : ¬ q = 0 := by omega
    have h1 : p.tmod q = p % q := Int.tmod_eq_emod_of_nonneg h.1
    have h2 : 0 ≤ p % q := Int.emod_nonneg _ (by omega)
    have h3 : p % q ≤ p := by
      have := Int.emod_lt_of_pos p (show 0 < q by omega)
      have := Int.mul_ediv_add_emod p q
      have : 0 ≤ q * (p / q) := Int.mul_nonneg (by omega) (Int.ediv_nonneg h.1 (by omega))
      omega
    have h4 : IntKind.i64.wrap (p % q) = p % q := by simp [IntKind.wrap, IntKind.bits, IntKind.signed]; omega
    simp [go_sem, Op.intDiv, h0, h1, h4])
theorem pu_cat {xt yt : TypeId} {x y : Operand} {a b : ByteArray} (hx : ev env x = .str a) (hy : ev env y = .str b) (h : a.size + b.size ≤ 9223372036854775807) : Pur P C ⟨some t, .binOp .add xt x y yt, ty, pos, after, gd⟩ env σ (.str (a ++ b)) :=
  pu_bin hx hy (fun w => by
    have h' : ¬ (((a.size + b.size : Nat) : Int) > IntKind.i64.max) := by simp [IntKind.max, IntKind.bits, IntKind.signed]; omega
    rw [binOp_string_add]
    simp only [Op.stringOp]
    rw [if_neg h']
    simp [go_sem])
end
end Go.Proofs.Ytkhnijggbfoimaa
/- The verifier of one instruction: both sides return the same. -/
namespace Go.Proofs.Ytkhnijggbfoimaa
set_option linter.unusedSimpArgs false
set_option linter.unusedVariables false
open Go.RowKit
abbrev InR (x lo hi : Int) : Prop := lo ≤ x ∧ x ≤ hi
theorem inRange_ac (x lo hi : Int) : ACv Try.prog 50 [.int x, .int lo, .int hi] (.bool (decide (InR x lo hi))) := by
  refine ac_enter Try.func50 rfl _ Try.ntmps50 (by simp) fun C hn hm => ?_
  repeat' (first
 | refine RunsL.step tabOk hn rfl ?_
 | refine RunsL.nil ?_
 | refine Runs.toRegion 30 rfl ?_
 | (refine Runs.ctls 30 rfl ?_; first | refine Runs.cond_t rfl ?_ | refine Runs.cond_f rfl ?_ | ((first | refine Runs.cond_yes rfl ?_ ?_ | refine Runs.cond_nno rfl ?_ ?_); · first | omega | rfl | assumption | (simp only [List.length_map]; omega)) | ((first | refine Runs.cond_no rfl ?_ ?_ | refine Runs.cond_nyes rfl ?_ ?_); · first | omega | rfl | assumption | (simp only [List.length_map]; omega)) | refine Runs.cond_dec rfl (fun h => ?_) (fun h => ?_) | refine Runs.cond_ndec rfl (fun h => ?_) (fun h => ?_) | refine Runs.cond_nb rfl (fun h => ?_) (fun h => ?_) | refine Runs.cond_b rfl (fun h => ?_) (fun h => ?_) | refine Runs.ret (ends_ro hm rfl rfl ?_) | exact Runs.ret (ends_cellR hm rfl rfl rfl (Nat.le_of_ble_eq_true rfl) rfl rfl))
 | refine op_box rfl (tl hn rfl) ?_
 | refine op_storeF rfl rfl rfl rfl (Nat.le_of_ble_eq_true rfl) ?_
 | refine op_alloc (tl hn rfl) ?_
 | refine op_storeN rfl rfl rfl rfl (Nat.le_of_ble_eq_true rfl) ?_
 | (refine RunsL.pe hn rfl rfl rfl ?_; first
 | refine ⟨_, pu_add rfl rfl (by omega), ?_⟩
 | refine ⟨_, pu_indexAddr_map rfl rfl (by omega) (by assumption), ?_⟩
 | refine ⟨_, pu_sub rfl rfl (by omega), ?_⟩
 | refine ⟨_, pu_pick_b rfl rfl rfl, ?_⟩
 | refine ⟨_, pu_mul rfl rfl (by omega), ?_⟩
 | refine ⟨_, pu_build rfl rfl rfl rfl rfl rfl, ?_⟩)
 | ((first | refine RunsL.guard_dec rfl rfl rfl ?_ ?_ | refine RunsL.guard_ndec rfl rfl rfl ?_ ?_ | refine RunsL.guard_nb rfl rfl rfl ?_ ?_ | refine RunsL.guard_b rfl rfl rfl ?_ ?_) <;> intro h <;> try (exfalso; first | omega | contradiction | (simp only [List.length_map] at h; omega))))
  all_goals exact rr_bool (by rw [Bool.eq_iff_iff]; simp only [decide_eq_true_eq, Bool.not_eq_true', decide_eq_false_iff_not, Bool.false_eq_true, true_iff, false_iff, Bool.and_eq_true, Bool.or_eq_true, Bool.not_eq_eq_eq_not, Bool.not_true, Bool.not_false, reduceCtorEq, eq_self, iff_true, iff_false, ne_eq]; simp only [InR] at *; omega)
theorem l1In_ac (x lo hi : Int) : ACv Try.prog 34 [.int x, .int lo, .int hi] (.bool (decide (InR x lo hi))) := by
  refine ac_enter Try.func34 rfl _ Try.ntmps34 (by simp) fun C hn hm => ?_
  repeat' (first
 | refine RunsL.step tabOk hn rfl ?_
 | refine RunsL.nil ?_
 | refine Runs.toRegion 30 rfl ?_
 | (refine Runs.ctls 30 rfl ?_; first | refine Runs.cond_t rfl ?_ | refine Runs.cond_f rfl ?_ | ((first | refine Runs.cond_yes rfl ?_ ?_ | refine Runs.cond_nno rfl ?_ ?_); · first | omega | rfl | assumption | (simp only [List.length_map]; omega)) | ((first | refine Runs.cond_no rfl ?_ ?_ | refine Runs.cond_nyes rfl ?_ ?_); · first | omega | rfl | assumption | (simp only [List.length_map]; omega)) | refine Runs.cond_dec rfl (fun h => ?_) (fun h => ?_) | refine Runs.cond_ndec rfl (fun h => ?_) (fun h => ?_) | refine Runs.cond_nb rfl (fun h => ?_) (fun h => ?_) | refine Runs.cond_b rfl (fun h => ?_) (fun h => ?_) | refine Runs.ret (ends_ro hm rfl rfl ?_) | exact Runs.ret (ends_cellR hm rfl rfl rfl (Nat.le_of_ble_eq_true rfl) rfl rfl))
 | refine op_box rfl (tl hn rfl) ?_
 | refine op_storeF rfl rfl rfl rfl (Nat.le_of_ble_eq_true rfl) ?_
 | refine op_alloc (tl hn rfl) ?_
 | refine op_storeN rfl rfl rfl rfl (Nat.le_of_ble_eq_true rfl) ?_
 | (refine RunsL.pe hn rfl rfl rfl ?_; first
 | refine ⟨_, pu_add rfl rfl (by omega), ?_⟩
 | refine ⟨_, pu_indexAddr_map rfl rfl (by omega) (by assumption), ?_⟩
 | refine ⟨_, pu_sub rfl rfl (by omega), ?_⟩
 | refine ⟨_, pu_pick_b rfl rfl rfl, ?_⟩
 | refine ⟨_, pu_mul rfl rfl (by omega), ?_⟩
 | refine ⟨_, pu_build rfl rfl rfl rfl rfl rfl, ?_⟩)
 | ((first | refine RunsL.guard_dec rfl rfl rfl ?_ ?_ | refine RunsL.guard_ndec rfl rfl rfl ?_ ?_ | refine RunsL.guard_nb rfl rfl rfl ?_ ?_ | refine RunsL.guard_b rfl rfl rfl ?_ ?_) <;> intro h <;> try (exfalso; first | omega | contradiction | (simp only [List.length_map] at h; omega))))
  all_goals exact rr_bool (by rw [Bool.eq_iff_iff]; simp only [decide_eq_true_eq, Bool.not_eq_true', decide_eq_false_iff_not, Bool.false_eq_true, true_iff, false_iff, Bool.and_eq_true, Bool.or_eq_true, Bool.not_eq_eq_eq_not, Bool.not_true, Bool.not_false, reduceCtorEq, eq_self, iff_true, iff_false, ne_eq]; simp only [InR] at *; omega)
abbrev Idx (p : Prg) (i : Int) : Prop := 0 ≤ i ∧ i < p.code.length
theorem isIndex_ac (p : Prg) (i : Int) : ACv Try.prog 56 [prgR p, .int i] (.bool (decide (Idx p i))) := by
  have hl : (p.code.map insR).length = p.code.length := List.length_map ..
  refine ac_enter Try.func56 rfl _ Try.ntmps56 (by simp) fun C hn hm => ?_
  repeat' (first
 | refine RunsL.step tabOk hn rfl ?_
 | refine RunsL.nil ?_
 | refine Runs.toRegion 30 rfl ?_
 | (refine Runs.ctls 30 rfl ?_; first | refine Runs.cond_t rfl ?_ | refine Runs.cond_f rfl ?_ | ((first | refine Runs.cond_yes rfl ?_ ?_ | refine Runs.cond_nno rfl ?_ ?_); · first | omega | rfl | assumption | (simp only [List.length_map]; omega)) | ((first | refine Runs.cond_no rfl ?_ ?_ | refine Runs.cond_nyes rfl ?_ ?_); · first | omega | rfl | assumption | (simp only [List.length_map]; omega)) | refine Runs.cond_dec rfl (fun h => ?_) (fun h => ?_) | refine Runs.cond_ndec rfl (fun h => ?_) (fun h => ?_) | refine Runs.cond_nb rfl (fun h => ?_) (fun h => ?_) | refine Runs.cond_b rfl (fun h => ?_) (fun h => ?_) | refine Runs.ret (ends_ro hm rfl rfl ?_) | exact Runs.ret (ends_cellR hm rfl rfl rfl (Nat.le_of_ble_eq_true rfl) rfl rfl))
 | refine op_box rfl (tl hn rfl) ?_
 | refine op_storeF rfl rfl rfl rfl (Nat.le_of_ble_eq_true rfl) ?_
 | refine op_alloc (tl hn rfl) ?_
 | refine op_storeN rfl rfl rfl rfl (Nat.le_of_ble_eq_true rfl) ?_
 | (refine RunsL.pe hn rfl rfl rfl ?_; first
 | refine ⟨_, pu_add rfl rfl (by omega), ?_⟩
 | refine ⟨_, pu_indexAddr_map rfl rfl (by omega) (by assumption), ?_⟩
 | refine ⟨_, pu_sub rfl rfl (by omega), ?_⟩
 | refine ⟨_, pu_pick_b rfl rfl rfl, ?_⟩
 | refine ⟨_, pu_mul rfl rfl (by omega), ?_⟩
 | refine ⟨_, pu_build rfl rfl rfl rfl rfl rfl, ?_⟩)
 | ((first | refine RunsL.guard_dec rfl rfl rfl ?_ ?_ | refine RunsL.guard_ndec rfl rfl rfl ?_ ?_ | refine RunsL.guard_nb rfl rfl rfl ?_ ?_ | refine RunsL.guard_b rfl rfl rfl ?_ ?_) <;> intro h <;> try (exfalso; first | omega | contradiction | (simp only [List.length_map] at h; omega))))
  all_goals exact rr_bool (by rw [Bool.eq_iff_iff]; simp only [decide_eq_true_eq, Bool.not_eq_true', decide_eq_false_iff_not, Bool.false_eq_true, true_iff, false_iff, Bool.and_eq_true, Bool.or_eq_true, Bool.not_eq_eq_eq_not, Bool.not_true, Bool.not_false, reduceCtorEq, eq_self, iff_true, iff_false, ne_eq]; simp only [Idx] at *; omega)
abbrev Goes (op : Int) : Prop := op ≠ 8 ∧ op ≠ 10 ∧ op ≠ 12 ∧ op ≠ 17
theorem goesOn_ac (op : Int) : ACv Try.prog 99 [.int op] (.bool (decide (Goes op))) := by
  refine ac_enter Try.func99 rfl _ Try.ntmps99 (by simp) fun C hn hm => ?_
  repeat' (first
 | refine RunsL.step tabOk hn rfl ?_
 | refine RunsL.nil ?_
 | refine Runs.toRegion 30 rfl ?_
 | (refine Runs.ctls 30 rfl ?_; first | refine Runs.cond_t rfl ?_ | refine Runs.cond_f rfl ?_ | ((first | refine Runs.cond_yes rfl ?_ ?_ | refine Runs.cond_nno rfl ?_ ?_); · first | omega | rfl | assumption | (simp only [List.length_map]; omega)) | ((first | refine Runs.cond_no rfl ?_ ?_ | refine Runs.cond_nyes rfl ?_ ?_); · first | omega | rfl | assumption | (simp only [List.length_map]; omega)) | refine Runs.cond_dec rfl (fun h => ?_) (fun h => ?_) | refine Runs.cond_ndec rfl (fun h => ?_) (fun h => ?_) | refine Runs.cond_nb rfl (fun h => ?_) (fun h => ?_) | refine Runs.cond_b rfl (fun h => ?_) (fun h => ?_) | refine Runs.ret (ends_ro hm rfl rfl ?_) | exact Runs.ret (ends_cellR hm rfl rfl rfl (Nat.le_of_ble_eq_true rfl) rfl rfl))
 | refine op_box rfl (tl hn rfl) ?_
 | refine op_storeF rfl rfl rfl rfl (Nat.le_of_ble_eq_true rfl) ?_
 | refine op_alloc (tl hn rfl) ?_
 | refine op_storeN rfl rfl rfl rfl (Nat.le_of_ble_eq_true rfl) ?_
 | (refine RunsL.pe hn rfl rfl rfl ?_; first
 | refine ⟨_, pu_add rfl rfl (by omega), ?_⟩
 | refine ⟨_, pu_indexAddr_map rfl rfl (by omega) (by assumption), ?_⟩
 | refine ⟨_, pu_sub rfl rfl (by omega), ?_⟩
 | refine ⟨_, pu_pick_b rfl rfl rfl, ?_⟩
 | refine ⟨_, pu_mul rfl rfl (by omega), ?_⟩
 | refine ⟨_, pu_build rfl rfl rfl rfl rfl rfl, ?_⟩)
 | ((first | refine RunsL.guard_dec rfl rfl rfl ?_ ?_ | refine RunsL.guard_ndec rfl rfl rfl ?_ ?_ | refine RunsL.guard_nb rfl rfl rfl ?_ ?_ | refine RunsL.guard_b rfl rfl rfl ?_ ?_) <;> intro h <;> try (exfalso; first | omega | contradiction | (simp only [List.length_map] at h; omega))))
  all_goals exact rr_bool (by rw [Bool.eq_iff_iff]; simp only [decide_eq_true_eq, Bool.not_eq_true', decide_eq_false_iff_not, Bool.false_eq_true, true_iff, false_iff, Bool.and_eq_true, Bool.or_eq_true, Bool.not_eq_eq_eq_not, Bool.not_true, Bool.not_false, reduceCtorEq, eq_self, iff_true, iff_false, ne_eq]; simp only [Goes] at *; omega)
theorem l16Op_ac (op : Int) (l : List Int) (hl : l.length ≤ maxLen) : ACv Try.prog 91 [.int op, intsR l] (.bool (decide (op ∈ l))) := by
  unfold maxLen at hl
  refine ac_enter Try.func91 rfl _ Try.ntmps91 (by simp) fun C hn hm => ?_
  repeat' (first
 | refine RunsL.step tabOk hn rfl ?_
 | refine RunsL.nil ?_
 | refine Runs.toRegion 30 rfl ?_
 | (refine Runs.ctls 30 rfl ?_; first | refine Runs.cond_t rfl ?_ | refine Runs.cond_f rfl ?_ | ((first | refine Runs.cond_yes rfl ?_ ?_ | refine Runs.cond_nno rfl ?_ ?_); · first | omega | rfl | assumption | (simp only [List.length_map]; omega)) | ((first | refine Runs.cond_no rfl ?_ ?_ | refine Runs.cond_nyes rfl ?_ ?_); · first | omega | rfl | assumption | (simp only [List.length_map]; omega)) | refine Runs.cond_dec rfl (fun h => ?_) (fun h => ?_) | refine Runs.cond_ndec rfl (fun h => ?_) (fun h => ?_) | refine Runs.cond_nb rfl (fun h => ?_) (fun h => ?_) | refine Runs.cond_b rfl (fun h => ?_) (fun h => ?_) | refine Runs.ret (ends_ro hm rfl rfl ?_) | exact Runs.ret (ends_cellR hm rfl rfl rfl (Nat.le_of_ble_eq_true rfl) rfl rfl))
 | refine op_box rfl (tl hn rfl) ?_
 | refine op_storeF rfl rfl rfl rfl (Nat.le_of_ble_eq_true rfl) ?_
 | refine op_alloc (tl hn rfl) ?_
 | refine op_storeN rfl rfl rfl rfl (Nat.le_of_ble_eq_true rfl) ?_
 | (refine RunsL.pe hn rfl rfl rfl ?_; first
 | refine ⟨_, pu_add rfl rfl (by omega), ?_⟩
 | refine ⟨_, pu_indexAddr_map rfl rfl (by omega) (by assumption), ?_⟩
 | refine ⟨_, pu_sub rfl rfl (by omega), ?_⟩
 | refine ⟨_, pu_pick_b rfl rfl rfl, ?_⟩
 | refine ⟨_, pu_mul rfl rfl (by omega), ?_⟩
 | refine ⟨_, pu_build rfl rfl rfl rfl rfl rfl, ?_⟩))
  refine Runs.loopN 30 rfl (fun j => [(0, .int op), (1, .ro (intsR l)), (5, .int (j : Int))]) (fun _ => []) (fun j => op ∉ l.take j) l.length 0 (Nat.zero_le _) (by simp) ⟨rfl, rfl, rfl, trivial⟩ rfl fun j hj hQ next => ?_
  by_cases hlt : j < l.length
  · obtain ⟨x, hx⟩ : ∃ x, l[(j : Int).toNat]? = some x := ⟨_, List.getElem?_eq_getElem hlt⟩
    have hx' : l[j]? = some x := hx
    repeat' (first
 | refine RunsL.step tabOk hn rfl ?_
 | refine RunsL.nil ?_
 | refine Runs.toRegion 30 rfl ?_
 | (refine Runs.ctls 30 rfl ?_; first | refine Runs.cond_t rfl ?_ | refine Runs.cond_f rfl ?_ | ((first | refine Runs.cond_yes rfl ?_ ?_ | refine Runs.cond_nno rfl ?_ ?_); · first | omega | rfl | assumption | (simp only [List.length_map]; omega)) | ((first | refine Runs.cond_no rfl ?_ ?_ | refine Runs.cond_nyes rfl ?_ ?_); · first | omega | rfl | assumption | (simp only [List.length_map]; omega)) | refine Runs.cond_dec rfl (fun h => ?_) (fun h => ?_) | refine Runs.cond_ndec rfl (fun h => ?_) (fun h => ?_) | refine Runs.cond_nb rfl (fun h => ?_) (fun h => ?_) | refine Runs.cond_b rfl (fun h => ?_) (fun h => ?_) | refine Runs.ret (ends_ro hm rfl rfl ?_) | exact Runs.ret (ends_cellR hm rfl rfl rfl (Nat.le_of_ble_eq_true rfl) rfl rfl))
 | refine op_box rfl (tl hn rfl) ?_
 | refine op_storeF rfl rfl rfl rfl (Nat.le_of_ble_eq_true rfl) ?_
 | refine op_alloc (tl hn rfl) ?_
 | refine op_storeN rfl rfl rfl rfl (Nat.le_of_ble_eq_true rfl) ?_
 | (refine RunsL.pe hn rfl rfl rfl ?_; first
 | refine ⟨_, pu_add rfl rfl (by omega), ?_⟩
 | refine ⟨_, pu_indexAddr_map rfl rfl (by omega) (by assumption), ?_⟩
 | refine ⟨_, pu_sub rfl rfl (by omega), ?_⟩
 | refine ⟨_, pu_pick_b rfl rfl rfl, ?_⟩
 | refine ⟨_, pu_mul rfl rfl (by omega), ?_⟩
 | refine ⟨_, pu_build rfl rfl rfl rfl rfl rfl, ?_⟩))
    · exact rr_bool (decide_eq_true (by subst h; exact List.mem_of_getElem? hx')).symm
    · refine next _ _ ⟨rfl, rfl, rfl, trivial⟩ hlt ?_ rfl
      rw [List.take_succ_eq_append_getElem hlt, List.mem_append]
      rintro (hm' | hm')
      · exact hQ hm'
      · rw [List.getElem?_eq_getElem hlt] at hx'; injection hx' with hx'
        simp only [List.mem_singleton] at hm'
        exact h (by rw [hm', hx'])
  · repeat' (first
 | refine RunsL.step tabOk hn rfl ?_
 | refine RunsL.nil ?_
 | refine Runs.toRegion 30 rfl ?_
 | (refine Runs.ctls 30 rfl ?_; first | refine Runs.cond_t rfl ?_ | refine Runs.cond_f rfl ?_ | ((first | refine Runs.cond_yes rfl ?_ ?_ | refine Runs.cond_nno rfl ?_ ?_); · first | omega | rfl | assumption | (simp only [List.length_map]; omega)) | ((first | refine Runs.cond_no rfl ?_ ?_ | refine Runs.cond_nyes rfl ?_ ?_); · first | omega | rfl | assumption | (simp only [List.length_map]; omega)) | refine Runs.cond_dec rfl (fun h => ?_) (fun h => ?_) | refine Runs.cond_ndec rfl (fun h => ?_) (fun h => ?_) | refine Runs.cond_nb rfl (fun h => ?_) (fun h => ?_) | refine Runs.cond_b rfl (fun h => ?_) (fun h => ?_) | refine Runs.ret (ends_ro hm rfl rfl ?_) | exact Runs.ret (ends_cellR hm rfl rfl rfl (Nat.le_of_ble_eq_true rfl) rfl rfl))
 | refine op_box rfl (tl hn rfl) ?_
 | refine op_storeF rfl rfl rfl rfl (Nat.le_of_ble_eq_true rfl) ?_
 | refine op_alloc (tl hn rfl) ?_
 | refine op_storeN rfl rfl rfl rfl (Nat.le_of_ble_eq_true rfl) ?_
 | (refine RunsL.pe hn rfl rfl rfl ?_; first
 | refine ⟨_, pu_add rfl rfl (by omega), ?_⟩
 | refine ⟨_, pu_indexAddr_map rfl rfl (by omega) (by assumption), ?_⟩
 | refine ⟨_, pu_sub rfl rfl (by omega), ?_⟩
 | refine ⟨_, pu_pick_b rfl rfl rfl, ?_⟩
 | refine ⟨_, pu_mul rfl rfl (by omega), ?_⟩
 | refine ⟨_, pu_build rfl rfl rfl rfl rfl rfl, ?_⟩))
    rw [show j = l.length by omega, List.take_length] at hQ
    exact rr_bool (decide_eq_false hQ).symm
def OpOk (x : Ins) : Prop := (x.op = 1 → InR x.a 1 4 ∧ InR x.b 0 1) ∧ (x.op = 2 ∨ x.op = 16 → InR x.a 0 255) ∧ (x.op = 3 ∨ x.op = 5 → InR x.a 0 400) ∧ (x.op = 11 → 0 ≤ x.a) ∧ (x.op = 12 → InR x.a 1 8) ∧ InR x.op 1 17
instance (x : Ins) : Decidable (OpOk x) := by unfold OpOk; infer_instance
def SafeX (n i : Int) (x : Ins) : Prop := OpOk x ∧ (x.op = 7 ∨ x.op = 8 ∨ x.op = 9 ∨ x.op = 13 → 0 ≤ x.a ∧ x.a < n) ∧ (x.op = 11 → 0 ≤ x.b ∧ x.b < n) ∧ (Goes x.op → i + 1 < n)
instance (n i : Int) (x : Ins) : Decidable (SafeX n i x) := by unfold SafeX; infer_instance
def SafeI (p : Prg) (i : Int) : Prop := match p.code[i.toNat]? with
  | some x => 0 ≤ i ∧ SafeX p.code.length i x
  | none => False
instance (p : Prg) (i : Int) : Decidable (SafeI p i) := by unfold SafeI; split <;> infer_instance
theorem safeI_some {p : Prg} {i : Int} {x : Ins} (h : p.code[i.toNat]? = some x) : SafeI p i ↔ 0 ≤ i ∧ SafeX p.code.length i x := by unfold SafeI; rw [h]
theorem safeI_out {p : Prg} {i : Int} (h : ¬ Idx p i) : SafeI p i ↔ False := by
  unfold SafeI
  split
  · rename_i x hx
    have := (List.getElem?_eq_some_iff.1 hx).1
    unfold Idx at h
    exact ⟨fun h' => h (by omega), False.elim⟩
  · exact Iff.rfl
theorem l16Operands_ac (x : Ins) : ACv Try.prog 92 [.agg (insR x)] (.bool (decide (OpOk x))) := by
  refine ac_enter Try.func92 rfl _ Try.ntmps92 (by simp) fun C hn hm => ?_
  repeat' (first
 | refine RunsL.step tabOk hn rfl ?_
 | refine RunsL.nil ?_
 | refine Runs.toRegion 30 rfl ?_
 | (refine RunsL.pe hn rfl rfl rfl ?_; first
 | refine ⟨_, pu_callR (l1In_ac _ _ _) rfl, ?_⟩)
 | (refine Runs.ctls 30 rfl ?_; first | refine Runs.cond_t rfl ?_ | refine Runs.cond_f rfl ?_ | ((first | refine Runs.cond_yes rfl ?_ ?_ | refine Runs.cond_nno rfl ?_ ?_); · first | omega | rfl | assumption | (simp only [List.length_map]; omega)) | ((first | refine Runs.cond_no rfl ?_ ?_ | refine Runs.cond_nyes rfl ?_ ?_); · first | omega | rfl | assumption | (simp only [List.length_map]; omega)) | refine Runs.cond_dec rfl (fun h => ?_) (fun h => ?_) | refine Runs.cond_ndec rfl (fun h => ?_) (fun h => ?_) | refine Runs.cond_nb rfl (fun h => ?_) (fun h => ?_) | refine Runs.cond_b rfl (fun h => ?_) (fun h => ?_) | refine Runs.ret (ends_ro hm rfl rfl ?_) | exact Runs.ret (ends_cellR hm rfl rfl rfl (Nat.le_of_ble_eq_true rfl) rfl rfl))
 | refine op_box rfl (tl hn rfl) ?_
 | refine op_storeF rfl rfl rfl rfl (Nat.le_of_ble_eq_true rfl) ?_
 | refine op_alloc (tl hn rfl) ?_
 | refine op_storeN rfl rfl rfl rfl (Nat.le_of_ble_eq_true rfl) ?_
 | (refine RunsL.pe hn rfl rfl rfl ?_; first
 | refine ⟨_, pu_add rfl rfl (by omega), ?_⟩
 | refine ⟨_, pu_indexAddr_map rfl rfl (by omega) (by assumption), ?_⟩
 | refine ⟨_, pu_sub rfl rfl (by omega), ?_⟩
 | refine ⟨_, pu_pick_b rfl rfl rfl, ?_⟩
 | refine ⟨_, pu_mul rfl rfl (by omega), ?_⟩
 | refine ⟨_, pu_build rfl rfl rfl rfl rfl rfl, ?_⟩)
 | ((first | refine RunsL.guard_dec rfl rfl rfl ?_ ?_ | refine RunsL.guard_ndec rfl rfl rfl ?_ ?_ | refine RunsL.guard_nb rfl rfl rfl ?_ ?_ | refine RunsL.guard_b rfl rfl rfl ?_ ?_) <;> intro h <;> try (exfalso; first | omega | contradiction | (simp only [List.length_map] at h; omega))))
  all_goals exact rr_bool (by rw [Bool.eq_iff_iff]; simp only [decide_eq_true_eq, Bool.not_eq_true', decide_eq_false_iff_not, Bool.false_eq_true, true_iff, false_iff, Bool.and_eq_true, Bool.or_eq_true, Bool.not_eq_eq_eq_not, Bool.not_true, Bool.not_false, reduceCtorEq, eq_self, iff_true, iff_false, ne_eq]; simp only [OpOk, InR] at *; omega)
end Go.Proofs.Ytkhnijggbfoimaa
/- Names, lists of names, limits, shapes of rules: both sides return the same. -/
namespace Go.Proofs.Ytkhnijggbfoimaa
set_option linter.unusedSimpArgs false
set_option linter.unusedVariables false
open Go.RowKit
noncomputable instance (s : ByteArray) (l : List ByteArray) : Decidable (s ∈ l) := Classical.propDecidable _
theorem AC.of_calls {P : Program} {f : FuncId} {vs : List Value} {v : Value} (h : ∀ w, Calls P f vs.toArray w fun e w' => e = .returned v ∧ Below w.heap.size w w') : ACv P f (vs.map .c) (.c v) := by
  intro w ok us h0 hu
  have e : us = vs.toArray := by
    have := agg_flat (m := ⟨w, fun _ => none, [], ok⟩) vs us.toList (by
      refine RV.rels_mono (w := w) (ok := ok) ⟨Nat.le_refl _, fun b _ hb => ⟨⟨hb, fun i hi => by simp at hi⟩, rfl⟩⟩ _ _ hu)
    rw [← this]
  subst e
  refine (h w).mono fun e w' ⟨e1, hb⟩ => ⟨v, .ro (.c v), [], e1, rfl, by simp [RR.rel, RV.rel], by simp, by simp, hb⟩
theorem str_lt {s : ByteArray} {i : Nat} {c : UInt8} (h : s[i]? = some c) : i < s.size := by
  by_cases hi : i < s.size
  · exact hi
  · rw [getElem?_neg s i hi] at h; cases h
section
variable {P : Program} {C : Ctx} {env : Env} {σ : List Ob} {t : Nat} {ty : TypeId} {pos : String} {after : Array Edge} {gd : Option (Nat × Bool)}
theorem pu_eqlSame {xt yt : TypeId} {x y : Operand} {s : ByteArray} (hx : ev env x = .str s) (hy : ev env y = .str s) : Pur P C ⟨some t, .binOp .eql xt x y yt, ty, pos, after, gd⟩ env σ (.bool true) := by
  have h := pu_eqlS (P := P) (C := C) (σ := σ) (t := t) (ty := ty) (pos := pos) (after := after) (gd := gd) (xt := xt) (yt := yt) hx hy
  have e : (s.toList == s.toList) = true := by simp
  rwa [e] at h
theorem pu_eqlDiff {xt yt : TypeId} {x y : Operand} {s u : ByteArray} (hx : ev env x = .str s) (hy : ev env y = .str u) (hn : ¬ s = u) : Pur P C ⟨some t, .binOp .eql xt x y yt, ty, pos, after, gd⟩ env σ (.bool false) := by
  have h := pu_eqlS (P := P) (C := C) (σ := σ) (t := t) (ty := ty) (pos := pos) (after := after) (gd := gd) (xt := xt) (yt := yt) hx hy
  have e : (s.toList == u.toList) = false := by
    rw [Bool.eq_false_iff]
    simpa [ByteArray.toList_eq, ← ByteArray.ext_iff] using hn
  rwa [e] at h
end
def NameC (c : UInt8) (i : Nat) : Prop := (97 ≤ c.toNat ∧ c.toNat ≤ 122) ∨ (48 ≤ c.toNat ∧ c.toNat ≤ 57 ∧ i ≠ 0)
def IsNm (s : ByteArray) : Prop := 1 ≤ s.size ∧ s.size ≤ 12 ∧ ∀ (i : Nat) c, s[i]? = some c → NameC c i
noncomputable instance (s : ByteArray) : Decidable (IsNm s) := Classical.propDecidable _
def pow8 (s : Int) : Int := if s = 1 then 256 else if s = 2 then 65536 else if s = 3 then 16777216 else 4294967296
theorem pow8_le {s : Int} : 256 ≤ pow8 s ∧ pow8 s ≤ 4294967296 := by unfold pow8; split; omega; split; omega; split <;> omega
section
variable {P : Program} {C : Ctx} {env : Env} {σ : List Ob} {t : Nat} {ty : TypeId} {pos : String} {after : Array Edge} {gd : Option (Nat × Bool)}
theorem pu_pow {xt yt : TypeId} {x y : Operand} {s : Int} (hx : ev env x = .ro (.c (.int .i64 1))) (hy : ev env y = .ro (.c (.int .i64 (8 * s)))) (h : 1 ≤ s ∧ s ≤ 4) : Pur P C ⟨some t, .binOp .shl xt x y yt, ty, pos, after, gd⟩ env σ (.int (pow8 s)) := by
  have hs : s = 1 ∨ s = 2 ∨ s = 3 ∨ s = 4 := by omega
  rcases hs with rfl | rfl | rfl | rfl
  · exact pu_bin hx hy (fun w => by simp [go_sem, pow8]; rfl)
  · exact pu_bin hx hy (fun w => by simp [go_sem, pow8]; rfl)
  · exact pu_bin hx hy (fun w => by simp [go_sem, pow8]; rfl)
  · exact pu_bin hx hy (fun w => by simp [go_sem, pow8]; rfl)
end
def lim (d : Des) (i : Int) : Int := match d[i.toNat]? with
  | some r => if 0 ≤ i ∧ r.kind = 1 ∧ 1 ≤ r.size ∧ r.size ≤ 4 then pow8 r.size - 1 else -1
  | none => -1
theorem lim_yes {d : Des} {i : Int} {r : Rul} (h : d[i.toNat]? = some r) (h0 : 0 ≤ i ∧ r.kind = 1 ∧ 1 ≤ r.size ∧ r.size ≤ 4) : lim d i = pow8 r.size - 1 := by unfold lim; rw [h]; exact if_pos h0
theorem lim_no {d : Des} {i : Int} {r : Rul} (h : d[i.toNat]? = some r) (h0 : ¬ (0 ≤ i ∧ r.kind = 1 ∧ 1 ≤ r.size ∧ r.size ≤ 4)) : lim d i = -1 := by unfold lim; rw [h]; exact if_neg h0
theorem lim_out {d : Des} {i : Int} (h : ¬ (0 ≤ i ∧ i < d.length)) : lim d i = -1 := by
  unfold lim
  split
  · rename_i r hr
    have := (List.getElem?_eq_some_iff.1 hr).1
    exact if_neg (by omega)
  · rfl
abbrev HasR (d : Des) (i : Int) : Prop := 0 ≤ i ∧ i < d.length
end Go.Proofs.Ytkhnijggbfoimaa
/- Shapes of rules: both sides, for each use of the flags. -/
namespace Go.Proofs.Ytkhnijggbfoimaa
set_option linter.unusedSimpArgs false
set_option linter.unusedVariables false
open Go.RowKit
def Plain (r : Rul) (a b c d : Bool) (k : Int) : Prop := (a = true ∨ r.size = 0) ∧ (b = true ∨ r.bytes.length = 0) ∧ (c = true ∨ r.names.length = 0) ∧ (d = true ∨ r.tags.length = 0) ∧ (k < 0 ∨ (r.kids.length : Int) = k)
def Shape (r : Rul) (a b c d : Bool) (k : Int) : Prop := Plain r a b c d k ∧ (r.little = false ∨ r.kind = 1)
noncomputable instance (r : Rul) (a b c d : Bool) (k : Int) : Decidable (Plain r a b c d k) := Classical.propDecidable _
noncomputable instance (r : Rul) (a b c d : Bool) (k : Int) : Decidable (Shape r a b c d k) := Classical.propDecidable _
end Go.Proofs.Ytkhnijggbfoimaa
/- Names of parts, tags of choices: the reference's side. -/
namespace Go.Proofs.Ytkhnijggbfoimaa
set_option linter.unusedSimpArgs false
set_option linter.unusedVariables false
open Go.RowKit
def NamesOk (l : List ByteArray) : Prop := 1 ≤ l.length ∧ l.length ≤ 8 ∧ ∀ (i : Nat) x, l[i]? = some x → IsNm x ∧ x ∉ l.take i
noncomputable instance (l : List ByteArray) : Decidable (NamesOk l) := Classical.propDecidable _
def TagsOk (d : Des) (r : Rul) : Prop := r.kids.length = r.tags.length + 1 ∧ 1 ≤ r.tags.length ∧ r.tags.length ≤ 8 ∧ ∀ (i : Nat) z, r.tags[i]? = some z → 0 ≤ z ∧ z ≤ lim d (r.kids.headD 0) ∧ ∀ y, 0 < i → r.tags[i - 1]? = some y → y < z
noncomputable instance (d : Des) (r : Rul) : Decidable (TagsOk d r) := Classical.propDecidable _
end Go.Proofs.Ytkhnijggbfoimaa
/- The conditions of a rule's kind: the reference's side. -/
namespace Go.Proofs.Ytkhnijggbfoimaa
set_option linter.unusedSimpArgs false
set_option linter.unusedVariables false
open Go.RowKit
def KindOk (d : Des) (r : Rul) : Prop :=
  (r.kind = 1 ∧ Shape r true false false false 0 ∧ InR r.size 1 4 ∧ (r.little = false ∨ 1 < r.size)) ∨
  (r.kind = 2 ∧ Shape r false true false false 0 ∧ InR r.bytes.length 1 16) ∨
  (r.kind = 3 ∧ Shape r true false false false 0 ∧ InR r.size 1 64) ∨
  (r.kind = 4 ∧ Shape r false false false false 1 ∧ 0 < lim d (r.kids.headD 0)) ∨
  (r.kind = 5 ∧ Shape r false false false false 2 ∧ 0 < lim d (r.kids.headD 0)) ∨
  (r.kind = 6 ∧ Shape r false false true false r.names.length ∧ NamesOk r.names) ∨
  (r.kind = 7 ∧ Shape r false false false true (-1) ∧ TagsOk d r) ∨
  ((r.kind = 8 ∨ r.kind = 9) ∧ Shape r false false false false 1) ∨
  (r.kind = 10 ∧ Shape r false true false false 0 ∧ r.bytes.length = 1 ∧ r.bytes.headD 0 ≠ 92)
noncomputable instance (d : Des) (r : Rul) : Decidable (KindOk d r) := Classical.propDecidable _
theorem head_at {l : List Int} (h : 0 < l.length) : l[(0 : Int).toNat]? = some (l.headD 0) := by cases l <;> simp_all
theorem headB_at {l : List UInt8} (h : 0 < l.length) : l[(0 : Int).toNat]? = some (l.headD 0) := by cases l <;> simp_all
theorem Shape.kids {r : Rul} {a b c d : Bool} {k : Int} (h : Shape r a b c d k) (hk : 0 ≤ k) : (r.kids.length : Int) = k := by
  have := h.1.2.2.2.2; omega
end Go.Proofs.Ytkhnijggbfoimaa
/- Valid rules, valid descriptions: the reference's side. -/
namespace Go.Proofs.Ytkhnijggbfoimaa
set_option linter.unusedSimpArgs false
set_option linter.unusedVariables false
open Go.RowKit
def RuleOk (d : Des) (n : Nat) (r : Rul) : Prop := (∀ (k : Nat) x, k < n → d[k]? = some x → ¬ x.name = r.name) ∧ (∀ (k : Nat) z, r.kids[k]? = some z → 0 ≤ z ∧ z < n) ∧ IsNm r.name ∧ KindOk d r
def RuleAt (d : Des) (i : Int) : Prop := 0 ≤ i ∧ ∃ r, d[i.toNat]? = some r ∧ RuleOk d i.toNat r
noncomputable instance (d : Des) (i : Int) : Decidable (RuleAt d i) := Classical.propDecidable _
theorem ruleAt_iff {d : Des} {i : Int} {r : Rul} (h0 : 0 ≤ i) (h : d[i.toNat]? = some r) : RuleAt d i ↔ RuleOk d i.toNat r :=
  ⟨fun ⟨_, r', h1, h2⟩ => by rw [h] at h1; injection h1 with h1; subst h1; exact h2, fun h2 => ⟨h0, r, h, h2⟩⟩
def Good' (d : Des) : Prop := 1 ≤ d.length ∧ d.length ≤ 24 ∧ ∀ j : Nat, j < d.length → RuleAt d j
noncomputable instance (d : Des) : Decidable (Good' d) := Classical.propDecidable _
end Go.Proofs.Ytkhnijggbfoimaa
/- Choices: the program's side. -/
namespace Go.Proofs.Ytkhnijggbfoimaa
set_option linter.unusedSimpArgs false
set_option linter.unusedVariables false
open Go.RowKit
theorem lim_ge (d : Des) (i : Int) : lim d i = -1 ∨ 255 ≤ lim d i := by
  unfold lim
  split
  · rename_i r _
    split
    · have := pow8_le (s := r.size); omega
    · exact .inl rfl
  · exact .inl rfl
def ChoiceOk (d : Des) (r : Rul) : Prop := Plain r false false false true ((r.tags.length : Int) + 1) ∧ TagsOk d r
noncomputable instance (d : Des) (r : Rul) : Decidable (ChoiceOk d r) := Classical.propDecidable _
end Go.Proofs.Ytkhnijggbfoimaa
/- Names, sequences, kinds, rules and descriptions that are valid: the program's side. -/
namespace Go.Proofs.Ytkhnijggbfoimaa
set_option linter.unusedSimpArgs false
set_option linter.unusedVariables false
open Go.RowKit
def SeqOk (r : Rul) : Prop := Plain r false false true false (-1) ∧ r.kids.length = r.names.length ∧ NamesOk r.names
noncomputable instance (r : Rul) : Decidable (SeqOk r) := Classical.propDecidable _
def KindI (d : Des) (r : Rul) : Prop :=
  (r.kind = 1 ∧ Plain r true false false false 0 ∧ InR r.size 1 4 ∧ (r.little = false ∨ 1 < r.size)) ∨
  (r.kind = 2 ∧ Plain r false true false false 0 ∧ InR r.bytes.length 1 16) ∨
  (r.kind = 3 ∧ Plain r true false false false 0 ∧ InR r.size 1 64) ∨
  (r.kind = 4 ∧ Plain r false false false false 1 ∧ 0 < lim d (r.kids.headD 0)) ∨
  (r.kind = 5 ∧ Plain r false false false false 2 ∧ 0 < lim d (r.kids.headD 0)) ∨
  (r.kind = 6 ∧ SeqOk r) ∨
  (r.kind = 7 ∧ ChoiceOk d r) ∨
  ((r.kind = 8 ∨ r.kind = 9) ∧ Plain r false false false false 1) ∨
  (r.kind = 10 ∧ Plain r false true false false 0 ∧ r.bytes.length = 1 ∧ r.bytes.headD 0 ≠ 92)
noncomputable instance (d : Des) (r : Rul) : Decidable (KindI d r) := Classical.propDecidable _
theorem Plain.kids {r : Rul} {a b c d : Bool} {k : Int} (h : Plain r a b c d k) (hk : 0 ≤ k) : (r.kids.length : Int) = k := by
  have := h.2.2.2.2; omega
theorem seqOk_iff {r : Rul} : SeqOk r ∧ (r.little = false ∨ r.kind = 1) ↔ Shape r false false true false r.names.length ∧ NamesOk r.names := by
  unfold SeqOk Shape Plain
  constructor
  · rintro ⟨⟨⟨a, b, c, d, e⟩, f, g⟩, h⟩
    exact ⟨⟨⟨a, b, c, d, by omega⟩, h⟩, g⟩
  · rintro ⟨⟨⟨a, b, c, d, e⟩, h⟩, g⟩
    exact ⟨⟨⟨a, b, c, d, by omega⟩, by omega, g⟩, h⟩
theorem choiceOk_iff {d : Des} {r : Rul} : ChoiceOk d r ∧ (r.little = false ∨ r.kind = 1) ↔ Shape r false false false true (-1) ∧ TagsOk d r := by
  unfold ChoiceOk Shape Plain
  constructor
  · rintro ⟨⟨⟨a, b, c, d, e⟩, g⟩, h⟩
    exact ⟨⟨⟨a, b, c, d, by omega⟩, h⟩, g⟩
  · rintro ⟨⟨⟨a, b, c, d, e⟩, h⟩, g⟩
    exact ⟨⟨⟨a, b, c, d, .inr (by have := g.1; omega)⟩, g⟩, h⟩
theorem kindI_iff (d : Des) (r : Rul) : KindI d r ∧ (r.little = false ∨ r.kind = 1) ↔ KindOk d r := by
  unfold KindI KindOk
  have h1 := @seqOk_iff r
  have h2 := @choiceOk_iff d r
  unfold Shape at h1 h2 ⊢
  constructor
  · rintro ⟨(h | h | h | h | h | h | h | h | h), hl⟩
    · exact .inl ⟨h.1, ⟨h.2.1, hl⟩, h.2.2⟩
    · exact .inr (.inl ⟨h.1, ⟨h.2.1, hl⟩, h.2.2⟩)
    · exact .inr (.inr (.inl ⟨h.1, ⟨h.2.1, hl⟩, h.2.2⟩))
    · exact .inr (.inr (.inr (.inl ⟨h.1, ⟨h.2.1, hl⟩, h.2.2⟩)))
    · exact .inr (.inr (.inr (.inr (.inl ⟨h.1, ⟨h.2.1, hl⟩, h.2.2⟩))))
    · exact .inr (.inr (.inr (.inr (.inr (.inl ⟨h.1, h1.1 ⟨h.2, hl⟩⟩)))))
    · exact .inr (.inr (.inr (.inr (.inr (.inr (.inl ⟨h.1, h2.1 ⟨h.2, hl⟩⟩))))))
    · exact .inr (.inr (.inr (.inr (.inr (.inr (.inr (.inl ⟨h.1, h.2, hl⟩)))))))
    · exact .inr (.inr (.inr (.inr (.inr (.inr (.inr (.inr ⟨h.1, ⟨h.2.1, hl⟩, h.2.2⟩)))))))
  · rintro (h | h | h | h | h | h | h | h | h)
    · exact ⟨.inl ⟨h.1, h.2.1.1, h.2.2⟩, h.2.1.2⟩
    · exact ⟨.inr (.inl ⟨h.1, h.2.1.1, h.2.2⟩), h.2.1.2⟩
    · exact ⟨.inr (.inr (.inl ⟨h.1, h.2.1.1, h.2.2⟩)), h.2.1.2⟩
    · exact ⟨.inr (.inr (.inr (.inl ⟨h.1, h.2.1.1, h.2.2⟩))), h.2.1.2⟩
    · exact ⟨.inr (.inr (.inr (.inr (.inl ⟨h.1, h.2.1.1, h.2.2⟩)))), h.2.1.2⟩
    · exact ⟨.inr (.inr (.inr (.inr (.inr (.inl ⟨h.1, (h1.2 h.2).1⟩))))), (h1.2 h.2).2⟩
    · exact ⟨.inr (.inr (.inr (.inr (.inr (.inr (.inl ⟨h.1, (h2.2 h.2).1⟩)))))), (h2.2 h.2).2⟩
    · exact ⟨.inr (.inr (.inr (.inr (.inr (.inr (.inr (.inl ⟨h.1, h.2.1⟩))))))), h.2.2⟩
    · exact ⟨.inr (.inr (.inr (.inr (.inr (.inr (.inr (.inr ⟨h.1, h.2.1.1, h.2.2⟩))))))), h.2.1.2⟩
end Go.Proofs.Ytkhnijggbfoimaa
/- Kinds, rules and descriptions that are valid: the program's side; a rule of a valid description. -/
namespace Go.Proofs.Ytkhnijggbfoimaa
set_option linter.unusedSimpArgs false
set_option linter.unusedVariables false
open Go.RowKit
abbrev Kn (d : Des) (i : Int) : Prop := Good' d ∧ HasR d i
end Go.Proofs.Ytkhnijggbfoimaa
/- Regions that draw their order, with allocations and a tail of effects: plain moves first, then pure operations and allocations in any order, then the rest as the text says. Over any program. -/
namespace Go.Proofs.Ytkhnijggbfoimaa
set_option linter.unusedSimpArgs false
set_option linter.unusedVariables false
open Go.RowKit
open AV (Mem Keeps)
section
variable {C : Ctx} {w : World} {φ : Nat → Option Nat} {σ : List Ob} {q : Nat} {e : TypeId} {cs : List AV} {us : Array Value}
mutual
theorem rel_fill (hq : σ[q]? = some ⟨e, 0, []⟩) (hφ : φ q = none) : ∀ (v : AV) (u : Value), AV.rel ⟨w, φ, σ, C.ok⟩ v u → AV.rel ⟨w.alloc (.cells us e), upd φ q (some w.heap.size), σ.set q ⟨e, 0, cs⟩, C.ok⟩ v u
  | .ro r, u, h => by
    simp only [AV.rel] at h ⊢
    refine RV.rel_mono ⟨(below_one w _).size, fun b hlt hok => ⟨⟨hok.1, fun i hi he => ?_⟩, (below_one w _).block b hlt⟩⟩ r u h
    by_cases hiq : i = q
    · subst hiq; simp only [upd_eq, Option.some.injEq] at he; omega
    · simp only [upd_ne hiq] at he; exact hok.2 i (by simpa using hi) he
  | .junk, u, _ => by simp [AV.rel]
  | .obj i off, u, h => by
    simp only [AV.rel] at h ⊢
    obtain ⟨h1, g, h2, h3⟩ := h
    have hiq : i ≠ q := by rintro rfl; rw [hφ] at h2; cases h2
    exact ⟨by simpa using h1, g, (upd_ne hiq).trans h2, h3⟩
  | .pin i off g, u, h => by
    simp only [AV.rel] at h ⊢
    obtain ⟨h1, h2, h3⟩ := h
    have hiq : i ≠ q := by rintro rfl; rw [hφ] at h2; cases h2
    exact ⟨by simpa using h1, (upd_ne hiq).trans h2, h3⟩
  | .own i, u, h => by
    simp only [AV.rel] at h ⊢
    obtain ⟨ob, n, h1, h2, h3, h4⟩ := h
    have hiq : i ≠ q := by rintro rfl; rw [hq] at h1; injection h1 with h1; subst h1; exact absurd h3 (Nat.lt_irrefl 0)
    refine ⟨ob, n, by rw [List.getElem?_set_ne (Ne.symm hiq)]; exact h1, h2, h3, ?_⟩
    rcases h4 with ⟨e1, e2, e3⟩ | ⟨g, cap, vs, hg, e1, hh, c1⟩
    · exact .inl ⟨e1, e2, (upd_ne hiq).trans e3⟩
    · exact .inr ⟨g, cap, vs, (upd_ne hiq).trans hg, e1, ((below_one w _).block g (Array.getElem?_eq_some_iff.1 hh).1).trans hh, c1⟩
  | .agg vs, u, h => by
    simp only [AV.rel] at h ⊢
    obtain ⟨us', e1, h1⟩ := h
    exact ⟨us', e1, rels_fill hq hφ vs _ h1⟩
  | .tup vs, u, h => by
    simp only [AV.rel] at h ⊢
    obtain ⟨us', e1, h1⟩ := h
    exact ⟨us', e1, rels_fill hq hφ vs _ h1⟩
  | .fn f a b, u, h => by
    simp only [AV.rel] at h ⊢
    obtain ⟨us', vs', e1, h1, h2⟩ := h
    exact ⟨us', vs', e1, rels_fill hq hφ a _ h1, rels_fill hq hφ b _ h2⟩
theorem rels_fill (hq : σ[q]? = some ⟨e, 0, []⟩) (hφ : φ q = none) : ∀ (vs : List AV) (us' : List Value), AV.rels ⟨w, φ, σ, C.ok⟩ vs us' → AV.rels ⟨w.alloc (.cells us e), upd φ q (some w.heap.size), σ.set q ⟨e, 0, cs⟩, C.ok⟩ vs us'
  | [], us', h => by simpa [AV.rels] using h
  | x :: xs, us', h => by
    simp only [AV.rels] at h ⊢
    obtain ⟨u, us'', e1, h1, h2⟩ := h
    exact ⟨u, us'', e1, rel_fill hq hφ x u h1, rels_fill hq hφ xs us'' h2⟩
end
theorem good_fill (hG : Good C ⟨w, φ, σ, C.ok⟩) (hq : σ[q]? = some ⟨e, 0, []⟩) (hφ : φ q = none) (zs : List Value) (h1 : ∀ x ∈ zs, x.oneCell' = true) :
    Good C ⟨w.alloc (.cells zs.toArray e), upd φ q (some w.heap.size), σ.set q ⟨e, 0, zs.map fun v => .ro (.c v)⟩, C.ok⟩ := by
  have hql : q < σ.length := (List.getElem?_eq_some_iff.1 hq).1
  have hb := below_one w (.cells zs.toArray e)
  refine ⟨rfl, fun i j g hi hj e1 e2 => ?_, fun i o hi => ?_, fun i g hi hg => ?_, hG.frm.below hb⟩
  · simp only [List.length_set] at hi hj
    by_cases hiq : i = q <;> by_cases hjq : j = q
    · omega
    · subst hiq; simp only [upd_eq, Option.some.injEq] at e1; simp only [upd_ne hjq] at e2
      have := hG.lt hj e2; simp only at this; omega
    · subst hjq; simp only [upd_eq, Option.some.injEq] at e2; simp only [upd_ne hiq] at e1
      have := hG.lt hi e1; simp only at this; omega
    · simp only [upd_ne hiq] at e1; simp only [upd_ne hjq] at e2
      exact hG.inj i j g hi hj e1 e2
  · by_cases hiq : i = q
    · subst hiq
      simp only [List.getElem?_set_self hql, Option.some.injEq] at hi
      subst hi
      simp only [upd_eq, ObRel]
      refine ⟨zs.toArray, heap_alloc_new w _, by simp, fun j v hj => ?_⟩
      rw [List.getElem?_map, Option.map_eq_some_iff] at hj
      obtain ⟨x, hx, rfl⟩ := hj
      exact ⟨x, by simpa using hx, h1 x (List.mem_of_getElem? hx), by simp [AV.rel, RV.rel]⟩
    · simp only [List.getElem?_set_ne (Ne.symm hiq)] at hi
      have h := hG.ob i o hi
      simp only [upd_ne hiq]
      simp only at h
      cases hg : φ i with
      | none => rw [hg] at h; exact h
      | some g =>
        rw [hg] at h
        obtain ⟨vs, q1, q2, q3⟩ := h
        refine ⟨vs, (hb.block g (Array.getElem?_eq_some_iff.1 q1).1).trans q1, q2, fun j v hj => ?_⟩
        obtain ⟨x, k1, k2, k3⟩ := q3 j v hj
        exact ⟨x, k1, k2, rel_fill hq hφ v x k3⟩
  · simp only [List.length_set] at hi
    by_cases hiq : i = q
    · subst hiq; simp only [upd_eq, Option.some.injEq] at hg; subst hg; exact .inr hG.frm.size
    · simp only [upd_ne hiq] at hg; exact hG.mine i g hi hg
end
abbrev Res := List (Nat × TypeId × List Value)
def resOb (listed : Array Bool) (r : Nat × TypeId × List Value) : Ob := ⟨r.2.1, 0, if listed.getD r.1 false = true then r.2.2.map (fun v => .ro (.c v)) else []⟩
def res (rs : Res) (listed : Array Bool) : List Ob := rs.map (resOb listed)
def full (rs : Res) : List Ob := rs.map fun r => ⟨r.2.1, 0, r.2.2.map fun v => .ro (.c v)⟩
def YF (P : Program) (C : Ctx) (ops : Array Oper) (σ : List Ob) (rs : Res) (i : Nat) (o : Oper) (v : AV) (E : EE) : Prop :=
  ((∀ r ∈ rs, r.1 ≠ i) ∧ ((gsayE ops E o.guard = some true ∧ ∀ more, PurF P C o E (σ ++ more) v) ∨ (gsayE ops E o.guard = some false ∧ v = .ro (.c undef)))) ∨
  (∃ p e zs, rs[p]? = some (i, e, zs) ∧ o.op = .alloc e ∧ o.guard = none ∧ o.dst.isSome = true ∧ TZ P e zs ∧ v = .obj (σ.length + p) 0)
section
variable {P : Program} {C : Ctx} {ops : Array Oper} {σ : List Ob} {md : Region.Mode} {rs : Res}
theorem YF.put {i : Nat} {oi oj : Oper} {v u : AV} {E : EE} (hy : YF P C ops σ rs i oi v E) (h3 : ∀ d, oj.dst = some d → d ∉ oi.looksAt ops) : YF P C ops σ rs i oi v (putE E oj.dst u) := by
  unfold YF at *
  rw [gsay_put h3]
  rcases hy with ⟨h0, ⟨hw, hv⟩ | hy⟩ | hy
  · exact .inl ⟨h0, .inl ⟨hw, fun more => (hv more).congr fun x hx => evE_put fun t ht => mem_looks_op (h3 t ht) x hx⟩⟩
  · exact .inl ⟨h0, .inr hy⟩
  · exact .inr hy
theorem YF.unput {i : Nat} {oi : Oper} {d : Option Nat} {v u : AV} {E : EE} (hy : YF P C ops σ rs i oi v (putE E d u)) (h3 : ∀ t, d = some t → t ∉ oi.looksAt ops) : YF P C ops σ rs i oi v E := by
  unfold YF at *
  rw [gsay_put h3] at hy
  rcases hy with ⟨h0, ⟨hw, hv⟩ | hy⟩ | hy
  · exact .inl ⟨h0, .inl ⟨hw, fun more => (hv more).congr fun x hx => (evE_put fun t ht => mem_looks_op (h3 t ht) x hx).symm⟩⟩
  · exact .inl ⟨h0, .inr hy⟩
  · exact .inr hy
def aOpR (P : Program) (C : Ctx) (ops : Array Oper) (σ : List Ob) (rs : Res) (i : Nat) (K : EE → Prop) (E : EE) : Prop := ∃ o v, ops[i]? = some o ∧ YF P C ops σ rs i o v E ∧ K (putE E o.dst v)
theorem aOpR_mono {i : Nat} {E : EE} {K K' : EE → Prop} (h : ∀ E, K E → K' E) (hh : aOpR P C ops σ rs i K E) : aOpR P C ops σ rs i K' E := by
  obtain ⟨o, v, h1, h2, h3⟩ := hh
  exact ⟨o, v, h1, h2, h _ h3⟩
theorem aOpR_put {i j : Nat} {oi oj : Oper} {v : AV} (hj : ops[j]? = some oj) (hap : oi.apart ops oj = true) {K : EE → Prop} {E : EE} (hy : YF P C ops σ rs i oi v E) (h : aOpR P C ops σ rs j K (putE E oi.dst v)) :
    aOpR P C ops σ rs j (fun E' => YF P C ops σ rs i oi v E' ∧ K (putE E' oi.dst v)) E := by
  obtain ⟨h1, h2, h3⟩ := Oper.apart_spec hap
  obtain ⟨o, u, k1, k2, k3⟩ := h
  rw [hj] at k1; injection k1 with k1; subst k1
  refine ⟨oj, u, hj, k2.unput h1, hy.put h3, ?_⟩
  rw [← putE_comm h2]; exact k3
def wpAnyR (P : Program) (C : Ctx) (md : Region.Mode) (ops : Array Oper) (σ : List Ob) (rs : Res) (n : Nat) (L : Array Bool → EE → Prop) : Nat → Array Bool → EE → Prop
  | 0, listed, E => L listed E
  | f + 1, listed, E => Region.ready md ops listed ≠ [] ∧ ∀ i ∈ Region.ready md ops listed, i < n ∧ aOpR P C ops σ rs i (wpAnyR P C md ops σ rs n L f (listed.setIfInBounds i true)) E
def sinkP (md : Region.Mode) (ops : Array Oper) (pre : List Nat) (n : Nat) : Bool :=
  (List.range n).all fun i => pre.contains i || (List.range (n + 1)).any fun j => decide (i < j) && Region.waitsFor md ops j i
theorem tail_waitsP {n : Nat} {pre : List Nat} {listed : Array Bool} (hs : sinkP md ops pre n = true) (hc : Region.chainB md ops n = true) (hn : n < ops.size) (inv : HeadInv md ops n listed) (hp : ∀ i ∈ pre, listed.getD i true = true) :
    ∀ (d i : Nat), n - i = d → i < n → listed.getD i true = false → ∀ t, n ≤ t → t ∉ Region.ready md ops listed := by
  intro d
  induction d using Nat.strongRecOn with
  | _ d ih =>
    intro i hd hi hun t ht hr
    obtain ⟨_, ot, hot, hall⟩ := mem_ready.1 hr
    have htlt : t < ops.size := (Array.getElem?_eq_some_iff.1 hot).1
    by_cases htn : t = n
    · subst htn
      have h1 := List.all_eq_true.1 hs i (List.mem_range.2 hi)
      rw [Bool.or_eq_true] at h1
      rcases h1 with h1 | h1
      · have := hp i (by simpa using h1)
        rw [hun] at this; cases this
      obtain ⟨j, hj, hj2⟩ := List.any_eq_true.1 h1
      simp only [Bool.and_eq_true, decide_eq_true_eq] at hj2
      obtain ⟨oj, hoj, e, he, hb, hon⟩ := Region.waitsFor_spec hj2.2
      have hjle : j ≤ t := by have := List.mem_range.1 hj; omega
      by_cases hjt : j = t
      · subst hjt
        have : oj = ot := Option.some.inj (hoj.symm.trans hot)
        subst this
        have h2 := hall e he hb
        rw [hon, getD_both hun] at h2
        cases h2
      · cases hl : listed.getD j false with
        | true =>
          have h2 := inv.closed j oj hoj hl e he hb
          rw [hon, getD_both hun] at h2
          cases h2
        | false =>
          have hjs : j < listed.size := by rw [inv.size]; omega
          exact ih (t - j) (by omega) j rfl (by omega) (getD_in hjs hl) t (Nat.le_refl _) hr
    · have h1 := List.all_eq_true.1 hc t (List.mem_range.2 htlt)
      simp only [Bool.or_eq_true, decide_eq_true_eq] at h1
      rcases h1 with h1 | h1
      · omega
      · obtain ⟨o', ho', e, he, hb, hon⟩ := Region.waitsFor_spec h1
        have : o' = ot := Option.some.inj (ho'.symm.trans hot)
        subst this
        have h2 := hall e he hb
        rw [hon, getD_both (inv.tail (t - 1) (by omega) (by omega))] at h2
        cases h2
theorem getD_set_keep {listed : Array Bool} {i j : Nat} (h : listed.getD i true = true) : (listed.setIfInBounds j true).getD i true = true := by
  by_cases e : j = i
  · subst e
    simp only [Array.getD_eq_getD_getElem?, Array.getElem?_setIfInBounds, if_true]
    split <;> rfl
  · rw [getD_set_ne true e]; exact h
theorem wpAnyR_first {n i : Nat} {pre : List Nat} {oi : Oper} {v : AV} {L : Array Bool → EE → Prop} (hi : ops[i]? = some oi)
    (hs : sinkP md ops pre n = true) (hc : Region.chainB md ops n = true) (hn : n < ops.size) (hin : i < n)
    (hdone : ∀ listed E, L listed E → ∀ j ∈ Region.ready md ops listed, n ≤ j) :
    ∀ (f : Nat) (listed : Array Bool) (E : EE), HeadInv md ops n listed → (∀ i ∈ pre, listed.getD i true = true) →
      (∀ j oj, ops[j]? = some oj → j ≠ i → listed.getD j true = false → (∀ e ∈ oj.after, Region.binds md e = true → e.on ≠ i) → oi.apart ops oj = true) →
      i ∈ Region.ready md ops listed → YF P C ops σ rs i oi v E →
      wpAnyR P C md ops σ rs n L f (listed.setIfInBounds i true) (putE E oi.dst v) → wpAnyR P C md ops σ rs n L (f + 1) listed E := by
  intro f
  induction f with
  | zero =>
    intro listed E inv hp _ hr hy H
    have hun := (mem_ready.1 hr).1
    refine ⟨fun h => (by rw [h] at hr; cases hr), fun j hj => ?_⟩
    have hjn : j < n := by
      rcases Nat.lt_or_ge j n with h | h
      · exact h
      · exact absurd hj (tail_waitsP hs hc hn inv hp _ i rfl hin hun j h)
    refine ⟨hjn, ?_⟩
    by_cases hji : j = i
    · subst hji; exact ⟨oi, v, hi, hy, H⟩
    · have := hdone _ _ H j (ready_mono hj hji)
      omega
  | succ f ih =>
    intro listed E inv hp hfree hr hy H
    have hun := (mem_ready.1 hr).1
    refine ⟨fun h => (by rw [h] at hr; cases hr), fun j hj => ?_⟩
    have hjn : j < n := by
      rcases Nat.lt_or_ge j n with h | h
      · exact h
      · exact absurd hj (tail_waitsP hs hc hn inv hp _ i rfl hin hun j h)
    refine ⟨hjn, ?_⟩
    by_cases hji : j = i
    · subst hji; exact ⟨oi, v, hi, hy, H⟩
    · have h1 := (H.2 j (ready_mono hj hji)).2
      obtain ⟨hjun, oj, hoj, hall⟩ := mem_ready.1 hj
      have hnot : ∀ e ∈ oj.after, Region.binds md e = true → e.on ≠ i := fun e he hb heq => by
        have h1 := hall e he hb
        rw [heq, getD_both hun] at h1
        cases h1
      have h2 := aOpR_put hoj (hfree j oj hoj hji hjun hnot) hy h1
      have hfree' : ∀ k ok, ops[k]? = some ok → k ≠ i → (listed.setIfInBounds j true).getD k true = false →
          (∀ e ∈ ok.after, Region.binds md e = true → e.on ≠ i) → oi.apart ops ok = true := fun k ok hk hki hun hno => by
        refine hfree k ok hk hki ?_ hno
        by_cases hjk : j = k
        · subst hjk; exact hjun
        · rw [getD_set_ne true hjk] at hun; exact hun
      refine aOpR_mono (fun a' h3 => ih (listed.setIfInBounds j true) a' (inv.set hj hjn) (fun i hi => getD_set_keep (hp i hi)) hfree' (ready_mono hr (Ne.symm hji)) h3.1 ?_) h2
      rw [Array.setIfInBounds_comm _ _ hji]
      exact h3.2
def wpLexR (P : Program) (C : Ctx) (ops : Array Oper) (σ : List Ob) (rs : Res) (Q : EE → Prop) : List (Nat × Oper) → EE → Prop
  | [], E => Q E
  | (i, o) :: rest, E => ∃ v, YF P C ops σ rs i o v E ∧ wpLexR P C ops σ rs Q rest (putE E o.dst v)
def lexIdx (md : Region.Mode) (ops : Array Oper) (g n : Nat) : List Nat → Array Bool → Bool
  | [], listed => Region.seqB md ops g n listed && (List.range n).all fun j => listed.getD j false
  | k :: is, listed => (Region.ready md ops listed).contains k && Region.free md ops listed k && decide (k < n) && lexIdx md ops g n is (listed.setIfInBounds k true)
theorem wpAnyR_lex {n g : Nat} {pre : List Nat} {Lq : EE → Prop} (hs : sinkP md ops pre n = true) (hc : Region.chainB md ops n = true) (hn : n < ops.size) :
    ∀ (l : List (Nat × Oper)) (listed : Array Bool) (E : EE), (∀ p ∈ l, ops[p.1]? = some p.2) → HeadInv md ops n listed → (∀ i ∈ pre, listed.getD i true = true) →
    lexIdx md ops g n (l.map (·.1)) listed = true → wpLexR P C ops σ rs Lq l E →
    wpAnyR P C md ops σ rs n (fun listed' E' => Region.seqB md ops g n listed' = true ∧ (∀ j, j < n → listed'.getD j false = true) ∧ Lq E') l.length listed E
  | [], listed, E, _, _, _, hB, h => by
    simp only [List.map_nil, lexIdx, Bool.and_eq_true] at hB
    exact ⟨hB.1, fun j hj => List.all_eq_true.1 hB.2 j (List.mem_range.2 hj), h⟩
  | (k, o) :: l, listed, E, hl, inv, hp, hB, h => by
    have h0 : ops[k]? = some o := hl (k, o) (by simp)
    simp only [List.map_cons, lexIdx, Bool.and_eq_true, decide_eq_true_eq] at hB
    obtain ⟨⟨⟨hr, hf⟩, hkn⟩, hB'⟩ := hB
    have hr' : k ∈ Region.ready md ops listed := by simpa using hr
    obtain ⟨v, hy, hK⟩ := h
    exact wpAnyR_first h0 hs hc hn hkn (fun listed' E' hL => seqB_ready hL.1) l.length listed E inv hp (Region.free_spec h0 hf) hr' hy
      (wpAnyR_lex hs hc hn l _ _ (fun p hp => hl p (by simp [hp])) (inv.set hr' hkn) (fun i hi => getD_set_keep (hp i hi)) hB' hK)
end
structure SimR (C : Ctx) (σ : List Ob) (rs : Res) (listed : Array Bool) (E : EE) (a : Act) (w : World) : Prop where
  defers : a.defers = []
  size : a.tmps.size = C.n
  mem : ∃ φ, Good C ⟨w, φ, σ ++ res rs listed, C.ok⟩ ∧ (∀ p r, rs[p]? = some r → listed.getD r.1 false = false → φ (σ.length + p) = none) ∧ ∀ t, AV.rel ⟨w, φ, σ ++ res rs listed, C.ok⟩ (E t) (a.tmps.getD t undef)
theorem res_same {rs : Res} {listed : Array Bool} {i : Nat} (h : ∀ r ∈ rs, r.1 ≠ i) : res rs (listed.setIfInBounds i true) = res rs listed := by
  unfold res
  refine List.map_congr_left fun r hr => ?_
  unfold resOb
  rw [getD_set_ne false (Ne.symm (h r hr))]
theorem res_set {rs : Res} {listed : Array Bool} {i p : Nat} {e : TypeId} {zs : List Value} (hnd : (rs.map (·.1)).Nodup) (hp : rs[p]? = some (i, e, zs)) (hi : i < listed.size) :
    res rs (listed.setIfInBounds i true) = (res rs listed).set p ⟨e, 0, zs.map fun v => .ro (.c v)⟩ := by
  apply List.ext_getElem?
  intro j
  rw [List.getElem?_set]
  unfold res
  rw [List.getElem?_map]
  by_cases e : p = j
  · subst e
    have hlt : p < rs.length := (List.getElem?_eq_some_iff.1 hp).1
    rw [hp]
    simp [resOb, hlt, hi]
  · rw [if_neg e, List.getElem?_map]
    cases hj : rs[j]? with
    | none => rfl
    | some r =>
      simp only [Option.map_some, Option.some.injEq]
      have hne : r.1 ≠ i := by
        intro he
        have h1 : (rs.map (·.1))[p]? = some i := by simp [hp]
        have h2 : (rs.map (·.1))[j]? = some i := by simp [hj, he]
        have hpl := (List.getElem?_eq_some_iff.1 h1).1
        exact e ((List.getElem?_inj hpl hnd).1 (h1.trans h2.symm))
      unfold resOb
      rw [getD_set_ne false (Ne.symm hne)]
section
variable {P : Program} {C : Ctx} {ops : Array Oper} {σ : List Ob} {md : Region.Mode} {rs : Res} {listed : Array Bool} {E : EE} {a : Act} {w : World}
theorem ev_evE' {m : Mem} {a : Act} {E : EE} (hE : ∀ t, AV.rel m (E t) (a.tmps.getD t undef)) (x : Operand) : AV.rel m (evE E x) (a.eval x) := by
  have := ev_rel (env := []) (m := m) (a := a) (fun t => by simp [look, AV.rel]) x
  cases x with
  | tmp t => exact hE t
  | const c => cases c <;> simpa [ev, evE] using this
  | func f => simpa [ev, evE] using this
  | global g => simp [evE, AV.rel]
theorem SimR.op {Q : Exit → Act → World → Prop} {i : Nat} {o : Oper} {v : AV} {K : Act → World → Prop} (hnd : (rs.map (·.1)).Nodup) (hs : SimR C σ rs listed E a w) (hi : listed.getD i true = false) (ho : ops[i]? = some o) (hd : ∀ t, o.dst = some t → t < C.n)
    (hy : YF P C ops σ rs i o v E) (hK : ∀ a' w', SimR C σ rs (listed.setIfInBounds i true) (putE E o.dst v) a' w' → K a' w') : wpOp P ops Q i K a w := by
  obtain ⟨s1, s2, φ, hG, hφ, hE⟩ := hs
  obtain ⟨dst, op, ty, pos, after, g⟩ := o
  have putR : ∀ {φ' : Nat → Option Nat} {σ' : List Ob} {w' : World} {u : Value}, (∀ t, AV.rel ⟨w', φ', σ', C.ok⟩ (E t) (a.tmps.getD t undef)) → AV.rel ⟨w', φ', σ', C.ok⟩ v u → ∀ t, AV.rel ⟨w', φ', σ', C.ok⟩ (putE E dst v t) ((a.put dst u).tmps.getD t undef) := by
    intro φ' σ' w' u h1 h2 t
    cases dst with
    | none => exact h1 t
    | some s =>
      rw [getD_put a s t u (by rw [s2]; exact hd s rfl)]
      simp only [putE]
      split
      · exact h2
      · exact h1 t
  have szR : ∀ u, (a.put dst u).tmps.size = C.n := fun u => by cases dst <;> simp [Act.put, s2]
  have dfR : ∀ u, (a.put dst u).defers = [] := fun u => by cases dst <;> exact s1
  unfold wpOp
  simp only [ho]
  rcases hy with ⟨h0, ⟨hg, hv⟩ | ⟨hg, rfl⟩⟩ | ⟨p, e, zs, hp, hop, hgd, hds, hz, rfl⟩
  · rw [if_pos (gsay_yes hg a _ hE)]
    refine .inl (hv (res rs listed) a ⟨w, φ, σ ++ res rs listed, C.ok⟩ hG rfl (fun x _ => ev_evE' hE x) _ _ fun u w' hb hu => hK _ _ ?_)
    obtain ⟨g1, g2⟩ := good_below hG hb
    refine ⟨dfR u, szR u, φ, ?_, fun p r hp hl => hφ p r hp ?_, ?_⟩
    · rw [res_same h0]; exact g1
    · rwa [getD_set_ne false (Ne.symm (h0 r (List.mem_of_getElem? hp)))] at hl
    · rw [res_same h0]; exact putR (fun t => AV.rel_keeps g2 _ _ (AV.only_true _) (hE t)) hu
  · rw [gsay_no hg a _ hE, if_neg (by simp)]
    refine hK _ _ ⟨dfR _, szR _, φ, ?_, fun p r hp hl => hφ p r hp ?_, ?_⟩
    · rw [res_same h0]; exact hG
    · rwa [getD_set_ne false (Ne.symm (h0 r (List.mem_of_getElem? hp)))] at hl
    · rw [res_same h0]; exact putR hE (by simp [AV.rel, RV.rel])
  · simp only at hop hgd hds
    subst hop; subst hgd
    have his : i < listed.size := by
      rcases Nat.lt_or_ge i listed.size with h | h
      · exact h
      · simp [Array.getElem?_eq_none h] at hi
    have hlf : listed.getD i false = false := getD_both hi
    rw [if_pos (by simp [Region.wanted])]
    refine .inl ?_
    obtain ⟨inf, z, h1, h2, h3, h4⟩ := hz.h
    unfold Oper.wp
    have hrun : (execOp a.eval ⟨dst, .alloc e, ty, pos, after, none⟩).run P w = .ok (.value (.pointer (some ⟨w.heap.size, 0, none⟩))) (w.alloc (.cells zs.toArray e)) := by
      simp [execOp, Instr.alloc, zeroValue, typeInfo, h1, h2, newVar, newRow, newObj, h3]; rfl
    rw [hrun]
    simp only [Oper.upon]
    have hpl : p < rs.length := (List.getElem?_eq_some_iff.1 hp).1
    have hlf' : ¬ listed.getD i false = true := by rw [hlf]; simp
    have hq : (σ ++ res rs listed)[σ.length + p]? = some ⟨e, 0, []⟩ := by
      rw [List.getElem?_append_right (by omega), show σ.length + p - σ.length = p by omega]
      unfold res
      rw [List.getElem?_map, hp]
      simp only [Option.map_some, resOb]
      rw [if_neg hlf']
    have hφq := hφ p _ hp hlf
    refine hK _ _ ⟨dfR _, szR _, upd φ (σ.length + p) (some w.heap.size), ?_, fun p' r hp' hl => ?_, ?_⟩
    · have := good_fill hG hq hφq zs h4
      rwa [List.set_append_right _ _ (by omega), show σ.length + p - σ.length = p by omega, ← res_set hnd hp his] at this
    · by_cases hpp : p' = p
      · subst hpp
        rw [hp] at hp'; injection hp' with hp'; subst hp'
        simp [his] at hl
      · have hri : r.1 ≠ i := fun he => by rw [he] at hl; simp [his] at hl
        rw [getD_set_ne false (Ne.symm hri)] at hl
        rw [upd_ne (by omega)]
        exact hφ p' r hp' hl
    · have hall : ∀ t, AV.rel ⟨w.alloc (.cells zs.toArray e), upd φ (σ.length + p) (some w.heap.size), (σ ++ res rs listed).set (σ.length + p) ⟨e, 0, zs.map fun v => .ro (.c v)⟩, C.ok⟩ (E t) (a.tmps.getD t undef) := fun t => rel_fill hq hφq _ _ (hE t)
      rw [List.set_append_right _ _ (by omega), show σ.length + p - σ.length = p by omega, ← res_set hnd hp his] at hall
      refine putR hall ?_
      simp only [AV.rel]
      exact ⟨by simp [res]; omega, w.heap.size, upd_eq, rfl⟩
theorem wpAny_of_R {n g : Nat} {L : Array Bool → EE → Prop} {Q' : Exit → Act → World → Prop} (hnd : (rs.map (·.1)).Nodup) (hd : ∀ (i : Nat) o t, ops[i]? = some o → o.dst = some t → t < C.n)
    (hL : ∀ listed E a w, L listed E → SimR C σ rs listed E a w → wpAny P md ops Q' g listed a w) :
    ∀ (f : Nat) (listed : Array Bool) (E : EE) (a : Act) (w : World), SimR C σ rs listed E a w → wpAnyR P C md ops σ rs n L f listed E → wpAny P md ops Q' (f + g) listed a w
  | 0, listed, E, a, w, hs, h => by rw [Nat.zero_add]; exact hL _ _ _ _ h hs
  | f + 1, listed, E, a, w, hs, h => by
    rw [show f + 1 + g = (f + g) + 1 by omega]
    refine ⟨fun h0 => absurd h0 h.1, fun i hi => ?_⟩
    obtain ⟨o, v, ho, hy, hK⟩ := (h.2 i hi).2
    exact SimR.op hnd hs (mem_ready.1 hi).1 ho (fun t ht => hd i o t ho ht) hy fun a' w' hs' => wpAny_of_R hnd hd hL f _ _ a' w' hs' hK
end
section
variable {P : Program} {md : Region.Mode} {ops : Array Oper} {Q' : Exit → Act → World → Prop}
def isMove (o : Oper) : Bool := match o with
  | ⟨some _, .move _, _, _, _, none⟩ => true
  | _ => false
def movedTo (o : Oper) (a : Act) : Value := match o.op with
  | .move x => a.eval x
  | _ => undef
theorem run_move {o : Oper} (h : isMove o = true) (a : Act) (w : World) : Region.wanted o (yielded ops a.tmps) = true ∧ (execOp a.eval o).run P w = .ok (.value (movedTo o a)) w := by
  obtain ⟨dst, op, ty, pos, after, g⟩ := o
  unfold isMove at h
  split at h
  · rename_i he; injection he with e1 e2 e3 e4 e5 e6; subst e1; subst e2; subst e6
    exact ⟨by simp [Region.wanted], by simp [execOp, movedTo]⟩
  · cases h
theorem movedTo_put {oi oj : Oper} (hm : isMove oi = true) (a : Act) (u : Value) (h3 : ∀ d, oj.dst = some d → d ∉ oi.looksAt ops) : movedTo oi (a.put oj.dst u) = movedTo oi a := by
  obtain ⟨dst, op, ty, pos, after, g⟩ := oi
  unfold isMove at hm
  split at hm
  · rename_i x _ _ _ he; injection he with e1 e2 e3 e4 e5 e6; subst e1; subst e2; subst e6
    simp only [movedTo]
    refine Act.eval_put fun d hd hxd => h3 d hd ?_
    subst hxd
    exact List.mem_append_left _ (List.mem_filterMap.2 ⟨.tmp d, by simp [Op.operands], rfl⟩)
  · cases hm
theorem wpOp_move {F : Act → World → Prop} {j : Nat} {oi oj : Oper} (hj : ops[j]? = some oj) (hm : isMove oi = true) (hap : oi.apart ops oj = true) (hsj : ∀ cs b, oj.op ≠ .select cs b) {K K' : Act → World → Prop} {a : Act} {w : World}
    (h : wpOp P ops (nrm F) j K' (a.put oi.dst (movedTo oi a)) w) (hK : ∀ a' w', movedTo oi a' = movedTo oi a → K' (a'.put oi.dst (movedTo oi a)) w' → K a' w') : wpOp P ops (nrm F) j K a w := by
  obtain ⟨h1, h2, h3⟩ := Oper.apart_spec hap
  unfold wpOp at *
  simp only [hj] at *
  rw [wanted_put oj a oi.dst _ h1] at h
  have key : ∀ u w', K' ((a.put oi.dst (movedTo oi a)).put oj.dst u) w' → K (a.put oj.dst u) w' := fun u w' hk => hK _ _ (movedTo_put hm a u h3) (by rwa [← Act.put_comm a (movedTo oi a) u h2])
  split
  · rename_i hw
    simp only [hw, if_true] at h
    refine h.imp (fun h => ?_) (fun h => ⟨?_, h.2⟩)
    · unfold Oper.wp at *
      rw [execOp_put oj hsj a oi.dst _ h1] at h
      generalize (execOp a.eval oj).run P w = r at *
      cases r with
      | ok n w' =>
        cases n with
        | value u => exact key u w' h
        | skip => exact key undef w' h
        | enter f args => exact Calls.mono h (fun e w'' he => by cases e <;> first | exact key _ w'' he | exact he | exact he.elim)
        | row r args => exact Rows.mono h fun v w'' he => key v w'' he
        | defer d =>
          simp only [Oper.upon] at h ⊢
          have e : ({ a.put oi.dst (movedTo oi a) with defers := d :: (a.put oi.dst (movedTo oi a)).defers } : Act).put oj.dst undef = (({ a with defers := d :: a.defers } : Act).put oj.dst undef).put oi.dst (movedTo oi a) := by
            have := Act.put_comm ({ a with defers := d :: a.defers } : Act) (movedTo oi a) undef h2
            rw [← this]
            cases oi.dst <;> rfl
          rw [e] at h
          refine hK _ _ ?_ h
          have := movedTo_put (ops := ops) (oj := oj) hm ({ a with defers := d :: a.defers } : Act) undef h3
          rw [this]
          cases hop : oi.op <;> simp [movedTo, hop]
          rfl
        | _ => exact h
      | halt x w' => cases x <;> exact h
    · have := h.1
      unfold Oper.asks at this ⊢
      rwa [execOp_put oj hsj a oi.dst _ h1] at this
  · rename_i hw
    simp only [hw] at h
    exact key undef w h
theorem wpAny_move {F : Act → World → Prop} {i : Nat} {oi : Oper} (hi : ops[i]? = some oi) (hm : isMove oi = true) (hsel : ∀ (j : Nat) (o : Oper) cs b, ops[j]? = some o → o.op ≠ .select cs b) :
    ∀ (fuel : Nat) (listed : Array Bool) (a : Act) (w : World),
      (∀ j oj, ops[j]? = some oj → j ≠ i → listed.getD j true = false → (∀ e ∈ oj.after, Region.binds md e = true → e.on ≠ i) → oi.apart ops oj = true) →
      i ∈ Region.ready md ops listed →
      wpAny P md ops (nrm F) fuel (listed.setIfInBounds i true) (a.put oi.dst (movedTo oi a)) w → wpAny P md ops (nrm F) (fuel + 1) listed a w := by
  have own : ∀ {K : Act → World → Prop} {a : Act} {w : World}, K (a.put oi.dst (movedTo oi a)) w → wpOp P ops (nrm F) i K a w := by
    intro K a w h
    obtain ⟨e1, e2⟩ := run_move (P := P) (ops := ops) hm a w
    unfold wpOp
    simp only [hi]
    rw [if_pos e1]
    refine .inl ?_
    unfold Oper.wp
    rw [e2]
    exact h
  intro fuel
  induction fuel with
  | zero =>
    intro listed a w _ hr H
    refine ⟨fun h => (by rw [h] at hr; cases hr), fun j hj => ?_⟩
    by_cases hji : j = i
    · subst hji; exact own H
    · have := ready_mono hj hji
      rw [H.1] at this
      cases this
  | succ fuel ih =>
    intro listed a w hfree hr H
    refine ⟨fun h => (by rw [h] at hr; cases hr), fun j hj => ?_⟩
    by_cases hji : j = i
    · subst hji; exact own H
    · have h1 := H.2 j (ready_mono hj hji)
      obtain ⟨hjun, oj, hoj, hall⟩ := mem_ready.1 hj
      have hnot : ∀ e ∈ oj.after, Region.binds md e = true → e.on ≠ i := fun e he hb heq => by
        have h1 := hall e he hb
        have h0 := (mem_ready.1 hr).1
        rw [heq, getD_both h0] at h1
        cases h1
      have hfree' : ∀ k ok, ops[k]? = some ok → k ≠ i → (listed.setIfInBounds j true).getD k true = false →
          (∀ e ∈ ok.after, Region.binds md e = true → e.on ≠ i) → oi.apart ops ok = true := fun k ok hk hki hun hno => by
        refine hfree k ok hk hki ?_ hno
        by_cases hjk : j = k
        · subst hjk; exact hjun
        · rw [getD_set_ne true hjk] at hun; exact hun
      refine wpOp_move hoj hm (hfree j oj hoj hji hjun hnot) (fun cs b => hsel j oj cs b hoj) h1 fun a' w' he h3 => ih (listed.setIfInBounds j true) a' w' hfree' (ready_mono hr (Ne.symm hji)) ?_
      rw [he, Array.setIfInBounds_comm _ _ hji]
      exact h3
end
def pick (l : List Oper) : List Nat → List (Nat × Oper)
  | [] => []
  | i :: is => match l[i]? with
    | some o => (i, o) :: pick l is
    | none => pick l is
theorem pick_mem {l : List Oper} : ∀ {is : List Nat} {p : Nat × Oper}, p ∈ pick l is → l[p.1]? = some p.2
  | [], p, h => by simp [pick] at h
  | i :: is, p, h => by
    unfold pick at h
    split at h
    · rename_i o ho
      rcases List.mem_cons.1 h with rfl | h
      · exact ho
      · exact pick_mem h
    · exact pick_mem h
def mvE (E : EE) (o : Oper) : AV := match o.op with
  | .move x => evE E x
  | _ => .junk
def preE : EE → List (Nat × Oper) → EE
  | E, [] => E
  | E, (_, o) :: l => preE (putE E o.dst (mvE E o)) l
inductive Moved : Env → List (Nat × Oper) → Env → Prop
  | nil {env : Env} : Moved env [] env
  | cons {env env' : Env} {l : List (Nat × Oper)} {i t : Nat} {x : Operand} {v : AV} {ty : TypeId} {pos : String} {after : Array Edge} {g : Option (Nat × Bool)} : ev env x = v → Moved ((t, v) :: env) l env' → Moved env ((i, ⟨some t, .move x, ty, pos, after, g⟩) :: l) env'
theorem Moved.eq {env env' : Env} {l : List (Nat × Oper)} (h : Moved env l env') : preE (look env) l = look env' := by
  induction h with
  | nil => rfl
  | cons hx _ ih =>
    rw [← ih]
    simp only [preE, mvE, ← ev_evE, hx, ← look_putE]
def preIdx (md : Region.Mode) (ops : Array Oper) (n : Nat) : List (Nat × Oper) → Array Bool → Option (Array Bool)
  | [], listed => some listed
  | (k, o) :: is, listed => if (Region.ready md ops listed).contains k && Region.free md ops listed k && decide (k < n) && isMove o then preIdx md ops n is (listed.setIfInBounds k true) else none
def preAll (listed : Array Bool) (pre : List (Nat × Oper)) : Bool := pre.all fun p => listed.getD p.1 true
def drawTB (l : List Oper) (pre head : List Nat) (n : Nat) : Bool :=
  Region.noSelect l.toArray && decide (n < l.length) && sinkP .any l.toArray pre n && Region.chainB .any l.toArray n && decide ((pick l pre).length + (pick l head).length = n) && decide ((pick l pre).map (·.1) = pre) &&
  match preIdx .any l.toArray n (pick l pre) (Array.replicate l.length false) with
  | some listed => pre.all (fun i => listed.getD i true) && lexIdx .any l.toArray (l.length - n) n ((pick l head).map (·.1)) listed
  | none => false
section
variable {P : Program} {C : Ctx} {k : List Item} {R : Act → World → Prop} {env : Env} {σ : List Ob}
theorem wpAny_pre {F : Act → World → Prop} {ops : Array Oper} {n : Nat} (hsel : Region.noSelect ops = true) (hd : ∀ (i : Nat) o t, ops[i]? = some o → o.dst = some t → t < C.n) {w : World} {φ : Nat → Option Nat} (hG : Good C ⟨w, φ, σ, C.ok⟩) :
    ∀ (pre : List (Nat × Oper)) (listed listed' : Array Bool) (E : EE) (a : Act) (f : Nat), (∀ p ∈ pre, ops[p.1]? = some p.2) → preIdx .any ops n pre listed = some listed' → HeadInv .any ops n listed →
    a.defers = [] → a.tmps.size = C.n → (∀ t, AV.rel ⟨w, φ, σ, C.ok⟩ (E t) (a.tmps.getD t undef)) →
    (HeadInv .any ops n listed' → ∀ a', a'.defers = [] → a'.tmps.size = C.n → (∀ t, AV.rel ⟨w, φ, σ, C.ok⟩ (preE E pre t) (a'.tmps.getD t undef)) → wpAny P .any ops (nrm F) f listed' a' w) →
    wpAny P .any ops (nrm F) (pre.length + f) listed a w
  | [], listed, listed', E, a, f, _, hp, inv, s1, s2, hE, h => by
    simp only [preIdx, Option.some.injEq] at hp; subst hp
    rw [List.length_nil, Nat.zero_add]
    exact h inv a s1 s2 hE
  | (i, o) :: pre, listed, listed', E, a, f, hl, hp, inv, s1, s2, hE, h => by
    unfold preIdx at hp
    split at hp
    · rename_i hc
      simp only [Bool.and_eq_true, decide_eq_true_eq] at hc
      obtain ⟨⟨⟨hr, hf⟩, hin⟩, hm⟩ := hc
      have h0 : ops[i]? = some o := hl (i, o) (by simp)
      have hr' : i ∈ Region.ready .any ops listed := by simpa using hr
      rw [show ((i, o) :: pre).length + f = (pre.length + f) + 1 by simp; omega]
      refine wpAny_move h0 hm (Region.noSelect_spec hsel) _ listed a w (Region.free_spec h0 hf) hr' ?_
      have hmv : AV.rel ⟨w, φ, σ, C.ok⟩ (mvE E o) (movedTo o a) := by
        unfold mvE movedTo
        cases o.op <;> simp only <;> first | exact ev_evE' hE _ | simp [AV.rel]
      refine wpAny_pre hsel hd hG pre _ listed' (putE E o.dst (mvE E o)) _ f (fun p hp => hl p (by simp [hp])) hp (inv.set hr' hin) ?_ ?_ ?_ h
      · cases o.dst <;> exact s1
      · cases o.dst <;> simp [Act.put, s2]
      · intro t
        cases hdst : o.dst with
        | none => exact hE t
        | some s =>
          rw [getD_put a s t _ (by rw [s2]; exact hd i o s h0 hdst)]
          simp only [putE]
          split
          · exact hmv
          · exact hE t
    · cases hp
structure RunsT (P : Program) (C : Ctx) (ops : Array Oper) (rs : Res) (tail : List Oper) (l : List (Nat × Oper)) (k : List Item) (R : Act → World → Prop) (S : St) : Prop where
  run : wpLexR P C ops S.σ rs (fun E => ∃ env', E = look env' ∧ RunsL P C ops tail k R ⟨env', S.σ ++ full rs⟩) l (look S.env)
theorem res_none {rs : Res} {m : Nat} : ∀ (j : Nat) o, (res rs (Array.replicate m false))[j]? = some o → o.cs = [] := by
  intro j o h
  unfold res at h
  rw [List.getElem?_map, Option.map_eq_some_iff] at h
  obtain ⟨r, _, rfl⟩ := h
  unfold resOb
  rw [getD_replicate_false]
  rfl
theorem res_full {rs : Res} {listed : Array Bool} (h : ∀ r ∈ rs, listed.getD r.1 false = true) : res rs listed = full rs := by
  unfold res full
  refine List.map_congr_left fun r hr => ?_
  unfold resOb
  rw [if_pos (h r hr)]
theorem res_blank {rs : Res} {l l' : Array Bool} (h : ∀ r ∈ rs, l.getD r.1 false = l'.getD r.1 false) : res rs l = res rs l' := by
  unfold res
  refine List.map_congr_left fun r hr => ?_
  unfold resOb
  rw [h r hr]
theorem preIdx_off {ops : Array Oper} {n : Nat} {i : Nat} : ∀ (pre : List (Nat × Oper)) (listed listed' : Array Bool), preIdx .any ops n pre listed = some listed' → (∀ p ∈ pre, p.1 ≠ i) → listed'.getD i false = listed.getD i false
  | [], listed, listed', h, _ => by simp only [preIdx, Option.some.injEq] at h; rw [h]
  | (k, o) :: pre, listed, listed', h, hp => by
    unfold preIdx at h
    split at h
    · rw [preIdx_off pre _ listed' h fun p hq => hp p (by simp [hq]), getD_set_ne false (hp (k, o) (by simp))]
    · cases h
theorem Runs.drawT {id : Nat} {l : List Oper} {cn : Nat} {env' : Env} (pre head : List Nat) (n : Nat) (rs : Res) (hf : P.follows .mixedOrders = true) (hn : C.n = cn) (hB : drawTB l pre head n = true) (hd : dstOk cn l = true)
    (hpre : Moved env (pick l pre) env') (hnd : (rs.map (·.1)).Nodup) (hrs : ∀ r ∈ rs, r.1 < n) (hrp : ∀ r ∈ rs, ∀ p ∈ pre, p ≠ r.1)
    (h : RunsT P C l.toArray rs (l.drop n) (pick l head) k R ⟨env', σ⟩) : Runs P C (.code (.region id l.toArray true) :: k) R ⟨env, σ⟩ := by
  refine ⟨fun a w hs => Fin.of_wp (wp_region_any hf ?_)⟩
  unfold drawTB at hB
  simp only [Bool.and_eq_true, decide_eq_true_eq] at hB
  obtain ⟨⟨⟨⟨⟨⟨hsel, hnl⟩, hsk⟩, hch⟩, hlen⟩, hpm⟩, hx⟩ := hB
  split at hx
  · rename_i listed hli
    simp only [Bool.and_eq_true] at hx
    obtain ⟨hpa, hlex⟩ := hx
    obtain ⟨s1, s2, φ, hG, hE⟩ := hs
    have hb : Below w.heap.size w { w with drawn := w.drawn + 1 } := ⟨rfl, rfl, rfl, Nat.le_refl _, fun _ _ => rfl⟩
    obtain ⟨g1, g2⟩ := good_below hG hb
    -- the places that are kept for what is allocated
    let φ0 : Nat → Option Nat := fun i => if i < σ.length then φ i else none
    have hφ0 : ∀ j, φ0 (σ.length + j) = none := fun j => if_neg (by omega)
    obtain ⟨G1, G2⟩ := good_grow (φ' := φ0) (new := res rs (Array.replicate l.length false)) g1 (Below.refl _ _) (fun i hi => if_pos hi) (fun j hj g hg => by rw [hφ0] at hg; cases hg) (fun i j g hi hj e1 e2 => by rw [hφ0] at e1; cases e1) (fun j o hj => by rw [hφ0]; exact res_none j o hj)
    have hE1 : ∀ t, AV.rel ⟨{ w with drawn := w.drawn + 1 }, φ0, σ ++ res rs (Array.replicate l.length false), C.ok⟩ (look env t) (a.tmps.getD t undef) := fun t => AV.rel_keeps G2 _ _ (AV.only_true _) (AV.rel_keeps g2 _ _ (AV.only_true _) (hE t))
    have hdd : ∀ (i : Nat) o t, l.toArray[i]? = some o → o.dst = some t → t < C.n := fun i o t hi ht => by rw [hn]; exact dstOk_at hd i o t (by simpa using hi) ht
    have inv0 : HeadInv .any l.toArray n (Array.replicate l.length false) :=
      ⟨by simp, fun j oj _ hl => (by rw [getD_replicate_false] at hl; cases hl), fun t _ ht => getD_in (by simpa using ht) (getD_replicate_false _ _)⟩
    have hmemP : ∀ p ∈ pick l pre, l.toArray[p.1]? = some p.2 := fun p hp => by simpa using pick_mem hp
    have hmemH : ∀ p ∈ pick l head, l.toArray[p.1]? = some p.2 := fun p hp => by simpa using pick_mem hp
    have hsz : l.toArray.size = (pick l pre).length + ((pick l head).length + (l.length - n)) := by simp; omega
    refine (show ∀ m, m = l.toArray.size → wpAny P .any l.toArray (nrm (Fin P k R)) m (Array.replicate l.toArray.size false) a { w with drawn := w.drawn + 1 } from ?_) _ rfl
    intro m hm
    obtain rfl := hm.trans hsz
    refine wpAny_pre (σ := σ ++ res rs (Array.replicate l.length false)) hsel hdd G1 (pick l pre) (Array.replicate l.toArray.size false) listed (look env) a _ hmemP (by simpa using hli) (by simpa using inv0) s1 s2 hE1 fun inv a' t1 t2 hE' => ?_
    have hE2 : preE (look env) (pick l pre) = look env' := hpre.eq
    rw [hE2] at hE'
    have hprel : ∀ i ∈ pre, listed.getD i true = true := fun i hi => List.all_eq_true.1 hpa i hi
    have hoff : ∀ r ∈ rs, listed.getD r.1 false = (Array.replicate l.length false).getD r.1 false := fun r hr => preIdx_off _ _ _ hli fun p hp => by
      refine hrp r hr p.1 ?_
      rw [← hpm]; exact List.mem_map_of_mem hp
    have hres : res rs (Array.replicate l.length false) = res rs listed := res_blank fun r hr => (hoff r hr).symm
    rw [hres] at hE' G1
    have H := wpAnyR_lex (P := P) (C := C) (σ := σ) (md := .any) (ops := l.toArray) (g := l.length - n) hsk hch (by simpa using hnl) (pick l head) listed (look env') hmemH inv hprel hlex h.run
    refine wpAny_of_R hnd hdd (fun listed' E' a'' w'' hL hS => ?_) _ listed (look env') a' _ ⟨t1, t2, φ0, G1, fun p r _ _ => hφ0 p, hE'⟩ H
    obtain ⟨hsq, hall, env'', rfl, hR⟩ := hL
    have hfl := res_full (rs := rs) (listed := listed') fun r hr => hall r.1 (hrs r hr)
    obtain ⟨u1, u2, φ', G', _, hE''⟩ := hS
    rw [hfl] at G' hE''
    have := wpAny_of_seq (md := .any) (Q' := nrm (Fin P k R)) (l.drop n) n listed' a'' w'' (fun j => by simp [List.getElem?_drop]) (by rw [List.length_drop]; exact hsq) (hR.run a'' w'' ⟨u1, u2, φ', G', hE''⟩)
    rwa [List.length_drop] at this
  · cases hx
variable {ops : Array Oper} {rs : Res} {tail : List Oper} {rest : List (Nat × Oper)} {i t : Nat} {o : Oper}
theorem Runs.toDrawT {id : Nat} {l : List Oper} {k' : List Item} {cn : Nat} {env' : Env} (m : Nat) (pre head : List Nat) (n : Nat) (rs : Res) (hf : P.follows .mixedOrders = true) (hn : C.n = cn) (hc : Proofs.Ytkhnijggbfoimaa.ctls m k = .code (.region id l.toArray true) :: k') (hB : drawTB l pre head n = true) (hd : dstOk cn l = true)
    (hpre : Moved env (pick l pre) env') (hnd : (rs.map (·.1)).Nodup) (hrs : ∀ r ∈ rs, r.1 < n) (hrp : ∀ r ∈ rs, ∀ p ∈ pre, p ≠ r.1)
    (h : RunsT P C l.toArray rs (l.drop n) (pick l head) k' R ⟨env', σ⟩) : Runs P C k R ⟨env, σ⟩ := Runs.ctls m hc (Runs.drawT pre head n rs hf hn hB hd hpre hnd hrs hrp h)
theorem RunsT.nil (h : RunsL P C ops tail k R ⟨env, σ ++ full rs⟩) : RunsT P C ops rs tail [] k R ⟨env, σ⟩ := ⟨⟨env, rfl, h⟩⟩
theorem RunsT.pur {v : AV} (h : ∀ more, Pur P C o env (σ ++ more) v) (hi : ∀ r ∈ rs, r.1 ≠ i) (hg : gsay ops env o.guard = some true) (hd : o.dst = some t) (hk : RunsT P C ops rs tail rest k R ⟨(t, v) :: env, σ⟩) : RunsT P C ops rs tail ((i, o) :: rest) k R ⟨env, σ⟩ := by
  refine ⟨v, .inl ⟨hi, .inl ⟨hg, fun more => (h more).toF⟩⟩, ?_⟩
  rw [hd, show (⟨env, σ⟩ : St).env = env from rfl, ← look_putE]
  exact hk.run
theorem RunsT.alloc {p : Nat} {e : TypeId} {zs : List Value} {ty : TypeId} {pos : String} {after : Array Edge} (hr : rs[p]? = some (i, e, zs)) (hz : TZ P e zs) (hk : RunsT P C ops rs tail rest k R ⟨(t, .obj (σ.length + p) 0) :: env, σ⟩) :
    RunsT P C ops rs tail ((i, ⟨some t, .alloc e, ty, pos, after, none⟩) :: rest) k R ⟨env, σ⟩ := by
  refine ⟨.obj (σ.length + p) 0, .inr ⟨p, e, zs, hr, rfl, rfl, rfl, hz, rfl⟩, ?_⟩
  rw [show (⟨env, σ⟩ : St).env = env from rfl, ← look_putE]
  exact hk.run
theorem RunsT.off (hi : ∀ r ∈ rs, r.1 ≠ i) (hg : gsay ops env o.guard = some false) (hd : o.dst = some t) (hk : RunsT P C ops rs tail rest k R ⟨(t, .ro (.c undef)) :: env, σ⟩) : RunsT P C ops rs tail ((i, o) :: rest) k R ⟨env, σ⟩ := by
  refine ⟨.ro (.c undef), .inl ⟨hi, .inr ⟨hg, rfl⟩⟩, ?_⟩
  rw [hd, show (⟨env, σ⟩ : St).env = env from rfl, ← look_putE]
  exact hk.run
theorem RunsT.step {T : Tab} (hT : TabOk P T) {v : AV} (hd : o.dst = some t) (hg : gsay ops env o.guard = some true) (h : ∀ more, aop T env (σ ++ more) o.op = some v) (hi : ∀ r ∈ rs, r.1 ≠ i) (hk : RunsT P C ops rs tail rest k R ⟨(t, v) :: env, σ⟩) : RunsT P C ops rs tail ((i, o) :: rest) k R ⟨env, σ⟩ := by
  obtain ⟨dst, op, ty, pos, after, g⟩ := o
  simp only at hd; subst hd
  exact RunsT.pur (fun more => pu_auto hT (h more)) hi hg rfl hk
end
end Go.Proofs.Ytkhnijggbfoimaa
/- Integers as bytes: both sides. -/
namespace Go.Proofs.Ytkhnijggbfoimaa
set_option linter.unusedSimpArgs false
set_option linter.unusedVariables false
open Go.RowKit
open AV (Mem Keeps)
section
variable {P : Program} {C : Ctx} {k k' : List Item} {R : Act → World → Prop} {S : St} {c : Code}
theorem Runs.unroll (m : Nat) (hc : Proofs.Ytkhnijggbfoimaa.ctls m k = .code (.loop c) :: k') (h : Runs P C (.code c :: .inLoop c :: k') R S) : Runs P C k R S :=
  Runs.ctls m hc ⟨fun a w hs => (h.run a w hs).step fun _ _ => step_loop⟩
theorem Runs.reroll (m : Nat) (hc : Proofs.Ytkhnijggbfoimaa.ctls m k = .inLoop c :: k') (h : Runs P C (.code c :: .inLoop c :: k') R S) : Runs P C k R S :=
  Runs.ctls m hc ⟨fun a w hs => (h.run a w hs).step fun _ _ => step_inLoop⟩
end
def u8i (x : Int) : UInt8 := UInt8.ofNat (x % 256).toNat
theorem u8i_val (x : Int) : ((u8i x).toNat : Int) = x % 256 := by
  unfold u8i
  rw [UInt8.toNat_ofNat']
  omega
section
variable {P : Program} {C : Ctx} {env : Env} {σ : List Ob} {t : Nat} {ty : TypeId} {pos : String} {after : Array Edge} {gd : Option (Nat × Bool)}
theorem pu_toU8 {src dst : TypeId} {x : Operand} {p : Int} [hs : TI P src .i64] [hd : TI P dst .u8] (hx : ev env x = .int p) : Pur P C ⟨some t, .convert src dst x, ty, pos, after, gd⟩ env σ (.ro (.u8 (u8i p))) := by
  have h := pu_convert (P := P) (C := C) (σ := σ) (t := t) (ty := ty) (pos := pos) (after := after) (gd := gd) hs hd hx
  have e : IntKind.u8.wrap p = ((u8i p).toNat : Int) := by rw [u8i_val]; simp [IntKind.wrap, IntKind.bits, IntKind.signed]
  rwa [e] at h
theorem pu_ofU8 {src dst : TypeId} {x : Operand} {b : UInt8} [hs : TI P src .u8] [hd : TI P dst .i64] (hx : ev env x = .ro (.u8 b)) : Pur P C ⟨some t, .convert src dst x, ty, pos, after, gd⟩ env σ (.int (b.toNat : Int)) := by
  have h := pu_convert (P := P) (C := C) (σ := σ) (t := t) (ty := ty) (pos := pos) (after := after) (gd := gd) hs hd hx
  have hb := b.toNat_lt
  have e : IntKind.i64.wrap (b.toNat : Int) = (b.toNat : Int) := by simp [IntKind.wrap, IntKind.bits, IntKind.signed]; omega
  rwa [e] at h
theorem pu_shrK {xt yt : TypeId} {x y : Operand} {p q : Int} {kd : IntKind} (K : Int) (hx : ev env x = .int p) (hy : ev env y = .ro (.c (.int kd q))) (h0 : 0 ≤ q) (hK : (2 : Int) ^ min q.toNat 64 = K) : Pur P C ⟨some t, .binOp .shr xt x y yt, ty, pos, after, gd⟩ env σ (.int (p / K)) :=
  pu_bin hx hy (fun w => by
    subst hK
    simp only [go_sem]
    rw [shift_shr_any _ _ _ _ h0]
    simp [IntKind.bits])
end
def be (n s : Int) : List UInt8 := if s = 1 then [u8i n] else if s = 2 then [u8i (n / 256), u8i n] else if s = 3 then [u8i (n / 256 / 256), u8i (n / 256), u8i n] else [u8i (n / 256 / 256 / 256), u8i (n / 256 / 256), u8i (n / 256), u8i n]
def Fit (n s : Int) : Prop := 1 ≤ s ∧ s ≤ 4 ∧ 0 ≤ n ∧ n < pow8 s
noncomputable def encBE (n s : Int) : List UInt8 := open Classical in if Fit n s then be n s else []
theorem encBE_yes {n s : Int} (h : Fit n s) : encBE n s = be n s := if_pos h
theorem encBE_no {n s : Int} (h : ¬ Fit n s) : encBE n s = [] := if_neg h
noncomputable def encI (r : Rul) (n : Int) : List UInt8 := if r.little = true then (encBE n r.size).reverse else encBE n r.size
end Go.Proofs.Ytkhnijggbfoimaa
/- Marks on rows of texts. -/
namespace Go.Proofs.Ytkhnijggbfoimaa
set_option linter.unusedSimpArgs false
set_option linter.unusedVariables false
open Go.RowKit
open AV (Mem Keeps)
end Go.Proofs.Ytkhnijggbfoimaa
/- Marks: calls that write into values of the frame's. Over any program. -/
namespace Go.Proofs.Ytkhnijggbfoimaa
set_option linter.unusedSimpArgs false
set_option linter.unusedVariables false
open Go.RowKit
open AV (Mem Keeps)
section
variable {P : Program} {C : Ctx} {ops : Array Oper} {rest : List Oper} {k : List Item} {R : Act → World → Prop} {env : Env} {σ : List Ob} {t : Nat} {ty : TypeId} {pos : String} {after : Array Edge}
theorem op_callG {f : FuncId} {fn : Func} {xs : Array Operand} {ats : Array TypeId} {i i' : Int} {u : Value} {bs : List Nat} {ov : OV} [hfn : FN P f fn] (hf : MX P f ov i i') (gh : Gh C ov u bs) (nd : bs.Nodup)
    (hx : xs.toList.map (ev env) = [.ro (constRV u), .int i]) (ht : t < C.n) (hk : ∀ C', Nx C C' bs → RunsL P C' ops rest k R ⟨(t, .int i') :: env, σ⟩) :
    RunsL P C ops (⟨some t, .call { callee := .value (.func f), args := xs, argTypes := ats }, ty, pos, after, none⟩ :: rest) k R ⟨env, σ⟩ :=
  op_callX (X := fun _ => True) (fun w h1 h2 => (hf w u bs (OV.rel_keep ov u bs gh.rel h1) nd h2).mono fun _ _ h => ⟨h.1, trivial, h.2⟩) hx gh.fix ht fun C' nx _ _ => hk C' nx
theorem op_callK {f : FuncId} {fn : Func} {xs : Array Operand} {ats : Array TypeId} {i i' : Int} {u : Value} {bs : List Nat} {ov ov' : OV} [hfn : FN P f fn] (hf : MK P f ov i i' ov') (gh : Gh C ov u bs) (nd : bs.Nodup)
    (hx : xs.toList.map (ev env) = [.ro (constRV u), .int i]) (ht : t < C.n) (hk : ∀ C', Nx C C' bs → Gh C' ov' u bs → RunsL P C' ops rest k R ⟨(t, .int i') :: env, σ⟩) :
    RunsL P C ops (⟨some t, .call { callee := .value (.func f), args := xs, argTypes := ats }, ty, pos, after, none⟩ :: rest) k R ⟨env, σ⟩ :=
  op_callX (X := fun w => OV.rel w ov' u bs) (fun w h1 h2 => (hf w u bs (OV.rel_keep ov u bs gh.rel h1) nd h2)) hx gh.fix ht fun C' nx hX hfix => hk C' nx ⟨hX, fun b hb => ⟨Nat.lt_of_lt_of_le (gh.fix b hb).1 nx.size, hfix b hb⟩⟩
end
theorem rels_split {w : World} : ∀ (os os' : List OV) (us : List Value) (bs : List Nat), OV.rels w (os ++ os') us bs → ∃ u1 u2 b1 b2, us = u1 ++ u2 ∧ bs = b1 ++ b2 ∧ OV.rels w os u1 b1 ∧ OV.rels w os' u2 b2
  | [], os', us, bs, h => ⟨[], us, [], bs, rfl, rfl, by simp [OV.rels], h⟩
  | x :: xs, os', us, bs, h => by
    simp only [List.cons_append, OV.rels] at h
    obtain ⟨u, us', b, bs', rfl, rfl, h1, h2⟩ := h
    obtain ⟨u1, u2, b1, b2, rfl, rfl, k1, k2⟩ := rels_split xs os' us' bs' h2
    exact ⟨u :: u1, u2, b ++ b1, b2, rfl, by rw [List.append_assoc], by simp only [OV.rels]; exact ⟨u, u1, b, b1, rfl, rfl, h1, k1⟩, k2⟩
theorem rowN_block {w : World} {e : TypeId} {sz : Nat} {cs : List OV} {u : Value} {bs : List Nat} (h : OV.rel w (.row e sz cs) u bs) :
    (u = .slice none 0 0 ∧ cs = [] ∧ bs = []) ∨ ∃ g n cap cur xs bs', u = .slice (some ⟨g, 0, none⟩) n cap ∧ cs.length = n * sz ∧ bs = g :: bs' ∧ OV.rels w cs xs bs' ∧ (∀ x ∈ xs, x.oneCell' = true) ∧ w.heap[g]? = some (.cells cur e (0, 0)) ∧ n ≤ cap ∧ cap ≤ maxLen ∧ cur.size = cap * sz ∧ cur.toList.take (n * sz) = xs := by
  simp only [OV.rel] at h
  obtain ⟨n, xs, bs', h1, h2, h3, h4, h5, rfl⟩ := h
  rcases h5.2 with ⟨rfl, h0⟩ | ⟨g, cap, cur, rfl, _, hh, c1, c2, c3, ht⟩
  · subst h0
    have : cs = [] := List.eq_nil_of_length_eq_zero (by omega)
    subst this
    simp only [OV.rels] at h3
    exact .inl ⟨rfl, rfl, by simp [Value.ownBlock, h3.2]⟩
  · exact .inr ⟨g, n, cap, cur, xs, bs', rfl, h1, rfl, h3, h4, hh, c1, c2, c3, ht⟩
theorem block_rowN {w : World} {e : TypeId} {sz n g cap : Nat} {cs : List OV} {xs : List Value} {bs' : List Nat} {cur : Array Value} (hs : 0 < sz) (hl : cs.length = n * sz) (hr : OV.rels w cs xs bs') (h1 : ∀ x ∈ xs, x.oneCell' = true) (hh : w.heap[g]? = some (.cells cur e (0, 0))) (c1 : n ≤ cap) (c2 : cap ≤ maxLen) (c3 : cur.size = cap * sz) (ht : cur.toList.take (n * sz) = xs) :
    OV.rel w (.row e sz cs) (.slice (some ⟨g, 0, none⟩) n cap) (g :: bs') := by
  simp only [OV.rel]
  exact ⟨n, xs, bs', hl, hs, hr, h1, ⟨by rw [OV.rels_len _ _ _ hr, hl], .inr ⟨g, cap, cur, rfl, Nat.zero_le _, hh, c1, c2, c3, ht⟩⟩, rfl⟩
theorem take_at {cur : Array Value} {m : Nat} {xs : List Value} (h : cur.toList.take m = xs) {i : Nat} {v : Value} (hv : xs[i]? = some v) : cur[i]? = some v := by
  rw [← h, List.getElem?_take] at hv
  split at hv
  · simpa using hv
  · cases hv
theorem Gh.aggs {C : Ctx} {os : List OV} {us : List Value} {bs : List Nat} (h : OV.rels C.w0 os us bs) (hf : ∀ b ∈ bs, b < C.w0.heap.size ∧ ¬ C.mu b ∧ ¬ C.ok b) : Gh C (.agg os) (.agg us.toArray) bs :=
  ⟨by simp only [OV.rel]; exact ⟨_, rfl, by simpa using h⟩, hf⟩
theorem Gh.rels {C : Ctx} {os : List OV} {us : List Value} {bs : List Nat} (h : Gh C (.agg os) (.agg us.toArray) bs) : OV.rels C.w0 os us bs := by
  have := h.rel
  simp only [OV.rel] at this
  obtain ⟨vs, e, h1⟩ := this
  injection e with e
  subst e
  simpa using h1
end Go.Proofs.Ytkhnijggbfoimaa
/- Marks on descriptions. -/
namespace Go.Proofs.Ytkhnijggbfoimaa
set_option linter.unusedSimpArgs false
set_option linter.unusedVariables false
open Go.RowKit
open AV (Mem Keeps)
end Go.Proofs.Ytkhnijggbfoimaa
/- Marks: what the laws want. -/
namespace Go.Proofs.Ytkhnijggbfoimaa
set_option linter.unusedSimpArgs false
set_option linter.unusedVariables false
open Go.RowKit
open AV (Mem Keeps)
theorem ends_sc {P : Program} {C0 C : Ctx} {fn : Func} {R : RR → Prop} {S : St} {t : Nat} {v : Value} (hsc : Sc C0 C) (hr : fn.results = #[.tmp t]) (hx : look S.env t = .ro (.c v)) (hR : R (.ro (.c v))) : ∀ a w, Sim C S a w → Ends P C0 fn R a w := by
  rintro a w ⟨s1, s2, φ, hG, hH⟩
  have h := hH t
  rw [hx] at h
  simp only [AV.rel, RV.rel] at h
  exact ⟨s1, v, by rw [results_eq, hr]; simp [resRun, h], .ro (.c v), [], hR, by simp [RR.rel, RV.rel], by simp, by simp, hsc.end_ hG⟩
theorem seals_cs : ∀ vs : List Value, OV.Seals (vs.map .c) (vs.map .c)
  | [] => by simp [OV.Seals]
  | v :: vs => by simp only [List.map_cons, OV.Seals]; exact ⟨_, _, rfl, by simp [OV.Seal], seals_cs vs⟩
theorem seal_row1 (e : TypeId) (vs : List Value) : OV.Seal (.row e 1 (vs.map .c)) (.seq 1 (vs.map fun v => [.c v])) := by
  simp only [OV.Seal]
  refine ⟨_, rfl, by simp, ?_⟩
  have : (vs.map fun v => [RV.c v]).flatten = vs.map .c := by
    induction vs with
    | nil => rfl
    | cons v vs ih => simp [ih]
  rw [this]
  exact seals_cs vs
theorem seals_app : ∀ {os os' : List OV} {rs rs' : List RV}, OV.Seals os rs → OV.Seals os' rs' → OV.Seals (os ++ os') (rs ++ rs')
  | [], os', rs, rs', h, h' => by simp only [OV.Seals] at h; subst h; simpa using h'
  | x :: os, os', rs, rs', h, h' => by
    simp only [OV.Seals] at h
    obtain ⟨r, rt, rfl, h1, h2⟩ := h
    simp only [List.cons_append, OV.Seals]
    exact ⟨r, rt ++ rs', rfl, h1, seals_app h2 h'⟩
theorem mx_apart {C1 C2 : Ctx} {ov : OV} {u : Value} {b1 b2 : List Nat} (h1 : Gh C1 ov u b1) (h2 : ∀ b ∈ b2, C1.w0.heap.size ≤ b) : ∀ b ∈ b2, b ∉ b1 := fun b hb hm => by
  have := (h1.fix b hm).1
  have := h2 b hb
  omega
theorem seals_bytes' (e : TypeId) (l : List UInt8) : Seals (.row e 1 (l.map RV.u8)) (bytesR l) := by
  have h := seals_row1 e (l.map RV.u8)
  rwa [List.map_map] at h
theorem tup2_gh {C : Ctx} {ov : OV} {v u : Value} {bs : List Nat} (h : Gh C (.tup [ov, .c v]) u bs) : ∃ u', u = .tuple #[u', v] ∧ Gh C ov u' bs := by
  have hr := h.rel
  simp only [OV.rel, OV.rels] at hr
  obtain ⟨us, rfl, u1, _, b1, _, e1, rfl, h1, v', _, b2, _, rfl, rfl, ⟨rfl, rfl⟩, rfl, rfl⟩ := hr
  obtain ⟨us⟩ := us
  simp only at e1
  subst e1
  simp only [List.append_nil] at h ⊢
  exact ⟨u1, rfl, h1, h.fix⟩
theorem seal_ints (l : List Int) : OV.Seal (intsO l) (intsR l) := by
  have h := seal_row1 3 (l.map fun z => Value.int .i64 z)
  rw [show ((l.map fun z => Value.int .i64 z).map fun v => [RV.c v]) = l.map fun z => [RV.int z] by rw [List.map_map]; rfl] at h
  exact h
theorem seal_bytes (l : List UInt8) : OV.Seal (bytesO l) (bytesR l) := by
  have h := seal_row1 5 (l.map fun z => Value.int .u8 (z.toNat : Int))
  rw [show ((l.map fun z => Value.int .u8 (z.toNat : Int)).map fun v => [RV.c v]) = l.map fun z => [RV.u8 z] by rw [List.map_map]; rfl] at h
  exact h
end Go.Proofs.Ytkhnijggbfoimaa
/- Marks on rows of instructions, on programs. -/
namespace Go.Proofs.Ytkhnijggbfoimaa
set_option linter.unusedSimpArgs false
set_option linter.unusedVariables false
open Go.RowKit
open AV (Mem Keeps)
def inssO (l : List Ins) : OV := .row 74 3 ((l.flatMap insV).map .c)
def insSeq (k : Int) (n : Nat) : List Ins := (List.range n).map fun i : Nat => ⟨k + 3 * (i : Int), k + 3 * (i : Int) + 1, k + 3 * (i : Int) + 2⟩
theorem insSeq_len (k : Int) (n : Nat) : (insSeq k n).length = n := by simp [insSeq]
theorem insSeq_at {k : Int} {n i : Nat} (h : i < n) : (insSeq k n)[i]? = some ⟨k + 3 * (i : Int), k + 3 * (i : Int) + 1, k + 3 * (i : Int) + 2⟩ := by simp [insSeq, h]
theorem insSeq_flat (k : Int) : ∀ n : Nat, (insSeq k n).flatMap insV = (seqI k (3 * n)).map (Value.int .i64)
  | 0 => by simp [insSeq, seqI]
  | n + 1 => by
    have ih := insSeq_flat k n
    have e : insSeq k (n + 1) = insSeq k n ++ [⟨k + 3 * (n : Int), k + 3 * (n : Int) + 1, k + 3 * (n : Int) + 2⟩] := by
      unfold insSeq
      rw [List.range_succ, List.map_append]
      rfl
    rw [e, List.flatMap_append, ih, show 3 * (n + 1) = 3 * n + 1 + 1 + 1 by omega, seqI_succ, seqI_succ, seqI_succ]
    rw [show k + ((3 * n : Nat) : Int) = k + 3 * (n : Int) by omega, show k + ((3 * n + 1 : Nat) : Int) = k + 3 * (n : Int) + 1 by omega, show k + ((3 * n + 1 + 1 : Nat) : Int) = k + 3 * (n : Int) + 2 by omega]
    simp [insV]
theorem insRV : ∀ l : List Ins, l.flatMap insR = (l.flatMap insV).map .c
  | [] => rfl
  | x :: l => by rw [List.flatMap_cons, List.flatMap_cons, List.map_append, insRV l]; rfl
theorem seals_inss (e : TypeId) (l : List Ins) : Seals (.row e 3 (l.flatMap insR)) (inssR l) := seals_rowN e 3 l insR fun x _ => rfl
theorem insV_flat (l : List Ins) : (l.flatMap insV).length = l.length * 3 := by
  induction l with
  | nil => rfl
  | cons x l ih => rw [List.flatMap_cons, List.length_append, ih, show (insV x).length = 3 from rfl, List.length_cons]; omega
theorem seal_inss (l : List Ins) : OV.Seal (inssO l) (inssR l) := by
  simp only [inssO, inssR, OV.Seal]
  refine ⟨_, rfl, by simp [insR], ?_⟩
  induction l with
  | nil => simp [OV.Seals]
  | cons x l ih =>
    rw [List.flatMap_cons, List.map_append, List.map_cons, List.flatten_cons]
    exact seals_app (seals_cs (insV x)) ih
theorem eqInsM_ac (i : Ins) : ACv Try.prog 61 [.agg (insR i), .agg (insR i)] (.bool true) := by
  refine ac_enter Try.func61 rfl _ Try.ntmps61 (by simp) fun C hn hm => ?_
  repeat' (first
 | refine RunsL.step tabOk hn rfl ?_
 | refine RunsL.nil ?_
 | refine Runs.toRegion 30 rfl ?_
 | (refine Runs.ctls 30 rfl ?_; first | refine Runs.cond_t rfl ?_ | refine Runs.cond_f rfl ?_ | ((first | refine Runs.cond_yes rfl ?_ ?_ | refine Runs.cond_nno rfl ?_ ?_); · first | omega | rfl | assumption | (simp only [List.length_map]; omega)) | ((first | refine Runs.cond_no rfl ?_ ?_ | refine Runs.cond_nyes rfl ?_ ?_); · first | omega | rfl | assumption | (simp only [List.length_map]; omega)) | refine Runs.cond_dec rfl (fun h => ?_) (fun h => ?_) | refine Runs.cond_ndec rfl (fun h => ?_) (fun h => ?_) | refine Runs.cond_nb rfl (fun h => ?_) (fun h => ?_) | refine Runs.cond_b rfl (fun h => ?_) (fun h => ?_) | refine Runs.ret (ends_ro hm rfl rfl ?_) | exact Runs.ret (ends_cellR hm rfl rfl rfl (Nat.le_of_ble_eq_true rfl) rfl rfl))
 | refine op_box rfl (tl hn rfl) ?_
 | refine op_storeF rfl rfl rfl rfl (Nat.le_of_ble_eq_true rfl) ?_
 | refine op_alloc (tl hn rfl) ?_
 | refine op_storeN rfl rfl rfl rfl (Nat.le_of_ble_eq_true rfl) ?_
 | (refine RunsL.pe hn rfl rfl rfl ?_; first
 | refine ⟨_, pu_add rfl rfl (by omega), ?_⟩
 | refine ⟨_, pu_indexAddr_map rfl rfl (by omega) (by assumption), ?_⟩
 | refine ⟨_, pu_sub rfl rfl (by omega), ?_⟩
 | refine ⟨_, pu_pick_b rfl rfl rfl, ?_⟩
 | refine ⟨_, pu_mul rfl rfl (by omega), ?_⟩
 | refine ⟨_, pu_build rfl rfl rfl rfl rfl rfl, ?_⟩))
  exact rr_bool rfl
theorem eqInssM_ac (a : List Ins) (hl : a.length ≤ maxLen) : ACv Try.prog 43 [inssR a, inssR a] (.bool true) := by
  unfold maxLen at hl
  refine ac_enter Try.func43 rfl _ Try.ntmps43 (by simp) fun C hn hm => ?_
  repeat' (first
 | refine RunsL.step tabOk hn rfl ?_
 | refine RunsL.nil ?_
 | refine Runs.toRegion 30 rfl ?_
 | (refine Runs.ctls 30 rfl ?_; first | refine Runs.cond_t rfl ?_ | refine Runs.cond_f rfl ?_ | ((first | refine Runs.cond_yes rfl ?_ ?_ | refine Runs.cond_nno rfl ?_ ?_); · first | omega | rfl | assumption | (simp only [List.length_map]; omega)) | ((first | refine Runs.cond_no rfl ?_ ?_ | refine Runs.cond_nyes rfl ?_ ?_); · first | omega | rfl | assumption | (simp only [List.length_map]; omega)) | refine Runs.cond_dec rfl (fun h => ?_) (fun h => ?_) | refine Runs.cond_ndec rfl (fun h => ?_) (fun h => ?_) | refine Runs.cond_nb rfl (fun h => ?_) (fun h => ?_) | refine Runs.cond_b rfl (fun h => ?_) (fun h => ?_) | refine Runs.ret (ends_ro hm rfl rfl ?_) | exact Runs.ret (ends_cellR hm rfl rfl rfl (Nat.le_of_ble_eq_true rfl) rfl rfl))
 | refine op_box rfl (tl hn rfl) ?_
 | refine op_storeF rfl rfl rfl rfl (Nat.le_of_ble_eq_true rfl) ?_
 | refine op_alloc (tl hn rfl) ?_
 | refine op_storeN rfl rfl rfl rfl (Nat.le_of_ble_eq_true rfl) ?_
 | refine RunsD.step tabOk hn rfl rfl ?_
 | refine RunsD.nil ?_
 | refine Runs.toDraw 30 mixed hn rfl (by kernel_rfl) rfl ?_
 | ((first | refine RunsL.pe hn rfl rfl rfl ?_ | refine RunsD.pe rfl rfl ?_); first
 | refine ⟨_, pu_add rfl rfl (by omega), ?_⟩
 | refine ⟨_, pu_indexAddr_map rfl rfl (by omega) (by assumption), ?_⟩
 | refine ⟨_, pu_sub rfl rfl (by omega), ?_⟩
 | refine ⟨_, pu_pick_b rfl rfl rfl, ?_⟩
 | refine ⟨_, pu_mul rfl rfl (by omega), ?_⟩
 | refine ⟨_, pu_build rfl rfl rfl rfl rfl rfl, ?_⟩))
  refine Runs.loopN 30 rfl (fun j => [(0, .ro (inssR a)), (1, .ro (inssR a)), (5, .int (j : Int))]) (fun _ => []) (fun _ => True) a.length 0 (Nat.zero_le _) trivial ⟨rfl, rfl, rfl, trivial⟩ rfl fun j hj _ next => ?_
  by_cases hlt : j < a.length
  · obtain ⟨x, hx⟩ : ∃ x, a[(j : Int).toNat]? = some x := ⟨_, List.getElem?_eq_getElem hlt⟩
    repeat' (first
 | refine RunsL.step tabOk hn rfl ?_
 | refine RunsL.nil ?_
 | refine Runs.toRegion 30 rfl ?_
 | ((first | refine RunsL.pe hn rfl rfl rfl ?_ | refine RunsD.pe rfl rfl ?_); first
 | refine ⟨_, pu_callR (eqInsM_ac x) rfl, ?_⟩)
 | (refine Runs.ctls 30 rfl ?_; first | refine Runs.cond_t rfl ?_ | refine Runs.cond_f rfl ?_ | ((first | refine Runs.cond_yes rfl ?_ ?_ | refine Runs.cond_nno rfl ?_ ?_); · first | omega | rfl | assumption | (simp only [List.length_map]; omega)) | ((first | refine Runs.cond_no rfl ?_ ?_ | refine Runs.cond_nyes rfl ?_ ?_); · first | omega | rfl | assumption | (simp only [List.length_map]; omega)) | refine Runs.cond_dec rfl (fun h => ?_) (fun h => ?_) | refine Runs.cond_ndec rfl (fun h => ?_) (fun h => ?_) | refine Runs.cond_nb rfl (fun h => ?_) (fun h => ?_) | refine Runs.cond_b rfl (fun h => ?_) (fun h => ?_) | refine Runs.ret (ends_ro hm rfl rfl ?_) | exact Runs.ret (ends_cellR hm rfl rfl rfl (Nat.le_of_ble_eq_true rfl) rfl rfl))
 | refine op_box rfl (tl hn rfl) ?_
 | refine op_storeF rfl rfl rfl rfl (Nat.le_of_ble_eq_true rfl) ?_
 | refine op_alloc (tl hn rfl) ?_
 | refine op_storeN rfl rfl rfl rfl (Nat.le_of_ble_eq_true rfl) ?_
 | refine RunsD.step tabOk hn rfl rfl ?_
 | refine RunsD.nil ?_
 | refine Runs.toDraw 30 mixed hn rfl (by kernel_rfl) rfl ?_
 | ((first | refine RunsL.pe hn rfl rfl rfl ?_ | refine RunsD.pe rfl rfl ?_); first
 | refine ⟨_, pu_add rfl rfl (by omega), ?_⟩
 | refine ⟨_, pu_indexAddr_map rfl rfl (by omega) (by assumption), ?_⟩
 | refine ⟨_, pu_sub rfl rfl (by omega), ?_⟩
 | refine ⟨_, pu_pick_b rfl rfl rfl, ?_⟩
 | refine ⟨_, pu_mul rfl rfl (by omega), ?_⟩
 | refine ⟨_, pu_build rfl rfl rfl rfl rfl rfl, ?_⟩))
    exact next _ _ ⟨rfl, rfl, rfl, trivial⟩ hlt trivial rfl
  · repeat' (first
 | refine RunsL.step tabOk hn rfl ?_
 | refine RunsL.nil ?_
 | refine Runs.toRegion 30 rfl ?_
 | (refine Runs.ctls 30 rfl ?_; first | refine Runs.cond_t rfl ?_ | refine Runs.cond_f rfl ?_ | ((first | refine Runs.cond_yes rfl ?_ ?_ | refine Runs.cond_nno rfl ?_ ?_); · first | omega | rfl | assumption | (simp only [List.length_map]; omega)) | ((first | refine Runs.cond_no rfl ?_ ?_ | refine Runs.cond_nyes rfl ?_ ?_); · first | omega | rfl | assumption | (simp only [List.length_map]; omega)) | refine Runs.cond_dec rfl (fun h => ?_) (fun h => ?_) | refine Runs.cond_ndec rfl (fun h => ?_) (fun h => ?_) | refine Runs.cond_nb rfl (fun h => ?_) (fun h => ?_) | refine Runs.cond_b rfl (fun h => ?_) (fun h => ?_) | refine Runs.ret (ends_ro hm rfl rfl ?_) | exact Runs.ret (ends_cellR hm rfl rfl rfl (Nat.le_of_ble_eq_true rfl) rfl rfl))
 | refine op_box rfl (tl hn rfl) ?_
 | refine op_storeF rfl rfl rfl rfl (Nat.le_of_ble_eq_true rfl) ?_
 | refine op_alloc (tl hn rfl) ?_
 | refine op_storeN rfl rfl rfl rfl (Nat.le_of_ble_eq_true rfl) ?_
 | refine RunsD.step tabOk hn rfl rfl ?_
 | refine RunsD.nil ?_
 | refine Runs.toDraw 30 mixed hn rfl (by kernel_rfl) rfl ?_
 | ((first | refine RunsL.pe hn rfl rfl rfl ?_ | refine RunsD.pe rfl rfl ?_); first
 | refine ⟨_, pu_add rfl rfl (by omega), ?_⟩
 | refine ⟨_, pu_indexAddr_map rfl rfl (by omega) (by assumption), ?_⟩
 | refine ⟨_, pu_sub rfl rfl (by omega), ?_⟩
 | refine ⟨_, pu_pick_b rfl rfl rfl, ?_⟩
 | refine ⟨_, pu_mul rfl rfl (by omega), ?_⟩
 | refine ⟨_, pu_build rfl rfl rfl rfl rfl rfl, ?_⟩))
    exact rr_bool rfl
set_option maxHeartbeats 8000000 in
theorem markInstructionS_mk (l : List Ins) (k : Int) (h0 : 0 ≤ k) (hk : k ≤ 4611686018427387904) (hll : l.length ≤ 4194304) : MK Try.prog 44 (inssO l) k (k + 3 * (l.length : Int)) (inssO (insSeq k l.length)) := by
  intro w u bs h hnd hlt
  have hfl := insV_flat l
  rcases rowN_block h with ⟨rfl, h1, rfl⟩ | ⟨g, m, cap, cur, xs, bs', rfl, hlen, rfl, hov, hone, hh, c1, c2, c3, ht⟩
  · have hl0 : l = [] := by
      cases l with
      | nil => rfl
      | cons x l => simp [insV] at h1
    subst hl0
    refine mark_enter (X := fun w' => OV.rel w' (inssO (insSeq k 0)) (.slice none 0 0) []) Try.func44 rfl _ Try.ntmps44 (by simp) hlt ?_
    generalize hC0 : (⟨w, fun b => b ∉ ([] : List Nat), fun _ => False, _⟩ : Ctx) = C0
    have hn : C0.n = 34 := by rw [← hC0]
    have hm0 : ∀ b, ¬ C0.mu b := by rw [← hC0]; exact fun _ h => h
    repeat' (first
 | refine RunsL.step tabOk hn rfl ?_
 | refine RunsL.nil ?_
 | refine Runs.toRegion 30 rfl ?_
 | (refine Runs.ctls 30 rfl ?_; first | refine Runs.cond_t rfl ?_ | refine Runs.cond_f rfl ?_ | ((first | refine Runs.cond_yes rfl ?_ ?_ | refine Runs.cond_nno rfl ?_ ?_); · first | omega | rfl | assumption | (simp only [List.length_map]; omega)) | ((first | refine Runs.cond_no rfl ?_ ?_ | refine Runs.cond_nyes rfl ?_ ?_); · first | omega | rfl | assumption | (simp only [List.length_map]; omega)) | refine Runs.cond_dec rfl (fun h => ?_) (fun h => ?_) | refine Runs.cond_ndec rfl (fun h => ?_) (fun h => ?_) | refine Runs.cond_nb rfl (fun h => ?_) (fun h => ?_) | refine Runs.cond_b rfl (fun h => ?_) (fun h => ?_) | refine Runs.ret (ends_ro hm rfl rfl ?_) | exact Runs.ret (ends_cellR hm rfl rfl rfl (Nat.le_of_ble_eq_true rfl) rfl rfl))
 | refine op_box rfl (tl hn rfl) ?_
 | refine op_storeF rfl rfl rfl rfl (Nat.le_of_ble_eq_true rfl) ?_
 | refine op_alloc (tl hn rfl) ?_
 | refine op_storeN rfl rfl rfl rfl (Nat.le_of_ble_eq_true rfl) ?_
 | (refine RunsL.pe hn rfl rfl rfl ?_; first
 | refine ⟨_, pu_add rfl rfl (by omega), ?_⟩
 | refine ⟨_, pu_indexAddr_map rfl rfl (by omega) (by assumption), ?_⟩
 | refine ⟨_, pu_sub rfl rfl (by omega), ?_⟩
 | refine ⟨_, pu_pick_b rfl rfl rfl, ?_⟩
 | refine ⟨_, pu_mul rfl rfl (by omega), ?_⟩
 | refine ⟨_, pu_build rfl rfl rfl rfl rfl rfl, ?_⟩))
    refine Runs.ctls 30 rfl (Runs.keep [(0, .ro (.c (.slice none 0 0))), (1, .int k), (5, .int 0)] ⟨rfl, rfl, rfl, trivial⟩ ?_)
    refine Runs.loopV (fun n C S => C = C0 ∧ S = ⟨[(0, .ro (.c (.slice none 0 0))), (1, .int k), (5, .int 0)], []⟩) ?_ 0 C0 _ ⟨rfl, rfl⟩
    rintro n C S ⟨rfl, rfl⟩ ih
    repeat' (first
 | refine RunsL.step tabOk hn rfl ?_
 | refine RunsL.nil ?_
 | refine Runs.toRegion 30 rfl ?_
 | (refine RunsL.pe hn rfl rfl rfl ?_; first
 | refine ⟨_, pu_lenC rfl, ?_⟩)
 | (refine Runs.ctls 30 rfl ?_; first | refine Runs.cond_t rfl ?_ | refine Runs.cond_f rfl ?_ | ((first | refine Runs.cond_yes rfl ?_ ?_ | refine Runs.cond_nno rfl ?_ ?_); · first | omega | rfl | assumption | (simp only [List.length_map]; omega)) | ((first | refine Runs.cond_no rfl ?_ ?_ | refine Runs.cond_nyes rfl ?_ ?_); · first | omega | rfl | assumption | (simp only [List.length_map]; omega)) | refine Runs.cond_dec rfl (fun h => ?_) (fun h => ?_) | refine Runs.cond_ndec rfl (fun h => ?_) (fun h => ?_) | refine Runs.cond_nb rfl (fun h => ?_) (fun h => ?_) | refine Runs.cond_b rfl (fun h => ?_) (fun h => ?_) | refine Runs.ret (ends_ro hm rfl rfl ?_) | exact Runs.ret (ends_cellR hm rfl rfl rfl (Nat.le_of_ble_eq_true rfl) rfl rfl))
 | refine op_box rfl (tl hn rfl) ?_
 | refine op_storeF rfl rfl rfl rfl (Nat.le_of_ble_eq_true rfl) ?_
 | refine op_alloc (tl hn rfl) ?_
 | refine op_storeN rfl rfl rfl rfl (Nat.le_of_ble_eq_true rfl) ?_
 | (refine RunsL.pe hn rfl rfl rfl ?_; first
 | refine ⟨_, pu_add rfl rfl (by omega), ?_⟩
 | refine ⟨_, pu_indexAddr_map rfl rfl (by omega) (by assumption), ?_⟩
 | refine ⟨_, pu_sub rfl rfl (by omega), ?_⟩
 | refine ⟨_, pu_pick_b rfl rfl rfl, ?_⟩
 | refine ⟨_, pu_mul rfl rfl (by omega), ?_⟩
 | refine ⟨_, pu_build rfl rfl rfl rfl rfl rfl, ?_⟩))
    refine Runs.ctls 30 rfl (Runs.ret (endsM (Nx.refl _ _) hm0 rfl (by show look _ _ = _; simp [look]) fun φ w hG => ?_))
    simp only [inssO, insSeq, OV.rel, List.range_zero, List.map_nil, List.flatMap_nil, OV.rels]
    exact ⟨0, [], [], rfl, by omega, ⟨rfl, rfl⟩, by simp, ⟨rfl, .inl ⟨rfl, rfl⟩⟩, rfl⟩
  · obtain ⟨rfl, rfl⟩ := rels_cs _ _ _ hov
    rw [List.length_map, hfl] at hlen
    have hm : m = l.length := by omega
    subst hm
    refine mark_enter (X := fun w' => OV.rel w' (inssO (insSeq k l.length)) (.slice (some ⟨g, 0, none⟩) l.length cap) [g]) Try.func44 rfl _ Try.ntmps44 (by simp) hlt ?_
    generalize hC0 : (⟨w, fun b => b ∉ [g], fun _ => False, _⟩ : Ctx) = C0
    have hn : C0.n = 34 := by rw [← hC0]
    have hm0 : ∀ b, ¬ C0.mu b := by rw [← hC0]; exact fun _ h => h
    have hb0 : Bk C0 g cur 74 := by rw [← hC0]; exact ⟨hh, fun h => h, fun h => h (by simp)⟩
    repeat' (first
 | refine RunsL.step tabOk hn rfl ?_
 | refine RunsL.nil ?_
 | refine Runs.toRegion 30 rfl ?_
 | (refine Runs.ctls 30 rfl ?_; first | refine Runs.cond_t rfl ?_ | refine Runs.cond_f rfl ?_ | ((first | refine Runs.cond_yes rfl ?_ ?_ | refine Runs.cond_nno rfl ?_ ?_); · first | omega | rfl | assumption | (simp only [List.length_map]; omega)) | ((first | refine Runs.cond_no rfl ?_ ?_ | refine Runs.cond_nyes rfl ?_ ?_); · first | omega | rfl | assumption | (simp only [List.length_map]; omega)) | refine Runs.cond_dec rfl (fun h => ?_) (fun h => ?_) | refine Runs.cond_ndec rfl (fun h => ?_) (fun h => ?_) | refine Runs.cond_nb rfl (fun h => ?_) (fun h => ?_) | refine Runs.cond_b rfl (fun h => ?_) (fun h => ?_) | refine Runs.ret (ends_ro hm rfl rfl ?_) | exact Runs.ret (ends_cellR hm rfl rfl rfl (Nat.le_of_ble_eq_true rfl) rfl rfl))
 | refine op_box rfl (tl hn rfl) ?_
 | refine op_storeF rfl rfl rfl rfl (Nat.le_of_ble_eq_true rfl) ?_
 | refine op_alloc (tl hn rfl) ?_
 | refine op_storeN rfl rfl rfl rfl (Nat.le_of_ble_eq_true rfl) ?_
 | (refine RunsL.pe hn rfl rfl rfl ?_; first
 | refine ⟨_, pu_add rfl rfl (by omega), ?_⟩
 | refine ⟨_, pu_indexAddr_map rfl rfl (by omega) (by assumption), ?_⟩
 | refine ⟨_, pu_sub rfl rfl (by omega), ?_⟩
 | refine ⟨_, pu_pick_b rfl rfl rfl, ?_⟩
 | refine ⟨_, pu_mul rfl rfl (by omega), ?_⟩
 | refine ⟨_, pu_build rfl rfl rfl rfl rfl rfl, ?_⟩))
    refine Runs.ctls 30 rfl (Runs.keep [(0, .ro (.c (.slice (some ⟨g, 0, none⟩) l.length cap))), (1, .int k), (5, .int 0)] ⟨rfl, rfl, rfl, trivial⟩ ?_)
    refine Runs.loopV (fun n C S => ∃ (j : Nat) (cu : Array Value), j + n = l.length ∧ C.n = 34 ∧ Nx C0 C [g] ∧ Bk C g cu 74 ∧ cu.size = cap * 3 ∧ cu.toList.take (l.length * 3) = (seqI k (j * 3)).map (Value.int .i64) ++ (l.flatMap insV).drop (j * 3) ∧ S = ⟨[(0, .ro (.c (.slice (some ⟨g, 0, none⟩) l.length cap))), (1, .int (k + 3 * (j : Int))), (5, .int (j : Int))], []⟩) ?_ l.length C0 _ ⟨0, cur, by omega, hn, Nx.refl _ _, hb0, c3, by rw [ht]; rfl, by rw [show k + 3 * ((0 : Nat) : Int) = k by omega]; rfl⟩
    rintro n C S ⟨j, cu, hj, hn, hnx, hb, hcu, htk, rfl⟩ ih
    have hcap : l.length * 3 ≤ cap * 3 := Nat.mul_le_mul_right _ c1
    by_cases hlt' : j < l.length
    · repeat' (first
 | refine RunsL.step tabOk hn rfl ?_
 | refine RunsL.nil ?_
 | refine Runs.toRegion 30 rfl ?_
 | (refine RunsL.pe hn rfl rfl rfl ?_; first
 | refine ⟨_, pu_lenC rfl, ?_⟩
 | refine ⟨_, pu_indexC rfl rfl (by omega) (by omega), ?_⟩
 | refine ⟨_, pu_fieldC rfl, ?_⟩)
 | (refine Runs.ctls 30 rfl ?_; first | refine Runs.cond_t rfl ?_ | refine Runs.cond_f rfl ?_ | ((first | refine Runs.cond_yes rfl ?_ ?_ | refine Runs.cond_nno rfl ?_ ?_); · first | omega | rfl | assumption | (simp only [List.length_map]; omega)) | ((first | refine Runs.cond_no rfl ?_ ?_ | refine Runs.cond_nyes rfl ?_ ?_); · first | omega | rfl | assumption | (simp only [List.length_map]; omega)) | refine Runs.cond_dec rfl (fun h => ?_) (fun h => ?_) | refine Runs.cond_ndec rfl (fun h => ?_) (fun h => ?_) | refine Runs.cond_nb rfl (fun h => ?_) (fun h => ?_) | refine Runs.cond_b rfl (fun h => ?_) (fun h => ?_) | refine Runs.ret (ends_ro hm rfl rfl ?_) | exact Runs.ret (ends_cellR hm rfl rfl rfl (Nat.le_of_ble_eq_true rfl) rfl rfl))
 | refine op_box rfl (tl hn rfl) ?_
 | refine op_storeF rfl rfl rfl rfl (Nat.le_of_ble_eq_true rfl) ?_
 | refine op_alloc (tl hn rfl) ?_
 | refine op_storeN rfl rfl rfl rfl (Nat.le_of_ble_eq_true rfl) ?_
 | (refine RunsL.pe hn rfl rfl rfl ?_; first
 | refine ⟨_, pu_add rfl rfl (by omega), ?_⟩
 | refine ⟨_, pu_indexAddr_map rfl rfl (by omega) (by assumption), ?_⟩
 | refine ⟨_, pu_sub rfl rfl (by omega), ?_⟩
 | refine ⟨_, pu_pick_b rfl rfl rfl, ?_⟩
 | refine ⟨_, pu_mul rfl rfl (by omega), ?_⟩
 | refine ⟨_, pu_build rfl rfl rfl rfl rfl rfl, ?_⟩))
      refine op_storeC rfl rfl rfl hb (by simp only [Int.toNat_natCast]; omega) fun C1 x1 hb1 => ?_
      have hn := x1.n.trans hn
      repeat' (first
 | refine RunsL.step tabOk hn rfl ?_
 | refine RunsL.nil ?_
 | refine Runs.toRegion 30 rfl ?_
 | (refine RunsL.pe hn rfl rfl rfl ?_; first
 | refine ⟨_, pu_lenC rfl, ?_⟩
 | refine ⟨_, pu_indexC rfl rfl (by omega) (by omega), ?_⟩
 | refine ⟨_, pu_fieldC rfl, ?_⟩)
 | (refine Runs.ctls 30 rfl ?_; first | refine Runs.cond_t rfl ?_ | refine Runs.cond_f rfl ?_ | ((first | refine Runs.cond_yes rfl ?_ ?_ | refine Runs.cond_nno rfl ?_ ?_); · first | omega | rfl | assumption | (simp only [List.length_map]; omega)) | ((first | refine Runs.cond_no rfl ?_ ?_ | refine Runs.cond_nyes rfl ?_ ?_); · first | omega | rfl | assumption | (simp only [List.length_map]; omega)) | refine Runs.cond_dec rfl (fun h => ?_) (fun h => ?_) | refine Runs.cond_ndec rfl (fun h => ?_) (fun h => ?_) | refine Runs.cond_nb rfl (fun h => ?_) (fun h => ?_) | refine Runs.cond_b rfl (fun h => ?_) (fun h => ?_) | refine Runs.ret (ends_ro hm rfl rfl ?_) | exact Runs.ret (ends_cellR hm rfl rfl rfl (Nat.le_of_ble_eq_true rfl) rfl rfl))
 | refine op_box rfl (tl hn rfl) ?_
 | refine op_storeF rfl rfl rfl rfl (Nat.le_of_ble_eq_true rfl) ?_
 | refine op_alloc (tl hn rfl) ?_
 | refine op_storeN rfl rfl rfl rfl (Nat.le_of_ble_eq_true rfl) ?_
 | (refine RunsL.pe hn rfl rfl rfl ?_; first
 | refine ⟨_, pu_add rfl rfl (by omega), ?_⟩
 | refine ⟨_, pu_indexAddr_map rfl rfl (by omega) (by assumption), ?_⟩
 | refine ⟨_, pu_sub rfl rfl (by omega), ?_⟩
 | refine ⟨_, pu_pick_b rfl rfl rfl, ?_⟩
 | refine ⟨_, pu_mul rfl rfl (by omega), ?_⟩
 | refine ⟨_, pu_build rfl rfl rfl rfl rfl rfl, ?_⟩))
      refine op_storeC rfl rfl rfl hb1 (by simp only [Int.toNat_natCast, Array.size_setIfInBounds]; omega) fun C2 x2 hb2 => ?_
      have hn := x2.n.trans hn
      repeat' (first
 | refine RunsL.step tabOk hn rfl ?_
 | refine RunsL.nil ?_
 | refine Runs.toRegion 30 rfl ?_
 | (refine RunsL.pe hn rfl rfl rfl ?_; first
 | refine ⟨_, pu_lenC rfl, ?_⟩
 | refine ⟨_, pu_indexC rfl rfl (by omega) (by omega), ?_⟩
 | refine ⟨_, pu_fieldC rfl, ?_⟩)
 | (refine Runs.ctls 30 rfl ?_; first | refine Runs.cond_t rfl ?_ | refine Runs.cond_f rfl ?_ | ((first | refine Runs.cond_yes rfl ?_ ?_ | refine Runs.cond_nno rfl ?_ ?_); · first | omega | rfl | assumption | (simp only [List.length_map]; omega)) | ((first | refine Runs.cond_no rfl ?_ ?_ | refine Runs.cond_nyes rfl ?_ ?_); · first | omega | rfl | assumption | (simp only [List.length_map]; omega)) | refine Runs.cond_dec rfl (fun h => ?_) (fun h => ?_) | refine Runs.cond_ndec rfl (fun h => ?_) (fun h => ?_) | refine Runs.cond_nb rfl (fun h => ?_) (fun h => ?_) | refine Runs.cond_b rfl (fun h => ?_) (fun h => ?_) | refine Runs.ret (ends_ro hm rfl rfl ?_) | exact Runs.ret (ends_cellR hm rfl rfl rfl (Nat.le_of_ble_eq_true rfl) rfl rfl))
 | refine op_box rfl (tl hn rfl) ?_
 | refine op_storeF rfl rfl rfl rfl (Nat.le_of_ble_eq_true rfl) ?_
 | refine op_alloc (tl hn rfl) ?_
 | refine op_storeN rfl rfl rfl rfl (Nat.le_of_ble_eq_true rfl) ?_
 | (refine RunsL.pe hn rfl rfl rfl ?_; first
 | refine ⟨_, pu_add rfl rfl (by omega), ?_⟩
 | refine ⟨_, pu_indexAddr_map rfl rfl (by omega) (by assumption), ?_⟩
 | refine ⟨_, pu_sub rfl rfl (by omega), ?_⟩
 | refine ⟨_, pu_pick_b rfl rfl rfl, ?_⟩
 | refine ⟨_, pu_mul rfl rfl (by omega), ?_⟩
 | refine ⟨_, pu_build rfl rfl rfl rfl rfl rfl, ?_⟩))
      refine op_storeC rfl rfl rfl hb2 (by simp only [Int.toNat_natCast, Array.size_setIfInBounds]; omega) fun C3 x3 hb3 => ?_
      have hn := x3.n.trans hn
      repeat' (first
 | refine RunsL.step tabOk hn rfl ?_
 | refine RunsL.nil ?_
 | refine Runs.toRegion 30 rfl ?_
 | (refine Runs.ctls 30 rfl ?_; first | refine Runs.cond_t rfl ?_ | refine Runs.cond_f rfl ?_ | ((first | refine Runs.cond_yes rfl ?_ ?_ | refine Runs.cond_nno rfl ?_ ?_); · first | omega | rfl | assumption | (simp only [List.length_map]; omega)) | ((first | refine Runs.cond_no rfl ?_ ?_ | refine Runs.cond_nyes rfl ?_ ?_); · first | omega | rfl | assumption | (simp only [List.length_map]; omega)) | refine Runs.cond_dec rfl (fun h => ?_) (fun h => ?_) | refine Runs.cond_ndec rfl (fun h => ?_) (fun h => ?_) | refine Runs.cond_nb rfl (fun h => ?_) (fun h => ?_) | refine Runs.cond_b rfl (fun h => ?_) (fun h => ?_) | refine Runs.ret (ends_ro hm rfl rfl ?_) | exact Runs.ret (ends_cellR hm rfl rfl rfl (Nat.le_of_ble_eq_true rfl) rfl rfl))
 | refine op_box rfl (tl hn rfl) ?_
 | refine op_storeF rfl rfl rfl rfl (Nat.le_of_ble_eq_true rfl) ?_
 | refine op_alloc (tl hn rfl) ?_
 | refine op_storeN rfl rfl rfl rfl (Nat.le_of_ble_eq_true rfl) ?_
 | (refine RunsL.pe hn rfl rfl rfl ?_; first
 | refine ⟨_, pu_add rfl rfl (by omega), ?_⟩
 | refine ⟨_, pu_indexAddr_map rfl rfl (by omega) (by assumption), ?_⟩
 | refine ⟨_, pu_sub rfl rfl (by omega), ?_⟩
 | refine ⟨_, pu_pick_b rfl rfl rfl, ?_⟩
 | refine ⟨_, pu_mul rfl rfl (by omega), ?_⟩
 | refine ⟨_, pu_build rfl rfl rfl rfl rfl rfl, ?_⟩))
      simp only [Int.toNat_natCast, Nat.add_zero] at hb3
      have m1 := mark_next (f := Value.int .i64) (k := k) (vs := l.flatMap insV) (cur := cu) (n := l.length * 3) (by omega) hfl (show j * 3 < l.length * 3 by omega) htk
      have m2 := mark_next (f := Value.int .i64) (k := k) (vs := l.flatMap insV) (n := l.length * 3) (by rw [Array.size_setIfInBounds]; omega) hfl (show j * 3 + 1 < l.length * 3 by omega) m1
      have m3 := mark_next (f := Value.int .i64) (k := k) (vs := l.flatMap insV) (n := l.length * 3) (by rw [Array.size_setIfInBounds, Array.size_setIfInBounds]; omega) hfl (show j * 3 + 2 < l.length * 3 by omega) m2
      rw [show k + ((j * 3 : Nat) : Int) = k + 3 * (j : Int) by omega, show k + ((j * 3 + 1 : Nat) : Int) = k + 3 * (j : Int) + 1 by omega, show k + ((j * 3 + 2 : Nat) : Int) = k + 3 * (j : Int) + 1 + 1 by omega] at m3
      refine Runs.ctls 30 rfl ?_
      refine Runs.keep [(0, .ro (.c (.slice (some ⟨g, 0, none⟩) l.length cap))), (1, .int (k + 3 * ((j + 1 : Nat) : Int))), (5, .int ((j + 1 : Nat) : Int))] ⟨rfl, ?_, rfl, trivial⟩ ?_
      · exact av_int (by omega)
      exact ih (n - 1) (by omega) C3 _ ⟨j + 1, _, by omega, hn, (hnx.trans ((x1.trans x2).trans x3)).sub (by simp), hb3, by simpa using hcu, by rw [show (j + 1) * 3 = j * 3 + 2 + 1 by omega]; exact m3, rfl⟩
    · obtain rfl : j = l.length := by omega
      repeat' (first
 | refine RunsL.step tabOk hn rfl ?_
 | refine RunsL.nil ?_
 | refine Runs.toRegion 30 rfl ?_
 | (refine RunsL.pe hn rfl rfl rfl ?_; first
 | refine ⟨_, pu_lenC rfl, ?_⟩)
 | (refine Runs.ctls 30 rfl ?_; first | refine Runs.cond_t rfl ?_ | refine Runs.cond_f rfl ?_ | ((first | refine Runs.cond_yes rfl ?_ ?_ | refine Runs.cond_nno rfl ?_ ?_); · first | omega | rfl | assumption | (simp only [List.length_map]; omega)) | ((first | refine Runs.cond_no rfl ?_ ?_ | refine Runs.cond_nyes rfl ?_ ?_); · first | omega | rfl | assumption | (simp only [List.length_map]; omega)) | refine Runs.cond_dec rfl (fun h => ?_) (fun h => ?_) | refine Runs.cond_ndec rfl (fun h => ?_) (fun h => ?_) | refine Runs.cond_nb rfl (fun h => ?_) (fun h => ?_) | refine Runs.cond_b rfl (fun h => ?_) (fun h => ?_) | refine Runs.ret (ends_ro hm rfl rfl ?_) | exact Runs.ret (ends_cellR hm rfl rfl rfl (Nat.le_of_ble_eq_true rfl) rfl rfl))
 | refine op_box rfl (tl hn rfl) ?_
 | refine op_storeF rfl rfl rfl rfl (Nat.le_of_ble_eq_true rfl) ?_
 | refine op_alloc (tl hn rfl) ?_
 | refine op_storeN rfl rfl rfl rfl (Nat.le_of_ble_eq_true rfl) ?_
 | (refine RunsL.pe hn rfl rfl rfl ?_; first
 | refine ⟨_, pu_add rfl rfl (by omega), ?_⟩
 | refine ⟨_, pu_indexAddr_map rfl rfl (by omega) (by assumption), ?_⟩
 | refine ⟨_, pu_sub rfl rfl (by omega), ?_⟩
 | refine ⟨_, pu_pick_b rfl rfl rfl, ?_⟩
 | refine ⟨_, pu_mul rfl rfl (by omega), ?_⟩
 | refine ⟨_, pu_build rfl rfl rfl rfl rfl rfl, ?_⟩))
      refine Runs.ctls 30 rfl (Runs.ret (endsM hnx hm0 rfl rfl fun φ w hG => ?_))
      have hfs := insSeq_flat k l.length
      rw [List.drop_of_length_le (by rw [hfl]; exact Nat.le_refl _), List.append_nil, Nat.mul_comm l.length 3] at htk
      unfold inssO
      refine block_rowN (by omega) (by rw [List.length_map, insV_flat, insSeq_len]) (OV.rels_c _) (fun x hx => ?_) (hb.now hG) c1 c2 hcu (by rw [hfs, Nat.mul_comm]; exact htk)
      rw [hfs] at hx
      obtain ⟨z, _, rfl⟩ := List.mem_map.1 hx
      rfl
end Go.Proofs.Ytkhnijggbfoimaa
/- Marks on programs. -/
namespace Go.Proofs.Ytkhnijggbfoimaa
set_option linter.unusedSimpArgs false
set_option linter.unusedVariables false
open Go.RowKit
open AV (Mem Keeps)
def prgO (p : Prg) : OV := .agg [inssO p.code, intsO p.entries]
theorem seal_prg (p : Prg) : OV.Seal (prgO p) (prgR p) := by
  simp only [prgO, prgR, OV.Seal]
  exact ⟨_, rfl, by simp only [OV.Seals]; exact ⟨_, _, rfl, seal_inss _, _, _, rfl, seal_ints _, rfl⟩⟩
theorem prg_val {w : World} {p : Prg} {u : Value} {bs : List Nat} (h : OV.rel w (prgO p) u bs) : ∃ A n c A' n' c', u = .agg #[.slice A n c, .slice A' n' c'] := by
  simp only [prgO, OV.rel, OV.rels] at h
  obtain ⟨us, rfl, v, _, b1, _, e1, rfl, h1, v', _, b2, _, rfl, rfl, h2, rfl, rfl⟩ := h
  obtain ⟨us⟩ := us
  simp only at e1
  subst e1
  obtain ⟨A, n, c, rfl⟩ := row_slice (show OV.rel w (inssO p.code) v b1 from h1)
  obtain ⟨A', n', c', rfl⟩ := row_slice (show OV.rel w (intsO p.entries) v' b2 from h2)
  exact ⟨A, n, c, A', n', c', rfl⟩
theorem prg_open {w : World} {p : Prg} {A : Option Addr} {n c : Nat} {A' : Option Addr} {n' c' : Nat} {bs : List Nat} (h : OV.rel w (prgO p) (.agg #[.slice A n c, .slice A' n' c']) bs) : ∃ b1 b2, bs = b1 ++ b2 ∧ OV.rel w (inssO p.code) (.slice A n c) b1 ∧ OV.rel w (intsO p.entries) (.slice A' n' c') b2 := by
  simp only [prgO, OV.rel, OV.rels] at h
  obtain ⟨us, e0, v, _, b1, _, e1, rfl, h1, v', _, b2, _, rfl, rfl, h2, rfl, rfl⟩ := h
  injection e0 with e0
  subst e0
  simp only [List.cons.injEq, and_true] at e1
  obtain ⟨rfl, rfl⟩ := e1
  exact ⟨b1, b2, by simp, h1, h2⟩
theorem prg_shut {w : World} {p : Prg} {A : Option Addr} {n c : Nat} {A' : Option Addr} {n' c' : Nat} {b1 b2 : List Nat} (h1 : OV.rel w (inssO p.code) (.slice A n c) b1) (h2 : OV.rel w (intsO p.entries) (.slice A' n' c') b2) : OV.rel w (prgO p) (.agg #[.slice A n c, .slice A' n' c']) (b1 ++ b2) := by
  simp only [prgO, OV.rel, OV.rels]
  exact ⟨_, rfl, _, _, b1, b2, rfl, rfl, h1, _, _, b2, [], rfl, by simp, h2, rfl, rfl⟩
def prgM (p : Prg) (k : Int) : Prg := ⟨insSeq k p.code.length, seqI (k + 3 * (p.code.length : Int)) p.entries.length⟩
set_option maxHeartbeats 4000000 in
theorem markProgram_mk (p : Prg) (k : Int) (h0 : 0 ≤ k) (hk : k ≤ 1099511627776) (h1 : p.code.length ≤ 4194304) (h2 : p.entries.length ≤ 4194304) : MK Try.prog 16 (prgO p) k (k + 3 * (p.code.length : Int) + (p.entries.length : Int)) (prgO (prgM p k)) := by
  intro w u bs h hnd hlt
  obtain ⟨A, n, c, A', n', c', rfl⟩ := prg_val h
  obtain ⟨b1, b2, rfl, g1, g2⟩ := prg_open h
  rw [List.nodup_append] at hnd
  obtain ⟨n1, n2, n3⟩ := hnd
  refine mark_enter (X := fun w' => OV.rel w' (prgO (prgM p k)) (.agg #[.slice A n c, .slice A' n' c']) (b1 ++ b2)) Try.func16 rfl _ Try.ntmps16 (by simp) hlt ?_
  generalize hC0 : (⟨w, fun b => b ∉ b1 ++ b2, fun _ => False, _⟩ : Ctx) = C0
  have hn : C0.n = 14 := by rw [← hC0]
  have hm0 : ∀ b, ¬ C0.mu b := by rw [← hC0]; exact fun _ h => h
  have G1 : Gh C0 (inssO p.code) (.slice A n c) b1 := by rw [← hC0]; exact ⟨g1, fun b hb => ⟨hlt b (by simp [hb]), fun h => h, fun h => h (by simp [hb])⟩⟩
  have G2 : Gh C0 (intsO p.entries) (.slice A' n' c') b2 := by rw [← hC0]; exact ⟨g2, fun b hb => ⟨hlt b (by simp [hb]), fun h => h, fun h => h (by simp [hb])⟩⟩
  repeat' (first
 | refine RunsL.step tabOk hn rfl ?_
 | refine RunsL.nil ?_
 | refine Runs.toRegion 30 rfl ?_
 | (refine Runs.ctls 30 rfl ?_; first | refine Runs.cond_t rfl ?_ | refine Runs.cond_f rfl ?_ | ((first | refine Runs.cond_yes rfl ?_ ?_ | refine Runs.cond_nno rfl ?_ ?_); · first | omega | rfl | assumption | (simp only [List.length_map]; omega)) | ((first | refine Runs.cond_no rfl ?_ ?_ | refine Runs.cond_nyes rfl ?_ ?_); · first | omega | rfl | assumption | (simp only [List.length_map]; omega)) | refine Runs.cond_dec rfl (fun h => ?_) (fun h => ?_) | refine Runs.cond_ndec rfl (fun h => ?_) (fun h => ?_) | refine Runs.cond_nb rfl (fun h => ?_) (fun h => ?_) | refine Runs.cond_b rfl (fun h => ?_) (fun h => ?_) | refine Runs.ret (ends_ro hm rfl rfl ?_) | exact Runs.ret (ends_cellR hm rfl rfl rfl (Nat.le_of_ble_eq_true rfl) rfl rfl))
 | refine op_box rfl (tl hn rfl) ?_
 | refine op_storeF rfl rfl rfl rfl (Nat.le_of_ble_eq_true rfl) ?_
 | refine op_alloc (tl hn rfl) ?_
 | refine op_storeN rfl rfl rfl rfl (Nat.le_of_ble_eq_true rfl) ?_
 | (refine RunsL.pe hn rfl rfl rfl ?_; first
 | refine ⟨_, pu_add rfl rfl (by omega), ?_⟩
 | refine ⟨_, pu_indexAddr_map rfl rfl (by omega) (by assumption), ?_⟩
 | refine ⟨_, pu_sub rfl rfl (by omega), ?_⟩
 | refine ⟨_, pu_pick_b rfl rfl rfl, ?_⟩
 | refine ⟨_, pu_mul rfl rfl (by omega), ?_⟩
 | refine ⟨_, pu_build rfl rfl rfl rfl rfl rfl, ?_⟩))
  refine op_callK (markInstructionS_mk p.code k h0 (by omega) h1) G1 n1 rfl (tl hn rfl) fun C1 x1 G1 => ?_
  have hn := x1.n.trans hn
  have G2 := G2.next x1 fun b hb hm => n3 b hm b hb rfl
  repeat' (first
 | refine RunsL.step tabOk hn rfl ?_
 | refine RunsL.nil ?_
 | refine Runs.toRegion 30 rfl ?_
 | (refine Runs.ctls 30 rfl ?_; first | refine Runs.cond_t rfl ?_ | refine Runs.cond_f rfl ?_ | ((first | refine Runs.cond_yes rfl ?_ ?_ | refine Runs.cond_nno rfl ?_ ?_); · first | omega | rfl | assumption | (simp only [List.length_map]; omega)) | ((first | refine Runs.cond_no rfl ?_ ?_ | refine Runs.cond_nyes rfl ?_ ?_); · first | omega | rfl | assumption | (simp only [List.length_map]; omega)) | refine Runs.cond_dec rfl (fun h => ?_) (fun h => ?_) | refine Runs.cond_ndec rfl (fun h => ?_) (fun h => ?_) | refine Runs.cond_nb rfl (fun h => ?_) (fun h => ?_) | refine Runs.cond_b rfl (fun h => ?_) (fun h => ?_) | refine Runs.ret (ends_ro hm rfl rfl ?_) | exact Runs.ret (ends_cellR hm rfl rfl rfl (Nat.le_of_ble_eq_true rfl) rfl rfl))
 | refine op_box rfl (tl hn rfl) ?_
 | refine op_storeF rfl rfl rfl rfl (Nat.le_of_ble_eq_true rfl) ?_
 | refine op_alloc (tl hn rfl) ?_
 | refine op_storeN rfl rfl rfl rfl (Nat.le_of_ble_eq_true rfl) ?_
 | (refine RunsL.pe hn rfl rfl rfl ?_; first
 | refine ⟨_, pu_add rfl rfl (by omega), ?_⟩
 | refine ⟨_, pu_indexAddr_map rfl rfl (by omega) (by assumption), ?_⟩
 | refine ⟨_, pu_sub rfl rfl (by omega), ?_⟩
 | refine ⟨_, pu_pick_b rfl rfl rfl, ?_⟩
 | refine ⟨_, pu_mul rfl rfl (by omega), ?_⟩
 | refine ⟨_, pu_build rfl rfl rfl rfl rfl rfl, ?_⟩))
  refine op_callK (markIntS_mk p.entries _ (by omega) (by omega) h2) G2 n2 rfl (tl hn rfl) fun C2 x2 G2 => ?_
  have hn := x2.n.trans hn
  have G1 := G1.next x2 fun b hb hm => n3 b hb b hm rfl
  repeat' (first
 | refine RunsL.step tabOk hn rfl ?_
 | refine RunsL.nil ?_
 | refine Runs.toRegion 30 rfl ?_
 | (refine Runs.ctls 30 rfl ?_; first | refine Runs.cond_t rfl ?_ | refine Runs.cond_f rfl ?_ | ((first | refine Runs.cond_yes rfl ?_ ?_ | refine Runs.cond_nno rfl ?_ ?_); · first | omega | rfl | assumption | (simp only [List.length_map]; omega)) | ((first | refine Runs.cond_no rfl ?_ ?_ | refine Runs.cond_nyes rfl ?_ ?_); · first | omega | rfl | assumption | (simp only [List.length_map]; omega)) | refine Runs.cond_dec rfl (fun h => ?_) (fun h => ?_) | refine Runs.cond_ndec rfl (fun h => ?_) (fun h => ?_) | refine Runs.cond_nb rfl (fun h => ?_) (fun h => ?_) | refine Runs.cond_b rfl (fun h => ?_) (fun h => ?_) | refine Runs.ret (ends_ro hm rfl rfl ?_) | exact Runs.ret (ends_cellR hm rfl rfl rfl (Nat.le_of_ble_eq_true rfl) rfl rfl))
 | refine op_box rfl (tl hn rfl) ?_
 | refine op_storeF rfl rfl rfl rfl (Nat.le_of_ble_eq_true rfl) ?_
 | refine op_alloc (tl hn rfl) ?_
 | refine op_storeN rfl rfl rfl rfl (Nat.le_of_ble_eq_true rfl) ?_
 | (refine RunsL.pe hn rfl rfl rfl ?_; first
 | refine ⟨_, pu_add rfl rfl (by omega), ?_⟩
 | refine ⟨_, pu_indexAddr_map rfl rfl (by omega) (by assumption), ?_⟩
 | refine ⟨_, pu_sub rfl rfl (by omega), ?_⟩
 | refine ⟨_, pu_pick_b rfl rfl rfl, ?_⟩
 | refine ⟨_, pu_mul rfl rfl (by omega), ?_⟩
 | refine ⟨_, pu_build rfl rfl rfl rfl rfl rfl, ?_⟩))
  refine Runs.ctls 30 rfl (Runs.ret (endsM (x1.trans x2) hm0 rfl rfl fun φ w hG => ?_))
  exact OV.rel_keep _ _ _ (prg_shut (p := prgM p k) (by simpa [prgM] using G1.rel) (by simpa [prgM] using G2.rel)) fun b hb => hG.frm.block b (by
    rcases List.mem_append.1 hb with hb | hb
    · exact (G1.fix b hb).1
    · exact (G2.fix b hb).1) (by
    rcases List.mem_append.1 hb with hb | hb
    · exact (G1.fix b hb).2.1
    · exact (G2.fix b hb).2.1)
theorem eqPrgM_ac (p : Prg) (h1 : p.code.length ≤ maxLen) (h2 : p.entries.length ≤ maxLen) : ACv Try.prog 15 [prgR p, prgR p] (.bool true) := by
  refine ac_enter Try.func15 rfl _ Try.ntmps15 (by simp) fun C hn hm => ?_
  repeat' (first
 | refine RunsL.step tabOk hn rfl ?_
 | refine RunsL.nil ?_
 | refine Runs.toRegion 30 rfl ?_
 | (refine RunsL.pe hn rfl rfl rfl ?_; first
 | refine ⟨_, pu_callR (eqInssM_ac p.code (by omega)) rfl, ?_⟩
 | refine ⟨_, pu_callR (eqInts_ac p.entries (by omega)) rfl, ?_⟩)
 | (refine Runs.ctls 30 rfl ?_; first | refine Runs.cond_t rfl ?_ | refine Runs.cond_f rfl ?_ | ((first | refine Runs.cond_yes rfl ?_ ?_ | refine Runs.cond_nno rfl ?_ ?_); · first | omega | rfl | assumption | (simp only [List.length_map]; omega)) | ((first | refine Runs.cond_no rfl ?_ ?_ | refine Runs.cond_nyes rfl ?_ ?_); · first | omega | rfl | assumption | (simp only [List.length_map]; omega)) | refine Runs.cond_dec rfl (fun h => ?_) (fun h => ?_) | refine Runs.cond_ndec rfl (fun h => ?_) (fun h => ?_) | refine Runs.cond_nb rfl (fun h => ?_) (fun h => ?_) | refine Runs.cond_b rfl (fun h => ?_) (fun h => ?_) | refine Runs.ret (ends_ro hm rfl rfl ?_) | exact Runs.ret (ends_cellR hm rfl rfl rfl (Nat.le_of_ble_eq_true rfl) rfl rfl))
 | refine op_box rfl (tl hn rfl) ?_
 | refine op_storeF rfl rfl rfl rfl (Nat.le_of_ble_eq_true rfl) ?_
 | refine op_alloc (tl hn rfl) ?_
 | refine op_storeN rfl rfl rfl rfl (Nat.le_of_ble_eq_true rfl) ?_
 | (refine RunsL.pe hn rfl rfl rfl ?_; first
 | refine ⟨_, pu_add rfl rfl (by omega), ?_⟩
 | refine ⟨_, pu_indexAddr_map rfl rfl (by omega) (by assumption), ?_⟩
 | refine ⟨_, pu_sub rfl rfl (by omega), ?_⟩
 | refine ⟨_, pu_pick_b rfl rfl rfl, ?_⟩
 | refine ⟨_, pu_mul rfl rfl (by omega), ?_⟩
 | refine ⟨_, pu_build rfl rfl rfl rfl rfl rfl, ?_⟩))
  exact rr_bool rfl
end Go.Proofs.Ytkhnijggbfoimaa
/- Machines over values: the laws' helpers, and equality. -/
namespace Go.Proofs.Ytkhnijggbfoimaa
set_option linter.unusedSimpArgs false
set_option linter.unusedVariables false
open Go.RowKit
structure Mch where
  pc : Int
  register : Int
  stack : List Int
  sums : List Int
  left : Int
  started : Bool
  escaped : Bool
  state : Int
  code : Int
  read : Int
deriving DecidableEq
def mchR (m : Mch) : RV := .agg [.int m.pc, .int m.register, intsR m.stack, intsR m.sums, .int m.left, .bool m.started, .bool m.escaped, .int m.state, .int m.code, .int m.read]
structure MchOk (m : Mch) : Prop where
  ats : I64 m.pc
  register : I64 m.register
  stack : ∀ z ∈ m.stack, I64 z
  sums : ∀ z ∈ m.sums, I64 z
  left : I64 m.left
  state : I64 m.state
  code : I64 m.code
  read : I64 m.read
  slen : m.stack.length ≤ maxLen
  tlen : m.sums.length ≤ maxLen
def sz2 (left : Int) (n m : Nat) : Int := if sz1 left n < 0 then -1 else sz1 (sz1 left n) m
theorem sz2_ge {left : Int} {n m : Nat} (h : ¬ sz2 left n m < 0) : (n : Int) + m ≤ left ∧ sz2 left n m = left - n - m := by
  unfold sz2 at h ⊢
  by_cases hc : sz1 left n < 0
  · rw [if_pos hc] at h; omega
  · rw [if_neg hc] at h ⊢
    have h3 := sz1_ge hc
    have h4 := sz1_pos h3
    have h5 := sz1_ge h
    have h6 := sz1_pos h5
    omega
theorem mch_of {rcs : List RV} (h : TyC Try.prog 27 rcs) : ∃ m : Mch, .agg rcs = mchR m ∧ MchOk m := by
  obtain ⟨cells, rfl, hp⟩ := h.parts Try.underlying27
  obtain ⟨c0, _, rfl, h0, c1, _, rfl, h1, c2, _, rfl, h2, c3, _, rfl, h3, c4, _, rfl, h4, c5, _, rfl, h5, c6, _, rfl, h6, c7, _, rfl, h7, c8, _, rfl, h8, c9, _, rfl, h9, rfl⟩ := hp
  obtain ⟨n0, rfl, b0⟩ := h0.i64 Try.underlying3
  obtain ⟨n1, rfl, b1⟩ := h1.i64 Try.underlying3
  obtain ⟨l2, rfl, b2, d2⟩ := h2.ints Try.underlying23 Try.underlying3 (by kernel_rfl)
  obtain ⟨l3, rfl, b3, d3⟩ := h3.ints Try.underlying23 Try.underlying3 (by kernel_rfl)
  obtain ⟨n4, rfl, b4⟩ := h4.i64 Try.underlying3
  obtain ⟨n5, rfl⟩ := h5.inv_bool Try.underlying4
  obtain ⟨n6, rfl⟩ := h6.inv_bool Try.underlying4
  obtain ⟨n7, rfl, b7⟩ := h7.i64 Try.underlying3
  obtain ⟨n8, rfl, b8⟩ := h8.i64 Try.underlying3
  obtain ⟨n9, rfl, b9⟩ := h9.i64 Try.underlying3
  exact ⟨⟨n0, n1, l2, l3, n4, n5, n6, n7, n8, n9⟩, rfl, ⟨b0, b1, d2, d3, b4, b7, b8, b9, b2, b3⟩⟩
theorem szMch_ac (m : Mch) (left : Int) (h0 : 0 ≤ left) (hl : left ≤ 1048576) (h1 : m.stack.length ≤ maxLen) (h2 : m.sums.length ≤ maxLen) : ACv Try.prog 9 [mchR m, .int left] (.int (sz2 left m.stack.length m.sums.length)) := by
  refine ac_enter Try.func9 rfl _ Try.ntmps9 (by simp) fun C hn hm => ?_
  by_cases h : sz1 left m.stack.length < 0
  · repeat' (first
 | refine RunsL.step tabOk hn rfl ?_
 | refine RunsL.nil ?_
 | refine Runs.toRegion 30 rfl ?_
 | (refine RunsL.pe hn rfl rfl rfl ?_; first
 | refine ⟨_, pu_callR (szInts_ac m.stack left h0 hl h1) rfl, ?_⟩)
 | (refine Runs.ctls 30 rfl ?_; first | refine Runs.cond_t rfl ?_ | refine Runs.cond_f rfl ?_ | ((first | refine Runs.cond_yes rfl ?_ ?_ | refine Runs.cond_nno rfl ?_ ?_); · first | omega | rfl | assumption | (simp only [List.length_map]; omega)) | ((first | refine Runs.cond_no rfl ?_ ?_ | refine Runs.cond_nyes rfl ?_ ?_); · first | omega | rfl | assumption | (simp only [List.length_map]; omega)) | refine Runs.cond_dec rfl (fun h => ?_) (fun h => ?_) | refine Runs.cond_ndec rfl (fun h => ?_) (fun h => ?_) | refine Runs.cond_nb rfl (fun h => ?_) (fun h => ?_) | refine Runs.cond_b rfl (fun h => ?_) (fun h => ?_) | refine Runs.ret (ends_ro hm rfl rfl ?_) | exact Runs.ret (ends_cellR hm rfl rfl rfl (Nat.le_of_ble_eq_true rfl) rfl rfl))
 | refine op_box rfl (tl hn rfl) ?_
 | refine op_storeF rfl rfl rfl rfl (Nat.le_of_ble_eq_true rfl) ?_
 | refine op_alloc (tl hn rfl) ?_
 | refine op_storeN rfl rfl rfl rfl (Nat.le_of_ble_eq_true rfl) ?_
 | (refine RunsL.pe hn rfl rfl rfl ?_; first
 | refine ⟨_, pu_add rfl rfl (by omega), ?_⟩
 | refine ⟨_, pu_indexAddr_map rfl rfl (by omega) (by assumption), ?_⟩
 | refine ⟨_, pu_sub rfl rfl (by omega), ?_⟩
 | refine ⟨_, pu_pick_b rfl rfl rfl, ?_⟩
 | refine ⟨_, pu_mul rfl rfl (by omega), ?_⟩
 | refine ⟨_, pu_build rfl rfl rfl rfl rfl rfl, ?_⟩))
    exact rr_int (by rw [sz2, if_pos h])
  · have h3 := sz1_ge h
    have h4 := sz1_pos h3
    by_cases h5 : sz1 (sz1 left m.stack.length) m.sums.length < 0
    · repeat' (first
 | refine RunsL.step tabOk hn rfl ?_
 | refine RunsL.nil ?_
 | refine Runs.toRegion 30 rfl ?_
 | (refine RunsL.pe hn rfl rfl rfl ?_; first
 | refine ⟨_, pu_callR (szInts_ac m.stack left h0 hl h1) rfl, ?_⟩
 | refine ⟨_, pu_callR (szInts_ac m.sums (sz1 left m.stack.length) (by omega) (by omega) h2) rfl, ?_⟩)
 | (refine Runs.ctls 30 rfl ?_; first | refine Runs.cond_t rfl ?_ | refine Runs.cond_f rfl ?_ | ((first | refine Runs.cond_yes rfl ?_ ?_ | refine Runs.cond_nno rfl ?_ ?_); · first | omega | rfl | assumption | (simp only [List.length_map]; omega)) | ((first | refine Runs.cond_no rfl ?_ ?_ | refine Runs.cond_nyes rfl ?_ ?_); · first | omega | rfl | assumption | (simp only [List.length_map]; omega)) | refine Runs.cond_dec rfl (fun h => ?_) (fun h => ?_) | refine Runs.cond_ndec rfl (fun h => ?_) (fun h => ?_) | refine Runs.cond_nb rfl (fun h => ?_) (fun h => ?_) | refine Runs.cond_b rfl (fun h => ?_) (fun h => ?_) | refine Runs.ret (ends_ro hm rfl rfl ?_) | exact Runs.ret (ends_cellR hm rfl rfl rfl (Nat.le_of_ble_eq_true rfl) rfl rfl))
 | refine op_box rfl (tl hn rfl) ?_
 | refine op_storeF rfl rfl rfl rfl (Nat.le_of_ble_eq_true rfl) ?_
 | refine op_alloc (tl hn rfl) ?_
 | refine op_storeN rfl rfl rfl rfl (Nat.le_of_ble_eq_true rfl) ?_
 | (refine RunsL.pe hn rfl rfl rfl ?_; first
 | refine ⟨_, pu_add rfl rfl (by omega), ?_⟩
 | refine ⟨_, pu_indexAddr_map rfl rfl (by omega) (by assumption), ?_⟩
 | refine ⟨_, pu_sub rfl rfl (by omega), ?_⟩
 | refine ⟨_, pu_pick_b rfl rfl rfl, ?_⟩
 | refine ⟨_, pu_mul rfl rfl (by omega), ?_⟩
 | refine ⟨_, pu_build rfl rfl rfl rfl rfl rfl, ?_⟩))
      exact rr_int (by rw [sz2, if_neg h, sz1_lt h5])
    · repeat' (first
 | refine RunsL.step tabOk hn rfl ?_
 | refine RunsL.nil ?_
 | refine Runs.toRegion 30 rfl ?_
 | (refine RunsL.pe hn rfl rfl rfl ?_; first
 | refine ⟨_, pu_callR (szInts_ac m.stack left h0 hl h1) rfl, ?_⟩
 | refine ⟨_, pu_callR (szInts_ac m.sums (sz1 left m.stack.length) (by omega) (by omega) h2) rfl, ?_⟩)
 | (refine Runs.ctls 30 rfl ?_; first | refine Runs.cond_t rfl ?_ | refine Runs.cond_f rfl ?_ | ((first | refine Runs.cond_yes rfl ?_ ?_ | refine Runs.cond_nno rfl ?_ ?_); · first | omega | rfl | assumption | (simp only [List.length_map]; omega)) | ((first | refine Runs.cond_no rfl ?_ ?_ | refine Runs.cond_nyes rfl ?_ ?_); · first | omega | rfl | assumption | (simp only [List.length_map]; omega)) | refine Runs.cond_dec rfl (fun h => ?_) (fun h => ?_) | refine Runs.cond_ndec rfl (fun h => ?_) (fun h => ?_) | refine Runs.cond_nb rfl (fun h => ?_) (fun h => ?_) | refine Runs.cond_b rfl (fun h => ?_) (fun h => ?_) | refine Runs.ret (ends_ro hm rfl rfl ?_) | exact Runs.ret (ends_cellR hm rfl rfl rfl (Nat.le_of_ble_eq_true rfl) rfl rfl))
 | refine op_box rfl (tl hn rfl) ?_
 | refine op_storeF rfl rfl rfl rfl (Nat.le_of_ble_eq_true rfl) ?_
 | refine op_alloc (tl hn rfl) ?_
 | refine op_storeN rfl rfl rfl rfl (Nat.le_of_ble_eq_true rfl) ?_
 | (refine RunsL.pe hn rfl rfl rfl ?_; first
 | refine ⟨_, pu_add rfl rfl (by omega), ?_⟩
 | refine ⟨_, pu_indexAddr_map rfl rfl (by omega) (by assumption), ?_⟩
 | refine ⟨_, pu_sub rfl rfl (by omega), ?_⟩
 | refine ⟨_, pu_pick_b rfl rfl rfl, ?_⟩
 | refine ⟨_, pu_mul rfl rfl (by omega), ?_⟩
 | refine ⟨_, pu_build rfl rfl rfl rfl rfl rfl, ?_⟩))
      exact rr_int (by rw [sz2, if_neg h])
set_option maxHeartbeats 4000000 in
theorem toMch_ac (m : Mch) (h1 : m.stack.length ≤ 1048576) (h2 : m.sums.length ≤ 1048576) : ACv Try.prog 12 [mchR m] (mchR m) := by
  refine ac_enter Try.func12 rfl _ Try.ntmps12 (by simp) fun C hn hm => ?_
  repeat' (first
 | refine RunsL.step tabOk hn rfl ?_
 | refine RunsL.nil ?_
 | refine Runs.toRegion 30 rfl ?_
 | (refine RunsL.pe hn rfl rfl rfl ?_; first
 | refine ⟨_, pu_callR (toInts_ac m.stack (by omega)) rfl, ?_⟩
 | refine ⟨_, pu_callR (toInts_ac m.sums (by omega)) rfl, ?_⟩)
 | (refine Runs.ctls 30 rfl ?_; first | refine Runs.cond_t rfl ?_ | refine Runs.cond_f rfl ?_ | ((first | refine Runs.cond_yes rfl ?_ ?_ | refine Runs.cond_nno rfl ?_ ?_); · first | omega | rfl | assumption | (simp only [List.length_map]; omega)) | ((first | refine Runs.cond_no rfl ?_ ?_ | refine Runs.cond_nyes rfl ?_ ?_); · first | omega | rfl | assumption | (simp only [List.length_map]; omega)) | refine Runs.cond_dec rfl (fun h => ?_) (fun h => ?_) | refine Runs.cond_ndec rfl (fun h => ?_) (fun h => ?_) | refine Runs.cond_nb rfl (fun h => ?_) (fun h => ?_) | refine Runs.cond_b rfl (fun h => ?_) (fun h => ?_) | refine Runs.ret (ends_ro hm rfl rfl ?_) | exact Runs.ret (ends_cellR hm rfl rfl rfl (Nat.le_of_ble_eq_true rfl) rfl rfl))
 | refine op_box rfl (tl hn rfl) ?_
 | refine op_storeF rfl rfl rfl rfl (Nat.le_of_ble_eq_true rfl) ?_
 | refine op_alloc (tl hn rfl) ?_
 | refine op_storeN rfl rfl rfl rfl (Nat.le_of_ble_eq_true rfl) ?_
 | (refine RunsL.pe hn rfl rfl rfl ?_; first
 | refine ⟨_, pu_add rfl rfl (by omega), ?_⟩
 | refine ⟨_, pu_indexAddr_map rfl rfl (by omega) (by assumption), ?_⟩
 | refine ⟨_, pu_sub rfl rfl (by omega), ?_⟩
 | refine ⟨_, pu_pick_b rfl rfl rfl, ?_⟩
 | refine ⟨_, pu_mul rfl rfl (by omega), ?_⟩
 | refine ⟨_, pu_build rfl rfl rfl rfl rfl rfl, ?_⟩))
set_option maxHeartbeats 4000000 in
theorem eqMch_ac (m : Mch) (h1 : m.stack.length ≤ maxLen) (h2 : m.sums.length ≤ maxLen) : ACv Try.prog 14 [mchR m, mchR m] (.bool true) := by
  refine ac_enter Try.func14 rfl _ Try.ntmps14 (by simp) fun C hn hm => ?_
  repeat' (first
 | refine RunsL.step tabOk hn rfl ?_
 | refine RunsL.nil ?_
 | refine Runs.toRegion 30 rfl ?_
 | (refine RunsL.pe hn rfl rfl rfl ?_; first
 | refine ⟨_, pu_callR (eqInts_ac m.stack h1) rfl, ?_⟩
 | refine ⟨_, pu_callR (eqInts_ac m.sums h2) rfl, ?_⟩)
 | (refine Runs.ctls 30 rfl ?_; first | refine Runs.cond_t rfl ?_ | refine Runs.cond_f rfl ?_ | ((first | refine Runs.cond_yes rfl ?_ ?_ | refine Runs.cond_nno rfl ?_ ?_); · first | omega | rfl | assumption | (simp only [List.length_map]; omega)) | ((first | refine Runs.cond_no rfl ?_ ?_ | refine Runs.cond_nyes rfl ?_ ?_); · first | omega | rfl | assumption | (simp only [List.length_map]; omega)) | refine Runs.cond_dec rfl (fun h => ?_) (fun h => ?_) | refine Runs.cond_ndec rfl (fun h => ?_) (fun h => ?_) | refine Runs.cond_nb rfl (fun h => ?_) (fun h => ?_) | refine Runs.cond_b rfl (fun h => ?_) (fun h => ?_) | refine Runs.ret (ends_ro hm rfl rfl ?_) | exact Runs.ret (ends_cellR hm rfl rfl rfl (Nat.le_of_ble_eq_true rfl) rfl rfl))
 | refine op_box rfl (tl hn rfl) ?_
 | refine op_storeF rfl rfl rfl rfl (Nat.le_of_ble_eq_true rfl) ?_
 | refine op_alloc (tl hn rfl) ?_
 | refine op_storeN rfl rfl rfl rfl (Nat.le_of_ble_eq_true rfl) ?_
 | (refine RunsL.pe hn rfl rfl rfl ?_; first
 | refine ⟨_, pu_add rfl rfl (by omega), ?_⟩
 | refine ⟨_, pu_indexAddr_map rfl rfl (by omega) (by assumption), ?_⟩
 | refine ⟨_, pu_sub rfl rfl (by omega), ?_⟩
 | refine ⟨_, pu_pick_b rfl rfl rfl, ?_⟩
 | refine ⟨_, pu_mul rfl rfl (by omega), ?_⟩
 | refine ⟨_, pu_build rfl rfl rfl rfl rfl rfl, ?_⟩))
  exact rr_bool rfl
theorem mch_eq (a b : Mch) : a = b ↔ a.pc = b.pc ∧ a.register = b.register ∧ a.stack = b.stack ∧ a.sums = b.sums ∧ a.left = b.left ∧ a.started = b.started ∧ a.escaped = b.escaped ∧ a.state = b.state ∧ a.code = b.code ∧ a.read = b.read := by
  cases a; cases b; simp
end Go.Proofs.Ytkhnijggbfoimaa
