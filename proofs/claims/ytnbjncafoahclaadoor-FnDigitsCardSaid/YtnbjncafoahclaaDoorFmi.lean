/- FormatInt: the program's (strconv.Itoa) and the reference's (a loop). -/
import Derived.Test.YtnbjncafoahclaaDoorIto
import Derived.Test.YtnbjncafoahclaaDoorByt
import Derived.Test.YtnbjncafoahclaaDoorDiv
import Derived.Test.YtnbjncafoahclaaDoorEnd
namespace Go.Proofs.YtnbjncafoahclaaDoor
set_option linter.unusedSimpArgs false
set_option linter.unusedVariables false
open Go.RowKit
section
variable {P : Program} {C : Ctx} {env : Env} {σ : List Ob} {t : Nat} {ty : TypeId} {pos : String} {after : Array Edge} {gd : Option (Nat × Bool)}
theorem i64_small {p : Int} (h : -9223372036854775808 ≤ p ∧ p ≤ 9223372036854775807) : IntKind.i64.wrap p = p := by
  simp [IntKind.wrap, IntKind.bits, IntKind.signed]; omega
theorem pu_quo10 {xt yt : TypeId} {x y : Operand} {p : Int} (hx : ev env x = .int p) (hy : ev env y = .int 10) (h : I64 p) : Pur P C ⟨some t, .binOp .quo xt x y yt, ty, pos, after, gd⟩ env σ (.int (p.tdiv 10)) :=
  pu_bin hx hy (fun w => by
    have h1 : (p.tdiv 10).natAbs = p.natAbs / 10 := by rw [Int.natAbs_tdiv]; rfl
    have hw : IntKind.i64.wrap (p.tdiv 10) = p.tdiv 10 := i64_small (by omega)
    simp [go_sem, Op.intDiv, hw])
theorem pu_rem10 {xt yt : TypeId} {x y : Operand} {p : Int} (hx : ev env x = .int p) (hy : ev env y = .int 10) : Pur P C ⟨some t, .binOp .rem xt x y yt, ty, pos, after, gd⟩ env σ (.int (p.tmod 10)) :=
  pu_bin hx hy (fun w => by
    have h1 : (p.tmod 10).natAbs = p.natAbs % 10 := by rw [Int.natAbs_tmod]; rfl
    have hw : IntKind.i64.wrap (p.tmod 10) = p.tmod 10 := i64_small (by omega)
    simp [go_sem, Op.intDiv, hw])
theorem pu_neg {xt : TypeId} {x : Operand} {p : Int} [hs : TI P xt .i64] (hx : ev env x = .int p) (h : I64 (-p)) : Pur P C ⟨some t, .unOp .neg xt x, ty, pos, after, gd⟩ env σ (.int (-p)) :=
  Pur.of (fun a m hG hσ hH => ⟨.int .i64 (-p), by
    have e := ev_c (hH x (by simp [Op.operands])) hx
    simp only [execOp, Op.unary, e]
    simp [go_sem, Int.zero_sub, i64_small h], by simp [AV.rel, RV.rel]⟩)
end
theorem impl_FormatInt (n : Int) (hI : I64 n) : ACtv TabT Tryd.prog 23 [.int n] (.str ⟨(Lib.itoa n).toArray⟩) := by
  have hi := itoa_act n hI
  refine act_enter tabT_lasts Tryd.func23 rfl _ Tryd.ntmps23 (by simp) fun C hn hm hb => ?_
  repeat' (first
    | refine RunsL.step tabOk hn rfl ?_
    | refine RunsL.nil ?_
    | refine Runs.toRegion 30 rfl ?_
    | (refine RunsL.pe hn rfl rfl rfl ?_; first
      | refine ⟨_, pu_callW hb hi rfl, ?_⟩)
    | (refine Runs.ctls 30 rfl ?_; first | refine Runs.cond_t rfl ?_ | refine Runs.cond_f rfl ?_ | ((first | refine Runs.cond_yes rfl ?_ ?_ | refine Runs.cond_nno rfl ?_ ?_); · first | omega | rfl | assumption | (simp only [List.length_map]; omega)) | ((first | refine Runs.cond_no rfl ?_ ?_ | refine Runs.cond_nyes rfl ?_ ?_); · first | omega | rfl | assumption | (simp only [List.length_map]; omega)) | refine Runs.cond_dec rfl (fun h => ?_) (fun h => ?_) | refine Runs.cond_ndec rfl (fun h => ?_) (fun h => ?_) | refine Runs.cond_nb rfl (fun h => ?_) (fun h => ?_) | refine Runs.cond_b rfl (fun h => ?_) (fun h => ?_) | refine Runs.ret (ends_ro hm rfl rfl ?_) | exact Runs.ret (ends_cellR hm rfl rfl rfl (Nat.le_of_ble_eq_true rfl) rfl rfl))
    | refine op_box rfl (tl hn rfl) ?_
    | refine op_storeF rfl rfl rfl rfl (Nat.le_of_ble_eq_true rfl) ?_
    | refine op_alloc (tl hn rfl) ?_
    | refine op_storeN rfl rfl rfl rfl (Nat.le_of_ble_eq_true rfl) ?_
    | (refine RunsL.pe hn rfl rfl rfl ?_; first
      | refine ⟨_, pu_add rfl rfl (by omega), ?_⟩
      | refine ⟨_, pu_indexAddr_map rfl rfl (by omega) (by assumption), ?_⟩
      | refine ⟨_, pu_sub rfl rfl (by omega), ?_⟩
      | refine ⟨_, pu_pick_b rfl rfl rfl, ?_⟩
      | refine ⟨_, pu_mul rfl rfl (by omega), ?_⟩
      | refine ⟨_, pu_build rfl rfl rfl rfl rfl rfl, ?_⟩))
  exact rr_ro rfl
theorem ba_cat (l : List UInt8) (s : ByteArray) : (⟨l.toArray⟩ : ByteArray) ++ s = ⟨(l ++ s.data.toList).toArray⟩ := by
  apply ByteArray.ext
  simp
theorem ba_size (l : List UInt8) : (⟨l.toArray⟩ : ByteArray).size = l.length := by simp [ByteArray.size]
theorem str_step {d : Int} {x : Nat} {l : List UInt8} (hd : d = (x % 10 : Nat)) : AV.str ((⟨[u8i (48 + d)].toArray⟩ : ByteArray) ++ ⟨l.toArray⟩) = AV.str ⟨(UInt8.ofNat (48 + x % 10) :: l).toArray⟩ := by
  subst hd
  have e : u8i (48 + ((x % 10 : Nat) : Int)) = UInt8.ofNat (48 + x % 10) := by unfold u8i; congr 1; omega
  rw [e, ba_cat]; rfl
theorem spec_FormatInt (n : Int) (hI : I64 n) : ACv Tryd.prog 22 [.int n] (.str ⟨(Lib.itoa n).toArray⟩) := by
  have hlen := itoa_len n hI.1 hI.2
  refine ac_enter Tryd.func22 rfl _ Tryd.ntmps22 (by simp) fun C hn hm => ?_
  by_cases h0 : n = 0
  · subst h0
    repeat' (first
      | refine RunsL.step tabOk hn rfl ?_
      | refine RunsL.nil ?_
      | refine Runs.toRegion 30 rfl ?_
      | (refine Runs.ctls 30 rfl ?_; first | refine Runs.cond_t rfl ?_ | refine Runs.cond_f rfl ?_ | ((first | refine Runs.cond_yes rfl ?_ ?_ | refine Runs.cond_nno rfl ?_ ?_); · first | omega | rfl | assumption | (simp only [List.length_map]; omega)) | ((first | refine Runs.cond_no rfl ?_ ?_ | refine Runs.cond_nyes rfl ?_ ?_); · first | omega | rfl | assumption | (simp only [List.length_map]; omega)) | refine Runs.cond_dec rfl (fun h => ?_) (fun h => ?_) | refine Runs.cond_ndec rfl (fun h => ?_) (fun h => ?_) | refine Runs.cond_nb rfl (fun h => ?_) (fun h => ?_) | refine Runs.cond_b rfl (fun h => ?_) (fun h => ?_) | refine Runs.ret (ends_ro hm rfl rfl ?_) | exact Runs.ret (ends_cellR hm rfl rfl rfl (Nat.le_of_ble_eq_true rfl) rfl rfl))
      | refine op_box rfl (tl hn rfl) ?_
      | refine op_storeF rfl rfl rfl rfl (Nat.le_of_ble_eq_true rfl) ?_
      | refine op_alloc (tl hn rfl) ?_
      | refine op_storeN rfl rfl rfl rfl (Nat.le_of_ble_eq_true rfl) ?_
      | (refine RunsL.pe hn rfl rfl rfl ?_; first
        | refine ⟨_, pu_add rfl rfl (by omega), ?_⟩
        | refine ⟨_, pu_indexAddr_map rfl rfl (by omega) (by assumption), ?_⟩
        | refine ⟨_, pu_sub rfl rfl (by omega), ?_⟩
        | refine ⟨_, pu_pick_b rfl rfl rfl, ?_⟩
        | refine ⟨_, pu_mul rfl rfl (by omega), ?_⟩
        | refine ⟨_, pu_build rfl rfl rfl rfl rfl rfl, ?_⟩))
    rw [itoa_zero]
  have hd : (digPre n).length ≤ 20 := by
    rcases Int.lt_or_gt_of_ne h0 with h | h
    · rw [itoa_neg n h] at hlen; simp only [List.length_cons] at hlen; omega
    · rw [itoa_pos n h] at hlen; exact hlen
  repeat' (first
    | refine RunsL.step tabOk hn rfl ?_
    | refine RunsL.nil ?_
    | refine Runs.toRegion 30 rfl ?_
    | (refine Runs.ctls 30 rfl ?_; first | refine Runs.cond_t rfl ?_ | refine Runs.cond_f rfl ?_ | ((first | refine Runs.cond_yes rfl ?_ ?_ | refine Runs.cond_nno rfl ?_ ?_); · first | omega | rfl | assumption | (simp only [List.length_map]; omega)) | ((first | refine Runs.cond_no rfl ?_ ?_ | refine Runs.cond_nyes rfl ?_ ?_); · first | omega | rfl | assumption | (simp only [List.length_map]; omega)) | refine Runs.cond_dec rfl (fun h => ?_) (fun h => ?_) | refine Runs.cond_ndec rfl (fun h => ?_) (fun h => ?_) | refine Runs.cond_nb rfl (fun h => ?_) (fun h => ?_) | refine Runs.cond_b rfl (fun h => ?_) (fun h => ?_) | refine Runs.ret (ends_ro hm rfl rfl ?_) | exact Runs.ret (ends_cellR hm rfl rfl rfl (Nat.le_of_ble_eq_true rfl) rfl rfl))
    | refine op_box rfl (tl hn rfl) ?_
    | refine op_storeF rfl rfl rfl rfl (Nat.le_of_ble_eq_true rfl) ?_
    | refine op_alloc (tl hn rfl) ?_
    | refine op_storeN rfl rfl rfl rfl (Nat.le_of_ble_eq_true rfl) ?_
    | (refine RunsL.pe hn rfl rfl rfl ?_; first
      | refine ⟨_, pu_add rfl rfl (by omega), ?_⟩
      | refine ⟨_, pu_indexAddr_map rfl rfl (by omega) (by assumption), ?_⟩
      | refine ⟨_, pu_sub rfl rfl (by omega), ?_⟩
      | refine ⟨_, pu_pick_b rfl rfl rfl, ?_⟩
      | refine ⟨_, pu_mul rfl rfl (by omega), ?_⟩
      | refine ⟨_, pu_build rfl rfl rfl rfl rfl rfl, ?_⟩))
  refine Runs.loopI 30 rfl (fun m E s => ∃ (x : Int) (l : List UInt8), x.natAbs ≤ m ∧ x.natAbs ≤ n.natAbs ∧ I64 x ∧ digPre n = digPre x ++ l ∧ E = [(0, .int n), (3, .str ⟨l.toArray⟩), (4, .int x)] ∧ s = []) n.natAbs [(0, .int n), (3, .str ⟨#[]⟩), (4, .int n)] ⟨rfl, rfl, rfl, trivial⟩ ⟨n, [], Nat.le_refl _, Nat.le_refl _, hI, by simp, rfl, rfl⟩ fun m E s ⟨x, l, hm', hxn, hxb, hl, hE, hs⟩ ih => ?_
  subst hE; subst hs
  have hll : l.length ≤ 20 := by rw [hl, List.length_append] at hd; omega
  by_cases hx : x = 0
  · subst hx
    have hl0 : digPre n = l := by rw [hl]; simp [digPre]
    clear ih
    repeat' (first
      | refine RunsL.step tabOk hn rfl ?_
      | refine RunsL.nil ?_
      | refine Runs.toRegion 30 rfl ?_
      | (refine RunsL.pe hn rfl rfl rfl ?_; first
        | refine ⟨_, pu_cat rfl rfl (by rw [ba_size]; show 1 + l.length ≤ _; omega), ?_⟩)
      | (refine Runs.ctls 30 rfl ?_; first | refine Runs.cond_t rfl ?_ | refine Runs.cond_f rfl ?_ | ((first | refine Runs.cond_yes rfl ?_ ?_ | refine Runs.cond_nno rfl ?_ ?_); · first | omega | rfl | assumption | (simp only [List.length_map]; omega)) | ((first | refine Runs.cond_no rfl ?_ ?_ | refine Runs.cond_nyes rfl ?_ ?_); · first | omega | rfl | assumption | (simp only [List.length_map]; omega)) | refine Runs.cond_dec rfl (fun h => ?_) (fun h => ?_) | refine Runs.cond_ndec rfl (fun h => ?_) (fun h => ?_) | refine Runs.cond_nb rfl (fun h => ?_) (fun h => ?_) | refine Runs.cond_b rfl (fun h => ?_) (fun h => ?_) | refine Runs.ret (ends_ro hm rfl rfl ?_) | exact Runs.ret (ends_cellR hm rfl rfl rfl (Nat.le_of_ble_eq_true rfl) rfl rfl))
      | refine op_box rfl (tl hn rfl) ?_
      | refine op_storeF rfl rfl rfl rfl (Nat.le_of_ble_eq_true rfl) ?_
      | refine op_alloc (tl hn rfl) ?_
      | refine op_storeN rfl rfl rfl rfl (Nat.le_of_ble_eq_true rfl) ?_
      | (refine RunsL.pe hn rfl rfl rfl ?_; first
        | refine ⟨_, pu_add rfl rfl (by omega), ?_⟩
        | refine ⟨_, pu_indexAddr_map rfl rfl (by omega) (by assumption), ?_⟩
        | refine ⟨_, pu_sub rfl rfl (by omega), ?_⟩
        | refine ⟨_, pu_pick_b rfl rfl rfl, ?_⟩
        | refine ⟨_, pu_mul rfl rfl (by omega), ?_⟩
        | refine ⟨_, pu_build rfl rfl rfl rfl rfl rfl, ?_⟩))
    · refine rr_ro ?_
      rw [itoa_neg n h, hl0, show (⟨#[45]⟩ : ByteArray) = ⟨[45].toArray⟩ from rfl, ba_cat]
      rfl
    · refine rr_ro ?_
      rw [itoa_pos n (by omega), hl0]
  · have hst := digPre_step x hx
    have hq := tdiv_abs x
    have hr := tmod_abs x
    have hng : I64 (-(x.tmod 10)) := by omega
    repeat' (first
      | refine RunsL.step tabOk hn rfl ?_
      | refine RunsL.nil ?_
      | refine Runs.toRegion 30 rfl ?_
      | (refine RunsL.pe hn rfl rfl rfl ?_; first
        | refine ⟨_, pu_quo10 rfl rfl hxb, ?_⟩
        | refine ⟨_, pu_rem10 rfl rfl, ?_⟩
        | refine ⟨_, pu_neg rfl hng, ?_⟩
        | refine ⟨_, pu_toU8 rfl, ?_⟩
        | refine ⟨_, pu_string (l := [_]) Tryd.underlying32 Tryd.underlying5 Tryd.underlying9 rfl, ?_⟩
        | refine ⟨_, pu_cat rfl rfl (by rw [ba_size, ba_size]; show 1 + l.length ≤ _; omega), ?_⟩)
      | (refine Runs.ctls 30 rfl ?_; first | refine Runs.cond_t rfl ?_ | refine Runs.cond_f rfl ?_ | ((first | refine Runs.cond_yes rfl ?_ ?_ | refine Runs.cond_nno rfl ?_ ?_); · first | omega | rfl | assumption | (simp only [List.length_map]; omega)) | ((first | refine Runs.cond_no rfl ?_ ?_ | refine Runs.cond_nyes rfl ?_ ?_); · first | omega | rfl | assumption | (simp only [List.length_map]; omega)) | refine Runs.cond_dec rfl (fun h => ?_) (fun h => ?_) | refine Runs.cond_ndec rfl (fun h => ?_) (fun h => ?_) | refine Runs.cond_nb rfl (fun h => ?_) (fun h => ?_) | refine Runs.cond_b rfl (fun h => ?_) (fun h => ?_) | refine Runs.ret (ends_ro hm rfl rfl ?_) | exact Runs.ret (ends_cellR hm rfl rfl rfl (Nat.le_of_ble_eq_true rfl) rfl rfl))
      | refine op_box rfl (tl hn rfl) ?_
      | refine op_storeF rfl rfl rfl rfl (Nat.le_of_ble_eq_true rfl) ?_
      | refine op_alloc (tl hn rfl) ?_
      | refine op_storeN rfl rfl rfl rfl (Nat.le_of_ble_eq_true rfl) ?_
      | (refine RunsL.pe hn rfl rfl rfl ?_; first
        | refine ⟨_, pu_add rfl rfl (by omega), ?_⟩
        | refine ⟨_, pu_indexAddr_map rfl rfl (by omega) (by assumption), ?_⟩
        | refine ⟨_, pu_sub rfl rfl (by omega), ?_⟩
        | refine ⟨_, pu_pick_b rfl rfl rfl, ?_⟩
        | refine ⟨_, pu_mul rfl rfl (by omega), ?_⟩
        | refine ⟨_, pu_build rfl rfl rfl rfl rfl rfl, ?_⟩))
    · refine ih (x.tdiv 10).natAbs _ _ _ (by omega) ⟨x.tdiv 10, UInt8.ofNat (48 + x.natAbs % 10) :: l, Nat.le_refl _, by omega, by omega, ?_, rfl, rfl⟩ ⟨rfl, ?_, rfl, trivial⟩
      · rw [hl, hst]; simp
      · exact str_step (by omega)
    · refine ih (x.tdiv 10).natAbs _ _ _ (by omega) ⟨x.tdiv 10, UInt8.ofNat (48 + x.natAbs % 10) :: l, Nat.le_refl _, by omega, by omega, ?_, rfl, rfl⟩ ⟨rfl, ?_, rfl, trivial⟩
      · rw [hl, hst]; simp
      · exact str_step (by omega)
end Go.Proofs.YtnbjncafoahclaaDoor
