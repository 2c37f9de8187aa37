/- Gathered texts. -/
import Derived.Test.YtnecoghfhcimeaaGat0
import Derived.Test.YtnecoghfhcimeaaGat1
import Derived.Test.YtnecoghfhcimeaaGat2
import Derived.Test.YtnecoghfhcimeaaGat3
import Derived.Test.YtnecoghfhcimeaaGat4
/- The draw of a value of a rule: kinds with items. -/
namespace Go.Proofs.Ytnecoghfhcimeaa
set_option linter.unusedSimpArgs false
set_option linter.unusedVariables false
open Go.RowKit
open AV (Mem Keeps)
theorem MkV.bound {d : Des} {r q : Nat} {v : Tre} (h : MkV d q v) (hq : q < r) : 4 * v.total ≤ tb r := by
  have h1 := h.total
  have h2 : 4 ^ (q + 1) ≤ 4 ^ r := Nat.pow_le_pow_right (by omega) hq
  unfold tb at *
  rw [Nat.pow_succ] at h2
  omega
theorem mk_one {d : Des} {r q : Nat} {x : Rul} (hx : d[r]? = some x) {v : Tre} (hv : MkV d q v) (hq : q < r) (ho : OwnV d x (.mk 0 [] [v])) (hi : itemR x 0 0 = q) : MkV d r (.mk 0 [] [v]) := by
  have hb := hv.bound hq
  have h4 : 0 < 4 ^ r := Nat.pow_pos (by omega)
  refine ⟨(vld_iff hx).2 ⟨ho, fun i y hy => ?_⟩, ?_, ?_⟩
  · have hi0 : i = 0 := by
      have := (List.getElem?_eq_some_iff.1 hy).1
      simp [Tre.items] at this; omega
    subst hi0
    simp [Tre.items] at hy
    subst hy
    show Vld d (itemR x 0 0).toNat v
    rw [hi]; exact hv.vld
  · simp only [Tre.Ok, Tre.OkL]; exact ⟨by unfold I64; omega, by simp [maxLen], by simp [maxLen], hv.ok, trivial⟩
  · simp only [Tre.total, Tre.totalL, List.length_nil, List.length_cons]
    have : 16 ≤ tb r := by unfold tb; omega
    omega
set_option maxHeartbeats 8000000 in
theorem l9Make9_d (b : List UInt8) (hb : b.length ≤ 1048576) (d : Des) (hD : DrawD d) (r : Nat) (x : Rul) (hx : d[(r : Int).toNat]? = some x) (k : x.kind = 9) (most : Int) (hmo : 0 ≤ most ∧ most ≤ 1048576)
    (ih : ∀ q : Nat, q < r → ∀ m : Int, 0 ≤ m ∧ m ≤ 1048576 → Drw Try.prog 123 66 b [desR d, .int (q : Int), .int m] (QTre (MkV d q))) : Drw Try.prog 123 66 b [desR d, .int (r : Int), .int most] (QTre (MkV d r)) := by
  have hx' : d[r]? = some x := hx
  obtain ⟨k', _, _, hr, hk', _, _⟩ := hD.kinds hx'
  obtain ⟨z, hz, hkd⟩ := hr.hkids.2.2.2.2.1 (by omega)
  have hzr := hD.kid hx' z (by rw [hkd]; simp)
  obtain ⟨q, rfl⟩ : ∃ q : Nat, z = q := ⟨z.toNat, by omega⟩
  have hk0 : x.kids[(0 : Int).toNat]? = some (q : Int) := by rw [hkd]; rfl
  have hI := ih q (by omega) (most / 2) (by omega)
  refine drw_enter Try.func66 rfl _ Try.ntmps66 (by simp) fun C g u i h hn hm hu hi => ?_
  repeat' (first
 | refine Runs.toLate (id := 31) 30 [0, 1, 2, 3, 4, 5, 6, 7] [8, 9, 10, 11] mixed rfl rfl (by kernel_rfl) (by kernel_rfl) (by kernel_rfl) ?_
 | (refine RunsP.drawN (t := 174) hI qtre_ok rfl hu hi rfl rfl (by first | rfl | repeat' (first | rfl | exact clns_ro _ | refine clnO_cons ?_ ?_)) (tl hn rfl) ?_; rintro i h _ hi ⟨v, rfl, hv⟩)
 | refine RunsH.pur (fun _ _ => pu_auto tabOk rfl) rfl (tl hn rfl) rfl ?_
 | refine RunsH.pur (fun _ _ => pu_buildS rfl) rfl (tl hn rfl) rfl ?_
 | refine RunsH.pur (fun _ _ => pu_quo rfl rfl (by omega)) rfl (tl hn rfl) rfl ?_
 | refine RunsH.pur (fun _ _ => pu_build rfl rfl rfl rfl rfl rfl) rfl (tl hn rfl) rfl ?_
 | refine RunsH.pur (fun _ _ => pu_indexAddr_map rfl rfl (by omega) (by assumption)) rfl (tl hn rfl) rfl ?_
 | refine RunsH.pur (fun _ _ => pu_build rfl rfl rfl rfl rfl rfl) rfl (tl hn rfl) rfl ?_
 | refine RunsH.nil ?_
 | refine RunsP.pur (pu_auto tabOk rfl) rfl rfl (tl hn rfl) (by first | rfl | repeat' (first | rfl | exact clns_ro _ | refine clnO_cons ?_ ?_)) ?_
 | refine RunsP.pur (pu_buildS rfl) rfl rfl (tl hn rfl) (by first | rfl | repeat' (first | rfl | exact clns_ro _ | refine clnO_cons ?_ ?_)) ?_
 | refine RunsP.pur (pu_quo rfl rfl (by omega)) rfl rfl (tl hn rfl) (by first | rfl | repeat' (first | rfl | exact clns_ro _ | refine clnO_cons ?_ ?_)) ?_
 | refine RunsP.pur (pu_build rfl rfl rfl rfl rfl rfl) rfl rfl (tl hn rfl) (by first | rfl | repeat' (first | rfl | exact clns_ro _ | refine clnO_cons ?_ ?_)) ?_
 | refine RunsP.pur (pu_indexAddr_map rfl rfl (by omega) (by assumption)) rfl rfl (tl hn rfl) (by first | rfl | repeat' (first | rfl | exact clns_ro _ | refine clnO_cons ?_ ?_)) ?_
 | refine RunsP.pur (pu_build rfl rfl rfl rfl rfl rfl) rfl rfl (tl hn rfl) (by first | rfl | repeat' (first | rfl | exact clns_ro _ | refine clnO_cons ?_ ?_)) ?_
 | refine RunsL.step tabOk hn rfl ?_
 | refine RunsL.nil ?_
 | refine Runs.toRegion 30 rfl ?_
 | refine RunsP.done 11 rfl (Nat.le_of_ble_eq_true rfl) (by kernel_rfl) (by kernel_rfl) ?_
 | ((first | refine RunsL.pe hn rfl rfl rfl ?_ | refine RunsD.pe rfl rfl ?_); first
 | refine ⟨_, pu_buildS rfl, ?_⟩
 | refine ⟨_, pu_quo rfl rfl (by omega), ?_⟩
 | refine ⟨_, pu_build rfl rfl rfl rfl rfl rfl, ?_⟩)
 | (refine Runs.ctls 30 rfl ?_; first | ((first | refine Runs.cond_yes rfl ?_ ?_ | refine Runs.cond_nno rfl ?_ ?_); · first | omega | rfl | assumption | (simp only [List.length_map]; omega)) | ((first | refine Runs.cond_no rfl ?_ ?_ | refine Runs.cond_nyes rfl ?_ ?_); · first | omega | rfl | assumption | (simp only [List.length_map]; omega)) | refine Runs.ret (ends_ro hm rfl rfl ?_) | exact Runs.ret (ends_cellR hm rfl rfl rfl (Nat.le_of_ble_eq_true rfl) rfl rfl))
 | refine op_box rfl (tl hn rfl) ?_
 | refine op_storeF rfl rfl rfl rfl (Nat.le_of_ble_eq_true rfl) ?_
 | refine op_alloc (tl hn rfl) ?_
 | refine op_storeN rfl rfl rfl rfl (Nat.le_of_ble_eq_true rfl) ?_
 | ((first | refine RunsL.pe hn rfl rfl rfl ?_ | refine RunsD.pe rfl rfl ?_); first
 | refine ⟨_, pu_add rfl rfl (by omega), ?_⟩
 | refine ⟨_, pu_indexAddr_map rfl rfl (by omega) (by assumption), ?_⟩
 | refine ⟨_, pu_sub rfl rfl (by omega), ?_⟩
 | refine ⟨_, pu_pick_b rfl rfl rfl, ?_⟩
 | refine ⟨_, pu_mul rfl rfl (by omega), ?_⟩
 | refine ⟨_, pu_build rfl rfl rfl rfl rfl rfl, ?_⟩)
 | ((first | refine RunsL.guard_dec rfl rfl rfl ?_ ?_ | refine RunsL.guard_ndec rfl rfl rfl ?_ ?_ | refine RunsL.guard_nb rfl rfl rfl ?_ ?_ | refine RunsL.guard_b rfl rfl rfl ?_ ?_ | refine RunsD.guard_dec rfl rfl rfl ?_ ?_ | refine RunsD.guard_ndec rfl rfl rfl ?_ ?_ | refine RunsD.guard_nb rfl rfl rfl ?_ ?_ | refine RunsD.guard_b rfl rfl rfl ?_ ?_) <;> intro h <;> try (exfalso; first | omega | contradiction | (simp only [List.length_map] at h; omega))))
  refine Runs.nilCell (e := 5) (sz := 1) 2 1 (by decide) rfl rfl ?_
  have hv1 : tresR [v] = .seq 3 [[.int v.number, bytesR v.bytes, tresR v.items]] := by unfold tresR; simp [Tre.cells_eq, tresR]
  refine Runs.ctls 30 rfl (Runs.ret (ends_treD (tt := 29) (v := .mk 0 [] [v]) (j := 2) (x := 5) hm rfl rfl rfl hi rfl ?_ rfl (by decide) (mk_one hx' hv (by omega) ?_ ?_)))
  · show _ = some (Ob.mk _ _ [_, _, AV.ro (tresR [v])])
    rw [hv1]; rfl
  · unfold OwnV
    rw [if_neg (by omega), if_neg (by omega), if_neg (by omega), if_neg (by omega), if_neg (by omega), if_neg (by omega), if_neg (by omega), if_neg (by omega), if_neg (by omega)]
    exact ⟨rfl, rfl, rfl⟩
  · unfold itemR
    rw [if_neg (by omega), if_neg (by omega), if_neg (by omega), if_pos (.inr k), hkd]; rfl
end Go.Proofs.Ytnecoghfhcimeaa
/- spec.CopyValue; copies as data. -/
namespace Go.Proofs.Ytnecoghfhcimeaa
set_option linter.unusedSimpArgs false
set_option linter.unusedVariables false
open Go.RowKit
open AV (Mem Keeps)
theorem ACo.data {P : Program} {f : FuncId} {args : List RV} {ov : OV} {r : RV} (h : ACo P f args ov) (hs : OV.Seal ov r) : ACv P f args r :=
  fun w ok us h0 hu => (h w us (RV.rels_mono ⟨Nat.le_refl _, fun b _ hb => ⟨trivial, rfl⟩⟩ _ _ hu)).mono fun _ _ ⟨u, bs, e, h1, h2, h3, h4⟩ => ⟨u, .ro r, [], e, rfl, by
    simp only [RR.rel]
    exact ⟨OV.seal_rel _ _ _ _ hs h1 fun b hb => ⟨h0 b (h3 b hb).1, by simp⟩, trivial⟩, by simp, by simp, h4⟩
theorem cells_flat (l : List Tre) : (l.flatMap Tre.cells).length = l.length * 3 := by
  induction l with
  | nil => rfl
  | cons x l ih => rw [List.flatMap_cons, List.length_append, ih, Tre.cells_len, List.length_cons]; omega
end Go.Proofs.Ytnecoghfhcimeaa
/- The draw of a value of a rule: the other kinds with items; all kinds. -/
namespace Go.Proofs.Ytnecoghfhcimeaa
set_option linter.unusedSimpArgs false
set_option linter.unusedVariables false
open Go.RowKit
open AV (Mem Keeps)
theorem mk_many {d : Des} {r : Nat} {x : Rul} {n : Int} {vs : List Tre} (hx : d[r]? = some x) (hn : I64 n) (hl : vs.length ≤ 3)
    (hv : ∀ (i : Nat) y, vs[i]? = some y → ∃ q : Nat, q < r ∧ itemR x n i = q ∧ MkV d q y) (ho : OwnV d x (.mk n [] vs)) : MkV d r (.mk n [] vs) := by
  have h4 : 0 < 4 ^ r := Nat.pow_pos (by omega)
  have hm : ∀ y ∈ vs, ∃ q : Nat, q < r ∧ MkV d q y := fun y hy => by
    obtain ⟨i, hi⟩ := List.getElem?_of_mem hy
    obtain ⟨q, h1, _, h2⟩ := hv i y hi
    exact ⟨q, h1, h2⟩
  refine ⟨(vld_iff hx).2 ⟨ho, fun i y hy => ?_⟩, ?_, ?_⟩
  · obtain ⟨q, h1, h2, h3⟩ := hv i y hy
    show Vld d (itemR x n i).toNat y
    rw [h2]; exact h3.vld
  · simp only [Tre.Ok]
    refine ⟨hn, by simp [maxLen], by unfold maxLen; omega, Tre.OkL_iff.2 fun y hy => ?_⟩
    obtain ⟨q, _, h⟩ := hm y hy
    exact h.ok
  · have hs := sum_le_mul Tre.total (4 * 4 ^ r) vs fun y hy => by
      obtain ⟨q, h1, h2⟩ := hm y hy
      have h3 := h2.bound h1
      unfold tb at h3; omega
    have he := Tre.total_eq (.mk n [] vs)
    have hle : vs.length * (4 * 4 ^ r) ≤ 3 * (4 * 4 ^ r) := Nat.mul_le_mul_right _ hl
    simp only [Tre.bytes, Tre.items, List.length_nil] at he
    unfold tb
    omega
theorem ownV8 {d : Des} {x : Rul} {l : List Tre} (k : x.kind = 8) (h : l.length ≤ 1) : OwnV d x (.mk 0 [] l) := by
  unfold OwnV
  rw [if_neg (by omega), if_neg (by omega), if_neg (by omega), if_neg (by omega), if_neg (by omega), if_neg (by omega), if_neg (by omega), if_neg (by omega), if_pos k]
  exact ⟨rfl, rfl, h⟩
set_option maxHeartbeats 8000000 in
theorem l9Make8_d (b : List UInt8) (hb : b.length ≤ 1048576) (d : Des) (hD : DrawD d) (r : Nat) (x : Rul) (hx : d[(r : Int).toNat]? = some x) (k : x.kind = 8) (most : Int) (hmo : 0 ≤ most ∧ most ≤ 1048576)
    (ih : ∀ q : Nat, q < r → ∀ m : Int, 0 ≤ m ∧ m ≤ 1048576 → Drw Try.prog 123 66 b [desR d, .int (q : Int), .int m] (QTre (MkV d q))) : Drw Try.prog 123 66 b [desR d, .int (r : Int), .int most] (QTre (MkV d r)) := by
  have hx' : d[r]? = some x := hx
  obtain ⟨k', _, _, hr, hk', _, _⟩ := hD.kinds hx'
  obtain ⟨z, hz, hkd⟩ := hr.hkids.2.2.2.2.1 (by omega)
  have hzr := hD.kid hx' z (by rw [hkd]; simp)
  obtain ⟨q, rfl⟩ : ∃ q : Nat, z = q := ⟨z.toNat, by omega⟩
  have hk0 : x.kids[(0 : Int).toNat]? = some (q : Int) := by rw [hkd]; rfl
  have hI := ih q (by omega) (most / 2) (by omega)
  refine drw_enter Try.func66 rfl _ Try.ntmps66 (by simp) fun C g u i h hn hm hu hi => ?_
  repeat' (first
 | (refine op_drawB (l1Once_d b hb 2 (by decide)) rfl hu hi rfl (LendsPL.ros [.int 2]) rfl (by first | rfl | repeat' (first | rfl | exact clns_ro _ | refine clnO_cons ?_ ?_)) (tl hn rfl) ?_; intro i h y hi; cases y)
 | refine Runs.toLate (id := 29) 30 [0, 1, 2, 3, 4, 5, 6, 7] [8, 9, 10, 11] mixed rfl rfl (by kernel_rfl) (by kernel_rfl) (by kernel_rfl) ?_
 | (refine RunsP.drawN (t := 161) hI qtre_ok rfl hu hi rfl rfl (by first | rfl | repeat' (first | rfl | exact clns_ro _ | refine clnO_cons ?_ ?_)) (tl hn rfl) ?_; rintro i h _ hi ⟨v, rfl, hv⟩)
 | refine RunsH.pur (fun _ _ => pu_auto tabOk rfl) rfl (tl hn rfl) rfl ?_
 | refine RunsH.pur (fun _ _ => pu_buildS rfl) rfl (tl hn rfl) rfl ?_
 | refine RunsH.pur (fun _ _ => pu_quo rfl rfl (by omega)) rfl (tl hn rfl) rfl ?_
 | refine RunsH.pur (fun _ _ => pu_build rfl rfl rfl rfl rfl rfl) rfl (tl hn rfl) rfl ?_
 | refine RunsH.pur (fun _ _ => pu_indexAddr_map rfl rfl (by omega) (by assumption)) rfl (tl hn rfl) rfl ?_
 | refine RunsH.pur (fun _ _ => pu_build rfl rfl rfl rfl rfl rfl) rfl (tl hn rfl) rfl ?_
 | refine RunsH.nil ?_
 | refine RunsP.pur (pu_auto tabOk rfl) rfl rfl (tl hn rfl) (by first | rfl | repeat' (first | rfl | exact clns_ro _ | refine clnO_cons ?_ ?_)) ?_
 | refine RunsP.pur (pu_buildS rfl) rfl rfl (tl hn rfl) (by first | rfl | repeat' (first | rfl | exact clns_ro _ | refine clnO_cons ?_ ?_)) ?_
 | refine RunsP.pur (pu_quo rfl rfl (by omega)) rfl rfl (tl hn rfl) (by first | rfl | repeat' (first | rfl | exact clns_ro _ | refine clnO_cons ?_ ?_)) ?_
 | refine RunsP.pur (pu_build rfl rfl rfl rfl rfl rfl) rfl rfl (tl hn rfl) (by first | rfl | repeat' (first | rfl | exact clns_ro _ | refine clnO_cons ?_ ?_)) ?_
 | refine RunsP.pur (pu_indexAddr_map rfl rfl (by omega) (by assumption)) rfl rfl (tl hn rfl) (by first | rfl | repeat' (first | rfl | exact clns_ro _ | refine clnO_cons ?_ ?_)) ?_
 | refine RunsP.pur (pu_build rfl rfl rfl rfl rfl rfl) rfl rfl (tl hn rfl) (by first | rfl | repeat' (first | rfl | exact clns_ro _ | refine clnO_cons ?_ ?_)) ?_
 | refine RunsL.step tabOk hn rfl ?_
 | refine RunsL.nil ?_
 | refine Runs.toRegion 30 rfl ?_
 | refine RunsP.done 11 rfl (Nat.le_of_ble_eq_true rfl) (by kernel_rfl) (by kernel_rfl) ?_
 | ((first | refine RunsL.pe hn rfl rfl rfl ?_ | refine RunsD.pe rfl rfl ?_); first
 | refine ⟨_, pu_buildS rfl, ?_⟩
 | refine ⟨_, pu_quo rfl rfl (by omega), ?_⟩
 | refine ⟨_, pu_build rfl rfl rfl rfl rfl rfl, ?_⟩)
 | (refine Runs.ctls 30 rfl ?_; first | refine Runs.cond_t rfl ?_ | refine Runs.cond_f rfl ?_ | ((first | refine Runs.cond_yes rfl ?_ ?_ | refine Runs.cond_nno rfl ?_ ?_); · first | omega | rfl | assumption | (simp only [List.length_map]; omega)) | ((first | refine Runs.cond_no rfl ?_ ?_ | refine Runs.cond_nyes rfl ?_ ?_); · first | omega | rfl | assumption | (simp only [List.length_map]; omega)) | refine Runs.ret (ends_ro hm rfl rfl ?_) | exact Runs.ret (ends_cellR hm rfl rfl rfl (Nat.le_of_ble_eq_true rfl) rfl rfl))
 | refine op_box rfl (tl hn rfl) ?_
 | refine op_storeF rfl rfl rfl rfl (Nat.le_of_ble_eq_true rfl) ?_
 | refine op_alloc (tl hn rfl) ?_
 | refine op_storeN rfl rfl rfl rfl (Nat.le_of_ble_eq_true rfl) ?_
 | ((first | refine RunsL.pe hn rfl rfl rfl ?_ | refine RunsD.pe rfl rfl ?_); first
 | refine ⟨_, pu_add rfl rfl (by omega), ?_⟩
 | refine ⟨_, pu_indexAddr_map rfl rfl (by omega) (by assumption), ?_⟩
 | refine ⟨_, pu_sub rfl rfl (by omega), ?_⟩
 | refine ⟨_, pu_pick_b rfl rfl rfl, ?_⟩
 | refine ⟨_, pu_mul rfl rfl (by omega), ?_⟩
 | refine ⟨_, pu_build rfl rfl rfl rfl rfl rfl, ?_⟩)
 | ((first | refine RunsL.guard_dec rfl rfl rfl ?_ ?_ | refine RunsL.guard_ndec rfl rfl rfl ?_ ?_ | refine RunsL.guard_nb rfl rfl rfl ?_ ?_ | refine RunsL.guard_b rfl rfl rfl ?_ ?_ | refine RunsD.guard_dec rfl rfl rfl ?_ ?_ | refine RunsD.guard_ndec rfl rfl rfl ?_ ?_ | refine RunsD.guard_nb rfl rfl rfl ?_ ?_ | refine RunsD.guard_b rfl rfl rfl ?_ ?_) <;> intro h <;> try (exfalso; first | omega | contradiction | (simp only [List.length_map] at h; omega))))
  · refine Runs.nilCell (e := 5) (sz := 1) 2 1 (by decide) rfl rfl ?_
    refine Runs.nilCell (e := 29) (sz := 3) 2 2 (by decide) rfl rfl ?_
    exact Runs.ctls 30 rfl (Runs.ret (ends_tre (v := .mk 0 [] []) (j := 2) (x := 5) (y := 6) hm rfl rfl rfl hi rfl rfl rfl rfl (by decide) (by decide) (mk_flat hx' (by simp) (ownV8 k (by simp)))))
  · refine Runs.nilCell (e := 5) (sz := 1) 2 1 (by decide) rfl rfl ?_
    have hv1 : tresR [v] = .seq 3 [[.int v.number, bytesR v.bytes, tresR v.items]] := by unfold tresR; simp [Tre.cells_eq, tresR]
    refine Runs.ctls 30 rfl (Runs.ret (ends_treD (tt := 29) (v := .mk 0 [] [v]) (j := 2) (x := 5) hm rfl rfl rfl hi rfl ?_ rfl (by decide) (mk_one hx' hv (by omega) (ownV8 k (by simp)) ?_)))
    · show _ = some (Ob.mk _ _ [_, _, AV.ro (tresR [v])])
      rw [hv1]; rfl
    · unfold itemR
      rw [if_neg (by omega), if_neg (by omega), if_neg (by omega), if_pos (.inl k), hkd]; rfl
set_option maxHeartbeats 8000000 in
theorem l9Make7_d (b : List UInt8) (hb : b.length ≤ 1048576) (d : Des) (hD : DrawD d) (r : Nat) (x : Rul) (hx : d[(r : Int).toNat]? = some x) (k : x.kind = 7) (most : Int) (hmo : 0 ≤ most ∧ most ≤ 1048576)
    (ih : ∀ q : Nat, q < r → ∀ m : Int, 0 ≤ m ∧ m ≤ 1048576 → Drw Try.prog 123 66 b [desR d, .int (q : Int), .int m] (QTre (MkV d q))) : Drw Try.prog 123 66 b [desR d, .int (r : Int), .int most] (QTre (MkV d r)) := by
  have hx' : d[r]? = some x := hx
  obtain ⟨k', _, _, hr, hk', _, _⟩ := hD.kinds hx'
  obtain ⟨z, kl, hz, hkl, hkz, hkd⟩ := hr.hkids.2.2.2.1 (by omega)
  obtain ⟨ht1, ht3, htg⟩ := hr.htags.1 (by omega)
  have htl : (x.tags.map fun z => [RV.int z]).length = x.tags.length := List.length_map ..
  have hki : ∀ j : Nat, j < x.tags.length → ∃ q : Nat, q < r ∧ x.kids[((j : Int) + 1).toNat]? = some (q : Int) := fun j hj => by
    have hj2 : j < kl.length := by omega
    have hm := List.getElem_mem hj2
    have hb2 := hD.kid hx' kl[j] (by rw [hkd]; exact List.mem_cons_of_mem _ hm)
    refine ⟨(kl[j]).toNat, by omega, ?_⟩
    have e : ((j : Int) + 1).toNat = j + 1 := by omega
    rw [e, hkd, List.getElem?_cons_succ, List.getElem?_eq_getElem hj2]
    congr 1; omega
  refine drw_enter Try.func66 rfl _ Try.ntmps66 (by simp) fun C g u i h hn hm hu hi => ?_
  repeat' (first
 | (refine op_drawI (l1Below_d b hb _ (by omega)) rfl hu hi rfl (LendsPL.ros [.int _]) rfl (by first | rfl | repeat' (first | rfl | exact clns_ro _ | refine clnO_cons ?_ ?_)) (tl hn rfl) ?_; intro i h y hi hy; have hyB := hy.2 (by omega); obtain ⟨n3, rfl, hn3⟩ : ∃ n3 : Nat, y = n3 ∧ n3 < x.tags.length := ⟨y.toNat, by omega, by omega⟩; obtain ⟨tg, htgx⟩ : ∃ tg, x.tags[(n3 : Int).toNat]? = some tg := ⟨_, List.getElem?_eq_getElem hn3⟩; obtain ⟨q, hqr, hkq⟩ := hki n3 hn3; have hI := ih q hqr (most / 2) (by omega))
 | refine Runs.toLate (id := 26) 30 [0, 1, 2, 3, 4, 5, 6, 7, 8, 9] [10, 11, 12, 13] mixed rfl rfl (by kernel_rfl) (by kernel_rfl) (by kernel_rfl) ?_
 | (refine RunsP.drawN (t := 146) hI qtre_ok rfl hu hi rfl rfl (by first | rfl | repeat' (first | rfl | exact clns_ro _ | refine clnO_cons ?_ ?_)) (tl hn rfl) ?_; rintro i h _ hi ⟨v, rfl, hv⟩)
 | refine RunsH.pur (fun _ _ => pu_auto tabOk rfl) rfl (tl hn rfl) rfl ?_
 | refine RunsH.pur (fun _ _ => pu_len_seqN x.tags.length rfl htl) rfl (tl hn rfl) rfl ?_
 | refine RunsH.pur (fun _ _ => pu_buildS rfl) rfl (tl hn rfl) rfl ?_
 | refine RunsH.pur (fun _ _ => pu_quo rfl rfl (by omega)) rfl (tl hn rfl) rfl ?_
 | refine RunsH.pur (fun _ _ => pu_add rfl rfl (by omega)) rfl (tl hn rfl) rfl ?_
 | refine RunsH.pur (fun _ _ => pu_build rfl rfl rfl rfl rfl rfl) rfl (tl hn rfl) rfl ?_
 | refine RunsH.pur (fun _ _ => pu_add rfl rfl (by omega)) rfl (tl hn rfl) rfl ?_
 | refine RunsH.pur (fun _ _ => pu_indexAddr_map rfl rfl (by omega) (by assumption)) rfl (tl hn rfl) rfl ?_
 | refine RunsH.pur (fun _ _ => pu_build rfl rfl rfl rfl rfl rfl) rfl (tl hn rfl) rfl ?_
 | refine RunsH.nil ?_
 | refine RunsP.pur (pu_auto tabOk rfl) rfl rfl (tl hn rfl) (by first | rfl | repeat' (first | rfl | exact clns_ro _ | refine clnO_cons ?_ ?_)) ?_
 | refine RunsP.pur (pu_len_seqN x.tags.length rfl htl) rfl rfl (tl hn rfl) (by first | rfl | repeat' (first | rfl | exact clns_ro _ | refine clnO_cons ?_ ?_)) ?_
 | refine RunsP.pur (pu_buildS rfl) rfl rfl (tl hn rfl) (by first | rfl | repeat' (first | rfl | exact clns_ro _ | refine clnO_cons ?_ ?_)) ?_
 | refine RunsP.pur (pu_quo rfl rfl (by omega)) rfl rfl (tl hn rfl) (by first | rfl | repeat' (first | rfl | exact clns_ro _ | refine clnO_cons ?_ ?_)) ?_
 | refine RunsP.pur (pu_add rfl rfl (by omega)) rfl rfl (tl hn rfl) (by first | rfl | repeat' (first | rfl | exact clns_ro _ | refine clnO_cons ?_ ?_)) ?_
 | refine RunsP.pur (pu_build rfl rfl rfl rfl rfl rfl) rfl rfl (tl hn rfl) (by first | rfl | repeat' (first | rfl | exact clns_ro _ | refine clnO_cons ?_ ?_)) ?_
 | refine RunsP.pur (pu_add rfl rfl (by omega)) rfl rfl (tl hn rfl) (by first | rfl | repeat' (first | rfl | exact clns_ro _ | refine clnO_cons ?_ ?_)) ?_
 | refine RunsP.pur (pu_indexAddr_map rfl rfl (by omega) (by assumption)) rfl rfl (tl hn rfl) (by first | rfl | repeat' (first | rfl | exact clns_ro _ | refine clnO_cons ?_ ?_)) ?_
 | refine RunsP.pur (pu_build rfl rfl rfl rfl rfl rfl) rfl rfl (tl hn rfl) (by first | rfl | repeat' (first | rfl | exact clns_ro _ | refine clnO_cons ?_ ?_)) ?_
 | ((first | refine RunsL.pe hn rfl rfl rfl ?_ | refine RunsD.pe rfl rfl ?_); first
 | refine ⟨_, pu_len_seqN x.tags.length rfl htl, ?_⟩)
 | refine RunsL.step tabOk hn rfl ?_
 | refine RunsL.nil ?_
 | refine Runs.toRegion 30 rfl ?_
 | refine RunsP.done 13 rfl (Nat.le_of_ble_eq_true rfl) (by kernel_rfl) (by kernel_rfl) ?_
 | ((first | refine RunsL.pe hn rfl rfl rfl ?_ | refine RunsD.pe rfl rfl ?_); first
 | refine ⟨_, pu_buildS rfl, ?_⟩
 | refine ⟨_, pu_quo rfl rfl (by omega), ?_⟩
 | refine ⟨_, pu_add rfl rfl (by omega), ?_⟩
 | refine ⟨_, pu_build rfl rfl rfl rfl rfl rfl, ?_⟩)
 | (refine Runs.ctls 30 rfl ?_; first | ((first | refine Runs.cond_yes rfl ?_ ?_ | refine Runs.cond_nno rfl ?_ ?_); · first | omega | rfl | assumption | (simp only [List.length_map]; omega)) | ((first | refine Runs.cond_no rfl ?_ ?_ | refine Runs.cond_nyes rfl ?_ ?_); · first | omega | rfl | assumption | (simp only [List.length_map]; omega)) | refine Runs.ret (ends_ro hm rfl rfl ?_) | exact Runs.ret (ends_cellR hm rfl rfl rfl (Nat.le_of_ble_eq_true rfl) rfl rfl))
 | refine op_box rfl (tl hn rfl) ?_
 | refine op_storeF rfl rfl rfl rfl (Nat.le_of_ble_eq_true rfl) ?_
 | refine op_alloc (tl hn rfl) ?_
 | refine op_storeN rfl rfl rfl rfl (Nat.le_of_ble_eq_true rfl) ?_
 | ((first | refine RunsL.pe hn rfl rfl rfl ?_ | refine RunsD.pe rfl rfl ?_); first
 | refine ⟨_, pu_add rfl rfl (by omega), ?_⟩
 | refine ⟨_, pu_indexAddr_map rfl rfl (by omega) (by assumption), ?_⟩
 | refine ⟨_, pu_sub rfl rfl (by omega), ?_⟩
 | refine ⟨_, pu_pick_b rfl rfl rfl, ?_⟩
 | refine ⟨_, pu_mul rfl rfl (by omega), ?_⟩
 | refine ⟨_, pu_build rfl rfl rfl rfl rfl rfl, ?_⟩)
 | ((first | refine RunsL.guard_dec rfl rfl rfl ?_ ?_ | refine RunsL.guard_ndec rfl rfl rfl ?_ ?_ | refine RunsL.guard_nb rfl rfl rfl ?_ ?_ | refine RunsL.guard_b rfl rfl rfl ?_ ?_ | refine RunsD.guard_dec rfl rfl rfl ?_ ?_ | refine RunsD.guard_ndec rfl rfl rfl ?_ ?_ | refine RunsD.guard_nb rfl rfl rfl ?_ ?_ | refine RunsD.guard_b rfl rfl rfl ?_ ?_) <;> intro h <;> try (exfalso; first | omega | contradiction | (simp only [List.length_map] at h; omega))))
  refine Runs.nilCell (e := 5) (sz := 1) 2 1 (by decide) rfl rfl ?_
  have hv1 : tresR [v] = .seq 3 [[.int v.number, bytesR v.bytes, tresR v.items]] := by unfold tresR; simp [Tre.cells_eq, tresR]
  have htgb := htg n3 tg htgx
  have hti : itemR x tg 0 = q := by
    unfold itemR
    rw [if_neg (by omega), if_neg (by omega), if_pos k, tagIx_hit htgx fun k2 t2 hk2 ht2 e => by have := htg k2 t2 ht2; omega]
    have e : ((n3 : Int) + 1).toNat = n3 + 1 := by omega
    rw [e] at hkq
    rw [Int.toNat_natCast, hkq]; rfl
  refine Runs.ctls 30 rfl (Runs.ret (ends_treD (tt := 29) (v := .mk tg [] [v]) (j := 2) (x := 5) hm rfl rfl rfl hi rfl ?_ rfl (by decide) (mk_many hx' (by constructor <;> omega) (by simp) (fun i y hy => ?_) ?_)))
  · show _ = some (Ob.mk _ _ [_, _, AV.ro (tresR [v])])
    rw [hv1]; rfl
  · obtain rfl : i = 0 := by
      have := (List.getElem?_eq_some_iff.1 hy).1
      simp at this; omega
    simp at hy
    subst hy
    exact ⟨q, hqr, hti, hv⟩
  · unfold OwnV
    rw [if_neg (by omega), if_neg (by omega), if_neg (by omega), if_neg (by omega), if_neg (by omega), if_neg (by omega), if_neg (by omega), if_pos k]
    exact ⟨rfl, rfl, by show 0 ≤ itemR x tg 0; omega⟩
end Go.Proofs.Ytnecoghfhcimeaa
/- The draw of a value of a rule: lists. -/
namespace Go.Proofs.Ytnecoghfhcimeaa
set_option linter.unusedSimpArgs false
set_option linter.unusedVariables false
open Go.RowKit
open AV (Mem Keeps)
theorem cells_app (l : List Tre) (v : Tre) : (l.flatMap Tre.cells ++ [[RV.int v.number, bytesR v.bytes, tresR v.items]].flatten) = (l ++ [v]).flatMap Tre.cells := by
  rw [List.flatMap_append]
  simp [Tre.cells_eq, tresR]
def mkS (d : Des) (x : Rul) (u : Value) (i h : Int) (l : List Tre) : List Ob := [curOb 123 u i h, ⟨38, 0, [.ro (rulsR d)]⟩, ⟨29, 0, [.int 0, .nil, .nil]⟩, ⟨52, 0, (rulR x).map .ro⟩, ⟨29, 0, [.int 0, .nil, .own 5]⟩, ⟨29, 3, (l.flatMap Tre.cells).map .ro⟩]
set_option maxHeartbeats 8000000 in
theorem l9Make5_d (b : List UInt8) (hb : b.length ≤ 1048576) (d : Des) (hD : DrawD d) (r : Nat) (x : Rul) (hx : d[(r : Int).toNat]? = some x) (k : x.kind = 5) (most : Int) (hmo : 0 ≤ most ∧ most ≤ 1048576)
    (ih : ∀ q : Nat, q < r → ∀ m : Int, 0 ≤ m ∧ m ≤ 1048576 → Drw Try.prog 123 66 b [desR d, .int (q : Int), .int m] (QTre (MkV d q))) : Drw Try.prog 123 66 b [desR d, .int (r : Int), .int most] (QTre (MkV d r)) := by
  have hx' : d[r]? = some x := hx
  obtain ⟨k', _, _, hr, hk', _, _⟩ := hD.kinds hx'
  obtain ⟨x0, z, hI0, hz, hkd⟩ := hr.hkids.2.1 (by omega)
  have hzr := hD.kid hx' z (by rw [hkd]; simp)
  have hlim := hD.int hI0.up.1
  obtain ⟨q, rfl⟩ : ∃ q : Nat, z = q := ⟨z.toNat, by omega⟩
  have hk1 : x.kids[(1 : Int).toNat]? = some (q : Int) := by rw [hkd]; rfl
  have hI := ih q (by omega) (most / 2) (by omega)
  have hM := spec_Min most 3
  have hm3 : 0 ≤ mn most 3 ∧ mn most 3 ≤ 3 := by unfold mn; split <;> omega
  refine drw_enter Try.func66 rfl _ Try.ntmps66 (by simp) fun C g u i h hn hm hu hi => ?_
  repeat' (first
 | (refine op_drawI (l1Below_d b hb _ (by omega)) rfl hu hi rfl (LendsPL.ros [.int _]) rfl (by first | rfl | repeat' (first | rfl | exact clns_ro _ | refine clnO_cons ?_ ?_)) (tl hn rfl) ?_; intro i h y hi hy; obtain ⟨c, rfl, hc⟩ : ∃ c : Nat, y = c ∧ c ≤ 3 := ⟨y.toNat, by unfold Bel at hy; omega, by unfold Bel at hy; omega⟩)
 | refine RunsL.step tabOk hn rfl ?_
 | refine RunsL.nil ?_
 | refine Runs.toRegion 30 rfl ?_
 | ((first | refine RunsL.pe hn rfl rfl rfl ?_ | refine RunsD.pe rfl rfl ?_); first
 | refine ⟨_, pu_callR hM rfl, ?_⟩
 | refine ⟨_, pu_buildS rfl, ?_⟩
 | refine ⟨_, pu_add rfl rfl (by omega), ?_⟩)
 | (refine Runs.ctls 30 rfl ?_; first | ((first | refine Runs.cond_yes rfl ?_ ?_ | refine Runs.cond_nno rfl ?_ ?_); · first | omega | rfl | assumption | (simp only [List.length_map]; omega)) | ((first | refine Runs.cond_no rfl ?_ ?_ | refine Runs.cond_nyes rfl ?_ ?_); · first | omega | rfl | assumption | (simp only [List.length_map]; omega)) | refine Runs.ret (ends_ro hm rfl rfl ?_) | exact Runs.ret (ends_cellR hm rfl rfl rfl (Nat.le_of_ble_eq_true rfl) rfl rfl))
 | refine op_box rfl (tl hn rfl) ?_
 | refine op_storeF rfl rfl rfl rfl (Nat.le_of_ble_eq_true rfl) ?_
 | refine op_alloc (tl hn rfl) ?_
 | refine op_storeN rfl rfl rfl rfl (Nat.le_of_ble_eq_true rfl) ?_
 | ((first | refine RunsL.pe hn rfl rfl rfl ?_ | refine RunsD.pe rfl rfl ?_); first
 | refine ⟨_, pu_add rfl rfl (by omega), ?_⟩
 | refine ⟨_, pu_indexAddr_map rfl rfl (by omega) (by assumption), ?_⟩
 | refine ⟨_, pu_sub rfl rfl (by omega), ?_⟩
 | refine ⟨_, pu_pick_b rfl rfl rfl, ?_⟩
 | refine ⟨_, pu_mul rfl rfl (by omega), ?_⟩
 | refine ⟨_, pu_build rfl rfl rfl rfl rfl rfl, ?_⟩)
 | ((first | refine RunsL.guard_dec rfl rfl rfl ?_ ?_ | refine RunsL.guard_ndec rfl rfl rfl ?_ ?_ | refine RunsL.guard_nb rfl rfl rfl ?_ ?_ | refine RunsL.guard_b rfl rfl rfl ?_ ?_ | refine RunsD.guard_dec rfl rfl rfl ?_ ?_ | refine RunsD.guard_ndec rfl rfl rfl ?_ ?_ | refine RunsD.guard_nb rfl rfl rfl ?_ ?_ | refine RunsD.guard_b rfl rfl rfl ?_ ?_) <;> intro h <;> try (exfalso; first | omega | contradiction | (simp only [List.length_map] at h; omega))))
  refine Runs.nilCell (e := 29) (sz := 3) 4 2 (by decide) rfl rfl ?_
  refine Runs.loopI 30 rfl (fun m E s => ∃ (l : List Tre) (i h : Int), l.length + m = c ∧ (∀ y ∈ l, MkV d q y) ∧ CurOk b i ∧ E = [(0, .pin 0 0 g), (3, .int most), (5, .obj 1 0), (8, .obj 2 0), (9, .obj 3 0), (10, .obj 4 0), (11, .int m)] ∧ s = mkS d x u i h l) c [(0, .pin 0 0 g), (3, .int most), (5, .obj 1 0), (8, .obj 2 0), (9, .obj 3 0), (10, .obj 4 0), (11, .int c)] ⟨rfl, rfl, rfl, rfl, rfl, rfl, rfl, trivial⟩ ⟨[], i, h, by simp, by simp, hi, rfl, rfl⟩ fun m E s ⟨l, i, h, hlc, hl, hi, hE, hs⟩ next => ?_
  subst hE; subst hs
  by_cases hm0 : 0 < m
  · repeat' (first
 | refine Runs.toLate (id := 17) 30 [0, 1, 2, 3, 4, 5, 6, 7, 8, 9] [10, 11, 12, 13, 14] mixed rfl rfl (by kernel_rfl) (by kernel_rfl) (by kernel_rfl) ?_
 | (refine RunsP.drawN (t := 95) hI qtre_ok rfl hu hi rfl rfl (by first | rfl | repeat' (first | rfl | exact clns_ro _ | refine clnO_cons ?_ ?_)) (tl hn rfl) ?_; rintro i h _ hi ⟨v, rfl, hv⟩)
 | refine RunsH.pur (fun _ _ => pu_auto tabOk rfl) rfl (tl hn rfl) rfl ?_
 | refine RunsH.pur (fun _ _ => pu_quo rfl rfl (by omega)) rfl (tl hn rfl) rfl ?_
 | refine RunsH.pur (fun _ _ => pu_build rfl rfl rfl rfl rfl rfl) rfl (tl hn rfl) rfl ?_
 | refine RunsH.pur (fun _ _ => pu_add rfl rfl (by omega)) rfl (tl hn rfl) rfl ?_
 | refine RunsH.pur (fun _ _ => pu_indexAddr_map rfl rfl (by omega) (by assumption)) rfl (tl hn rfl) rfl ?_
 | refine RunsH.pur (fun _ _ => pu_sub rfl rfl (by omega)) rfl (tl hn rfl) rfl ?_
 | refine RunsH.pur (fun _ _ => pu_build rfl rfl rfl rfl rfl rfl) rfl (tl hn rfl) rfl ?_
 | refine RunsH.nil ?_
 | refine RunsP.pur (pu_auto tabOk rfl) rfl rfl (tl hn rfl) (by first | rfl | repeat' (first | rfl | exact clns_ro _ | refine clnO_cons ?_ ?_)) ?_
 | refine RunsP.pur (pu_quo rfl rfl (by omega)) rfl rfl (tl hn rfl) (by first | rfl | repeat' (first | rfl | exact clns_ro _ | refine clnO_cons ?_ ?_)) ?_
 | refine RunsP.pur (pu_build rfl rfl rfl rfl rfl rfl) rfl rfl (tl hn rfl) (by first | rfl | repeat' (first | rfl | exact clns_ro _ | refine clnO_cons ?_ ?_)) ?_
 | refine RunsP.pur (pu_add rfl rfl (by omega)) rfl rfl (tl hn rfl) (by first | rfl | repeat' (first | rfl | exact clns_ro _ | refine clnO_cons ?_ ?_)) ?_
 | refine RunsP.pur (pu_indexAddr_map rfl rfl (by omega) (by assumption)) rfl rfl (tl hn rfl) (by first | rfl | repeat' (first | rfl | exact clns_ro _ | refine clnO_cons ?_ ?_)) ?_
 | refine RunsP.pur (pu_sub rfl rfl (by omega)) rfl rfl (tl hn rfl) (by first | rfl | repeat' (first | rfl | exact clns_ro _ | refine clnO_cons ?_ ?_)) ?_
 | refine RunsP.pur (pu_build rfl rfl rfl rfl rfl rfl) rfl rfl (tl hn rfl) (by first | rfl | repeat' (first | rfl | exact clns_ro _ | refine clnO_cons ?_ ?_)) ?_
 | refine RunsL.step tabOk hn rfl ?_
 | refine RunsL.nil ?_
 | refine Runs.toRegion 30 rfl ?_
 | refine RunsP.done 12 rfl (Nat.le_of_ble_eq_true rfl) (by kernel_rfl) (by kernel_rfl) ?_
 | ((first | refine RunsL.pe hn rfl rfl rfl ?_ | refine RunsD.pe rfl rfl ?_); first
 | refine ⟨_, pu_quo rfl rfl (by omega), ?_⟩
 | refine ⟨_, pu_build rfl rfl rfl rfl rfl rfl, ?_⟩)
 | (refine Runs.ctls 30 rfl ?_; first | ((first | refine Runs.cond_yes rfl ?_ ?_ | refine Runs.cond_nno rfl ?_ ?_); · first | omega | rfl | assumption | (simp only [List.length_map]; omega)) | ((first | refine Runs.cond_no rfl ?_ ?_ | refine Runs.cond_nyes rfl ?_ ?_); · first | omega | rfl | assumption | (simp only [List.length_map]; omega)) | refine Runs.ret (ends_ro hm rfl rfl ?_) | exact Runs.ret (ends_cellR hm rfl rfl rfl (Nat.le_of_ble_eq_true rfl) rfl rfl))
 | refine op_box rfl (tl hn rfl) ?_
 | refine op_storeF rfl rfl rfl rfl (Nat.le_of_ble_eq_true rfl) ?_
 | refine op_alloc (tl hn rfl) ?_
 | refine op_storeN rfl rfl rfl rfl (Nat.le_of_ble_eq_true rfl) ?_
 | ((first | refine RunsL.pe hn rfl rfl rfl ?_ | refine RunsD.pe rfl rfl ?_); first
 | refine ⟨_, pu_add rfl rfl (by omega), ?_⟩
 | refine ⟨_, pu_indexAddr_map rfl rfl (by omega) (by assumption), ?_⟩
 | refine ⟨_, pu_sub rfl rfl (by omega), ?_⟩
 | refine ⟨_, pu_pick_b rfl rfl rfl, ?_⟩
 | refine ⟨_, pu_mul rfl rfl (by omega), ?_⟩
 | refine ⟨_, pu_build rfl rfl rfl rfl rfl rfl, ?_⟩)
 | ((first | refine RunsL.guard_dec rfl rfl rfl ?_ ?_ | refine RunsL.guard_ndec rfl rfl rfl ?_ ?_ | refine RunsL.guard_nb rfl rfl rfl ?_ ?_ | refine RunsL.guard_b rfl rfl rfl ?_ ?_ | refine RunsD.guard_dec rfl rfl rfl ?_ ?_ | refine RunsD.guard_ndec rfl rfl rfl ?_ ?_ | refine RunsD.guard_nb rfl rfl rfl ?_ ?_ | refine RunsD.guard_b rfl rfl rfl ?_ ?_) <;> intro h <;> try (exfalso; first | omega | contradiction | (simp only [List.length_map] at h; omega))))
    refine RunsL.junk 4 2 rfl (op_append (t := 97) (i := 5) (n := l.length) (rs := l.flatMap Tre.cells) (els := [[.int v.number, bytesR v.bytes, tresR v.items]]) rfl rfl rfl rfl rfl rfl (cells_flat l) (FreeI.at_ (i := 5) ⟨by simp [curOb, AV.onlys, AV.only], by simp [AV.onlys, AV.only], by simp [AV.onlys, AV.only], onlys_ro _ _, by simp [AV.onlys, AV.only], onlys_ro _ _, trivial⟩) (by simp; omega) (by simp; omega) (tl hn rfl) ?_)
    repeat' (first
 | refine RunsL.step tabOk hn rfl ?_
 | refine RunsL.nil ?_
 | refine Runs.toRegion 30 rfl ?_
 | (refine Runs.ctls 30 rfl ?_; first | ((first | refine Runs.cond_yes rfl ?_ ?_ | refine Runs.cond_nno rfl ?_ ?_); · first | omega | rfl | assumption | (simp only [List.length_map]; omega)) | ((first | refine Runs.cond_no rfl ?_ ?_ | refine Runs.cond_nyes rfl ?_ ?_); · first | omega | rfl | assumption | (simp only [List.length_map]; omega)) | refine Runs.ret (ends_ro hm rfl rfl ?_) | exact Runs.ret (ends_cellR hm rfl rfl rfl (Nat.le_of_ble_eq_true rfl) rfl rfl))
 | refine op_box rfl (tl hn rfl) ?_
 | refine op_storeF rfl rfl rfl rfl (Nat.le_of_ble_eq_true rfl) ?_
 | refine op_alloc (tl hn rfl) ?_
 | refine op_storeN rfl rfl rfl rfl (Nat.le_of_ble_eq_true rfl) ?_
 | ((first | refine RunsL.pe hn rfl rfl rfl ?_ | refine RunsD.pe rfl rfl ?_); first
 | refine ⟨_, pu_add rfl rfl (by omega), ?_⟩
 | refine ⟨_, pu_indexAddr_map rfl rfl (by omega) (by assumption), ?_⟩
 | refine ⟨_, pu_sub rfl rfl (by omega), ?_⟩
 | refine ⟨_, pu_pick_b rfl rfl rfl, ?_⟩
 | refine ⟨_, pu_mul rfl rfl (by omega), ?_⟩
 | refine ⟨_, pu_build rfl rfl rfl rfl rfl rfl, ?_⟩)
 | ((first | refine RunsL.guard_dec rfl rfl rfl ?_ ?_ | refine RunsL.guard_ndec rfl rfl rfl ?_ ?_ | refine RunsL.guard_nb rfl rfl rfl ?_ ?_ | refine RunsL.guard_b rfl rfl rfl ?_ ?_ | refine RunsD.guard_dec rfl rfl rfl ?_ ?_ | refine RunsD.guard_ndec rfl rfl rfl ?_ ?_ | refine RunsD.guard_nb rfl rfl rfl ?_ ?_ | refine RunsD.guard_b rfl rfl rfl ?_ ?_) <;> intro h <;> try (exfalso; first | omega | contradiction | (simp only [List.length_map] at h; omega))))
    refine next (m - 1) _ _ _ (by omega) ⟨l ++ [v], i, h, by simp; omega, fun y hy => ?_, hi, rfl, ?_⟩ ⟨rfl, rfl, rfl, rfl, rfl, rfl, ?_, trivial⟩
    · rcases List.mem_append.1 hy with h1 | h1
      · exact hl y h1
      · simp at h1; subst h1; exact hv
    · unfold mkS
      rw [← cells_app]
      rfl
    · show AV.int _ = AV.int _
      congr 1; omega
  · have em : m = 0 := by omega
    repeat' (first
 | refine RunsL.step tabOk hn rfl ?_
 | refine RunsL.nil ?_
 | refine Runs.toRegion 30 rfl ?_
 | (refine Runs.ctls 30 rfl ?_; first | ((first | refine Runs.cond_yes rfl ?_ ?_ | refine Runs.cond_nno rfl ?_ ?_); · first | omega | rfl | assumption | (simp only [List.length_map]; omega)) | ((first | refine Runs.cond_no rfl ?_ ?_ | refine Runs.cond_nyes rfl ?_ ?_); · first | omega | rfl | assumption | (simp only [List.length_map]; omega)) | refine Runs.ret (ends_ro hm rfl rfl ?_) | exact Runs.ret (ends_cellR hm rfl rfl rfl (Nat.le_of_ble_eq_true rfl) rfl rfl))
 | refine op_box rfl (tl hn rfl) ?_
 | refine op_storeF rfl rfl rfl rfl (Nat.le_of_ble_eq_true rfl) ?_
 | refine op_alloc (tl hn rfl) ?_
 | refine op_storeN rfl rfl rfl rfl (Nat.le_of_ble_eq_true rfl) ?_
 | ((first | refine RunsL.pe hn rfl rfl rfl ?_ | refine RunsD.pe rfl rfl ?_); first
 | refine ⟨_, pu_add rfl rfl (by omega), ?_⟩
 | refine ⟨_, pu_indexAddr_map rfl rfl (by omega) (by assumption), ?_⟩
 | refine ⟨_, pu_sub rfl rfl (by omega), ?_⟩
 | refine ⟨_, pu_pick_b rfl rfl rfl, ?_⟩
 | refine ⟨_, pu_mul rfl rfl (by omega), ?_⟩
 | refine ⟨_, pu_build rfl rfl rfl rfl rfl rfl, ?_⟩)
 | ((first | refine RunsL.guard_dec rfl rfl rfl ?_ ?_ | refine RunsL.guard_ndec rfl rfl rfl ?_ ?_ | refine RunsL.guard_nb rfl rfl rfl ?_ ?_ | refine RunsL.guard_b rfl rfl rfl ?_ ?_ | refine RunsD.guard_dec rfl rfl rfl ?_ ?_ | refine RunsD.guard_ndec rfl rfl rfl ?_ ?_ | refine RunsD.guard_nb rfl rfl rfl ?_ ?_ | refine RunsD.guard_b rfl rfl rfl ?_ ?_) <;> intro h <;> try (exfalso; first | omega | contradiction | (simp only [List.length_map] at h; omega))))
    refine Runs.nilCell (e := 5) (sz := 1) 2 1 (by decide) rfl rfl ?_
    refine Runs.ctls 30 rfl (Runs.ret (ends_tre (v := .mk 0 [] l) (j := 2) (x := 6) (y := 5) hm rfl rfl rfl hi rfl rfl rfl rfl (by decide) (by decide) (mk_many hx' (by constructor <;> omega) (by omega) (fun i y hy => ⟨q, by omega, ?_, hl y (List.mem_of_getElem? hy)⟩) ?_)))
    · unfold itemR
      rw [if_pos k, hkd]; rfl
    · unfold OwnV
      rw [if_neg (by omega), if_neg (by omega), if_neg (by omega), if_neg (by omega), if_neg (by omega), if_pos k]
      refine ⟨rfl, rfl, ?_⟩
      show (l.length : Int) ≤ _
      rw [hkd]
      show (l.length : Int) ≤ mn 40 (lim d x0)
      unfold mn; split <;> omega
set_option maxHeartbeats 8000000 in
theorem l9Make6_d (b : List UInt8) (hb : b.length ≤ 1048576) (d : Des) (hD : DrawD d) (r : Nat) (x : Rul) (hx : d[(r : Int).toNat]? = some x) (k : x.kind = 6) (most : Int) (hmo : 0 ≤ most ∧ most ≤ 1048576)
    (ih : ∀ q : Nat, q < r → ∀ m : Int, 0 ≤ m ∧ m ≤ 1048576 → Drw Try.prog 123 66 b [desR d, .int (q : Int), .int m] (QTre (MkV d q))) : Drw Try.prog 123 66 b [desR d, .int (r : Int), .int most] (QTre (MkV d r)) := by
  have hx' : d[r]? = some x := hx
  obtain ⟨k', _, _, hr, hk', _, _⟩ := hD.kinds hx'
  obtain ⟨hkl, hkz⟩ := hr.hkids.2.2.1 (by omega)
  have hnl := hr.hnames.1 (by omega)
  have hkk : (x.kids.map fun z => [RV.int z]).length = x.kids.length := List.length_map ..
  refine drw_enter Try.func66 rfl _ Try.ntmps66 (by simp) fun C g u i h hn hm hu hi => ?_
  repeat' (first
 | refine RunsL.step tabOk hn rfl ?_
 | refine RunsL.nil ?_
 | refine Runs.toRegion 30 rfl ?_
 | ((first | refine RunsL.pe hn rfl rfl rfl ?_ | refine RunsD.pe rfl rfl ?_); first
 | refine ⟨_, pu_buildS rfl, ?_⟩)
 | (refine Runs.ctls 30 rfl ?_; first | ((first | refine Runs.cond_yes rfl ?_ ?_ | refine Runs.cond_nno rfl ?_ ?_); · first | omega | rfl | assumption | (simp only [List.length_map]; omega)) | ((first | refine Runs.cond_no rfl ?_ ?_ | refine Runs.cond_nyes rfl ?_ ?_); · first | omega | rfl | assumption | (simp only [List.length_map]; omega)) | refine Runs.ret (ends_ro hm rfl rfl ?_) | exact Runs.ret (ends_cellR hm rfl rfl rfl (Nat.le_of_ble_eq_true rfl) rfl rfl))
 | refine op_box rfl (tl hn rfl) ?_
 | refine op_storeF rfl rfl rfl rfl (Nat.le_of_ble_eq_true rfl) ?_
 | refine op_alloc (tl hn rfl) ?_
 | refine op_storeN rfl rfl rfl rfl (Nat.le_of_ble_eq_true rfl) ?_
 | ((first | refine RunsL.pe hn rfl rfl rfl ?_ | refine RunsD.pe rfl rfl ?_); first
 | refine ⟨_, pu_add rfl rfl (by omega), ?_⟩
 | refine ⟨_, pu_indexAddr_map rfl rfl (by omega) (by assumption), ?_⟩
 | refine ⟨_, pu_sub rfl rfl (by omega), ?_⟩
 | refine ⟨_, pu_pick_b rfl rfl rfl, ?_⟩
 | refine ⟨_, pu_mul rfl rfl (by omega), ?_⟩
 | refine ⟨_, pu_build rfl rfl rfl rfl rfl rfl, ?_⟩)
 | ((first | refine RunsL.guard_dec rfl rfl rfl ?_ ?_ | refine RunsL.guard_ndec rfl rfl rfl ?_ ?_ | refine RunsL.guard_nb rfl rfl rfl ?_ ?_ | refine RunsL.guard_b rfl rfl rfl ?_ ?_ | refine RunsD.guard_dec rfl rfl rfl ?_ ?_ | refine RunsD.guard_ndec rfl rfl rfl ?_ ?_ | refine RunsD.guard_nb rfl rfl rfl ?_ ?_ | refine RunsD.guard_b rfl rfl rfl ?_ ?_) <;> intro h <;> try (exfalso; first | omega | contradiction | (simp only [List.length_map] at h; omega))))
  refine Runs.nilCell (e := 29) (sz := 3) 4 2 (by decide) rfl rfl ?_
  refine Runs.loopI 30 rfl (fun m E s => ∃ (l : List Tre) (i h : Int), l.length + m = x.kids.length ∧ (∀ (j : Nat) y, l[j]? = some y → ∃ q : Nat, q < r ∧ x.kids[j]? = some (q : Int) ∧ MkV d q y) ∧ CurOk b i ∧ E = [(0, .pin 0 0 g), (3, .int most), (5, .obj 1 0), (8, .obj 2 0), (9, .obj 3 0), (10, .obj 4 0), (12, .int l.length)] ∧ s = mkS d x u i h l) x.kids.length [(0, .pin 0 0 g), (3, .int most), (5, .obj 1 0), (8, .obj 2 0), (9, .obj 3 0), (10, .obj 4 0), (12, .int 0)] ⟨rfl, rfl, rfl, rfl, rfl, rfl, rfl, trivial⟩ ⟨[], i, h, by simp, by simp, hi, rfl, rfl⟩ fun m E s ⟨l, i, h, hlc, hl, hi, hE, hs⟩ next => ?_
  subst hE; subst hs
  by_cases hm0 : 0 < m
  · obtain ⟨z, hz⟩ : ∃ z, x.kids[(l.length : Int).toNat]? = some z := ⟨_, List.getElem?_eq_getElem (by omega)⟩
    have hz' : x.kids[l.length]? = some z := hz
    have hzr := hD.kid hx' z (List.mem_of_getElem? hz')
    obtain ⟨q, rfl⟩ : ∃ q : Nat, z = q := ⟨z.toNat, by omega⟩
    have hI := ih q (by omega) (most / 2) (by omega)
    repeat' (first
 | refine Runs.toLate (id := 22) 30 [0, 1, 2, 3, 4, 5, 6, 7, 8, 9, 10] [11, 12, 13, 14, 15] mixed rfl rfl (by kernel_rfl) (by kernel_rfl) (by kernel_rfl) ?_
 | (refine RunsP.drawN (t := 119) hI qtre_ok rfl hu hi rfl rfl (by first | rfl | repeat' (first | rfl | exact clns_ro _ | refine clnO_cons ?_ ?_)) (tl hn rfl) ?_; rintro i h _ hi ⟨v, rfl, hv⟩)
 | refine RunsH.pur (fun _ _ => pu_auto tabOk rfl) rfl (tl hn rfl) rfl ?_
 | refine RunsH.pur (fun _ _ => pu_len_seqN x.kids.length rfl hkk) rfl (tl hn rfl) rfl ?_
 | refine RunsH.pur (fun _ _ => pu_quo rfl rfl (by omega)) rfl (tl hn rfl) rfl ?_
 | refine RunsH.pur (fun _ _ => pu_build rfl rfl rfl rfl rfl rfl) rfl (tl hn rfl) rfl ?_
 | refine RunsH.pur (fun _ _ => pu_add rfl rfl (by omega)) rfl (tl hn rfl) rfl ?_
 | refine RunsH.pur (fun _ _ => pu_indexAddr_map rfl rfl (by omega) (by assumption)) rfl (tl hn rfl) rfl ?_
 | refine RunsH.pur (fun _ _ => pu_build rfl rfl rfl rfl rfl rfl) rfl (tl hn rfl) rfl ?_
 | refine RunsH.nil ?_
 | refine RunsP.pur (pu_auto tabOk rfl) rfl rfl (tl hn rfl) (by first | rfl | repeat' (first | rfl | exact clns_ro _ | refine clnO_cons ?_ ?_)) ?_
 | refine RunsP.pur (pu_len_seqN x.kids.length rfl hkk) rfl rfl (tl hn rfl) (by first | rfl | repeat' (first | rfl | exact clns_ro _ | refine clnO_cons ?_ ?_)) ?_
 | refine RunsP.pur (pu_quo rfl rfl (by omega)) rfl rfl (tl hn rfl) (by first | rfl | repeat' (first | rfl | exact clns_ro _ | refine clnO_cons ?_ ?_)) ?_
 | refine RunsP.pur (pu_build rfl rfl rfl rfl rfl rfl) rfl rfl (tl hn rfl) (by first | rfl | repeat' (first | rfl | exact clns_ro _ | refine clnO_cons ?_ ?_)) ?_
 | refine RunsP.pur (pu_add rfl rfl (by omega)) rfl rfl (tl hn rfl) (by first | rfl | repeat' (first | rfl | exact clns_ro _ | refine clnO_cons ?_ ?_)) ?_
 | refine RunsP.pur (pu_indexAddr_map rfl rfl (by omega) (by assumption)) rfl rfl (tl hn rfl) (by first | rfl | repeat' (first | rfl | exact clns_ro _ | refine clnO_cons ?_ ?_)) ?_
 | refine RunsP.pur (pu_build rfl rfl rfl rfl rfl rfl) rfl rfl (tl hn rfl) (by first | rfl | repeat' (first | rfl | exact clns_ro _ | refine clnO_cons ?_ ?_)) ?_
 | ((first | refine RunsL.pe hn rfl rfl rfl ?_ | refine RunsD.pe rfl rfl ?_); first
 | refine ⟨_, pu_len_seqN x.kids.length rfl hkk, ?_⟩)
 | refine RunsL.step tabOk hn rfl ?_
 | refine RunsL.nil ?_
 | refine Runs.toRegion 30 rfl ?_
 | refine RunsP.done 13 rfl (Nat.le_of_ble_eq_true rfl) (by kernel_rfl) (by kernel_rfl) ?_
 | ((first | refine RunsL.pe hn rfl rfl rfl ?_ | refine RunsD.pe rfl rfl ?_); first
 | refine ⟨_, pu_quo rfl rfl (by omega), ?_⟩
 | refine ⟨_, pu_build rfl rfl rfl rfl rfl rfl, ?_⟩)
 | (refine Runs.ctls 30 rfl ?_; first | ((first | refine Runs.cond_yes rfl ?_ ?_ | refine Runs.cond_nno rfl ?_ ?_); · first | omega | rfl | assumption | (simp only [List.length_map]; omega)) | ((first | refine Runs.cond_no rfl ?_ ?_ | refine Runs.cond_nyes rfl ?_ ?_); · first | omega | rfl | assumption | (simp only [List.length_map]; omega)) | refine Runs.ret (ends_ro hm rfl rfl ?_) | exact Runs.ret (ends_cellR hm rfl rfl rfl (Nat.le_of_ble_eq_true rfl) rfl rfl))
 | refine op_box rfl (tl hn rfl) ?_
 | refine op_storeF rfl rfl rfl rfl (Nat.le_of_ble_eq_true rfl) ?_
 | refine op_alloc (tl hn rfl) ?_
 | refine op_storeN rfl rfl rfl rfl (Nat.le_of_ble_eq_true rfl) ?_
 | ((first | refine RunsL.pe hn rfl rfl rfl ?_ | refine RunsD.pe rfl rfl ?_); first
 | refine ⟨_, pu_add rfl rfl (by omega), ?_⟩
 | refine ⟨_, pu_indexAddr_map rfl rfl (by omega) (by assumption), ?_⟩
 | refine ⟨_, pu_sub rfl rfl (by omega), ?_⟩
 | refine ⟨_, pu_pick_b rfl rfl rfl, ?_⟩
 | refine ⟨_, pu_mul rfl rfl (by omega), ?_⟩
 | refine ⟨_, pu_build rfl rfl rfl rfl rfl rfl, ?_⟩)
 | ((first | refine RunsL.guard_dec rfl rfl rfl ?_ ?_ | refine RunsL.guard_ndec rfl rfl rfl ?_ ?_ | refine RunsL.guard_nb rfl rfl rfl ?_ ?_ | refine RunsL.guard_b rfl rfl rfl ?_ ?_ | refine RunsD.guard_dec rfl rfl rfl ?_ ?_ | refine RunsD.guard_ndec rfl rfl rfl ?_ ?_ | refine RunsD.guard_nb rfl rfl rfl ?_ ?_ | refine RunsD.guard_b rfl rfl rfl ?_ ?_) <;> intro h <;> try (exfalso; first | omega | contradiction | (simp only [List.length_map] at h; omega))))
    refine RunsL.junk 4 2 rfl (op_append (t := 121) (i := 5) (n := l.length) (rs := l.flatMap Tre.cells) (els := [[.int v.number, bytesR v.bytes, tresR v.items]]) rfl rfl rfl rfl rfl rfl (cells_flat l) (FreeI.at_ (i := 5) ⟨by simp [curOb, AV.onlys, AV.only], by simp [AV.onlys, AV.only], by simp [AV.onlys, AV.only], onlys_ro _ _, by simp [AV.onlys, AV.only], onlys_ro _ _, trivial⟩) (by simp; omega) (by simp; omega) (tl hn rfl) ?_)
    repeat' (first
 | refine RunsL.step tabOk hn rfl ?_
 | refine RunsL.nil ?_
 | refine Runs.toRegion 30 rfl ?_
 | (refine Runs.ctls 30 rfl ?_; first | ((first | refine Runs.cond_yes rfl ?_ ?_ | refine Runs.cond_nno rfl ?_ ?_); · first | omega | rfl | assumption | (simp only [List.length_map]; omega)) | ((first | refine Runs.cond_no rfl ?_ ?_ | refine Runs.cond_nyes rfl ?_ ?_); · first | omega | rfl | assumption | (simp only [List.length_map]; omega)) | refine Runs.ret (ends_ro hm rfl rfl ?_) | exact Runs.ret (ends_cellR hm rfl rfl rfl (Nat.le_of_ble_eq_true rfl) rfl rfl))
 | refine op_box rfl (tl hn rfl) ?_
 | refine op_storeF rfl rfl rfl rfl (Nat.le_of_ble_eq_true rfl) ?_
 | refine op_alloc (tl hn rfl) ?_
 | refine op_storeN rfl rfl rfl rfl (Nat.le_of_ble_eq_true rfl) ?_
 | ((first | refine RunsL.pe hn rfl rfl rfl ?_ | refine RunsD.pe rfl rfl ?_); first
 | refine ⟨_, pu_add rfl rfl (by omega), ?_⟩
 | refine ⟨_, pu_indexAddr_map rfl rfl (by omega) (by assumption), ?_⟩
 | refine ⟨_, pu_sub rfl rfl (by omega), ?_⟩
 | refine ⟨_, pu_pick_b rfl rfl rfl, ?_⟩
 | refine ⟨_, pu_mul rfl rfl (by omega), ?_⟩
 | refine ⟨_, pu_build rfl rfl rfl rfl rfl rfl, ?_⟩)
 | ((first | refine RunsL.guard_dec rfl rfl rfl ?_ ?_ | refine RunsL.guard_ndec rfl rfl rfl ?_ ?_ | refine RunsL.guard_nb rfl rfl rfl ?_ ?_ | refine RunsL.guard_b rfl rfl rfl ?_ ?_ | refine RunsD.guard_dec rfl rfl rfl ?_ ?_ | refine RunsD.guard_ndec rfl rfl rfl ?_ ?_ | refine RunsD.guard_nb rfl rfl rfl ?_ ?_ | refine RunsD.guard_b rfl rfl rfl ?_ ?_) <;> intro h <;> try (exfalso; first | omega | contradiction | (simp only [List.length_map] at h; omega))))
    refine next (m - 1) _ _ _ (by omega) ⟨l ++ [v], i, h, by simp; omega, fun j y hy => ?_, hi, rfl, ?_⟩ ⟨rfl, rfl, rfl, rfl, rfl, rfl, ?_, trivial⟩
    · rw [List.getElem?_append] at hy
      split at hy
      · exact hl j y hy
      · have hj' : j - l.length = 0 := by
          have := (List.getElem?_eq_some_iff.1 hy).1
          simp at this; omega
        rw [hj'] at hy
        simp at hy
        subst hy
        have : j = l.length := by omega
        subst this
        exact ⟨q, by omega, hz', hv⟩
    · unfold mkS
      rw [← cells_app]
      rfl
    · show AV.int _ = AV.int _
      congr 1; simp
  · have em : m = 0 := by omega
    repeat' (first
 | ((first | refine RunsL.pe hn rfl rfl rfl ?_ | refine RunsD.pe rfl rfl ?_); first
 | refine ⟨_, pu_len_seqN x.kids.length rfl hkk, ?_⟩)
 | refine RunsL.step tabOk hn rfl ?_
 | refine RunsL.nil ?_
 | refine Runs.toRegion 30 rfl ?_
 | (refine Runs.ctls 30 rfl ?_; first | ((first | refine Runs.cond_yes rfl ?_ ?_ | refine Runs.cond_nno rfl ?_ ?_); · first | omega | rfl | assumption | (simp only [List.length_map]; omega)) | ((first | refine Runs.cond_no rfl ?_ ?_ | refine Runs.cond_nyes rfl ?_ ?_); · first | omega | rfl | assumption | (simp only [List.length_map]; omega)) | refine Runs.ret (ends_ro hm rfl rfl ?_) | exact Runs.ret (ends_cellR hm rfl rfl rfl (Nat.le_of_ble_eq_true rfl) rfl rfl))
 | refine op_box rfl (tl hn rfl) ?_
 | refine op_storeF rfl rfl rfl rfl (Nat.le_of_ble_eq_true rfl) ?_
 | refine op_alloc (tl hn rfl) ?_
 | refine op_storeN rfl rfl rfl rfl (Nat.le_of_ble_eq_true rfl) ?_
 | ((first | refine RunsL.pe hn rfl rfl rfl ?_ | refine RunsD.pe rfl rfl ?_); first
 | refine ⟨_, pu_add rfl rfl (by omega), ?_⟩
 | refine ⟨_, pu_indexAddr_map rfl rfl (by omega) (by assumption), ?_⟩
 | refine ⟨_, pu_sub rfl rfl (by omega), ?_⟩
 | refine ⟨_, pu_pick_b rfl rfl rfl, ?_⟩
 | refine ⟨_, pu_mul rfl rfl (by omega), ?_⟩
 | refine ⟨_, pu_build rfl rfl rfl rfl rfl rfl, ?_⟩)
 | ((first | refine RunsL.guard_dec rfl rfl rfl ?_ ?_ | refine RunsL.guard_ndec rfl rfl rfl ?_ ?_ | refine RunsL.guard_nb rfl rfl rfl ?_ ?_ | refine RunsL.guard_b rfl rfl rfl ?_ ?_ | refine RunsD.guard_dec rfl rfl rfl ?_ ?_ | refine RunsD.guard_ndec rfl rfl rfl ?_ ?_ | refine RunsD.guard_nb rfl rfl rfl ?_ ?_ | refine RunsD.guard_b rfl rfl rfl ?_ ?_) <;> intro h <;> try (exfalso; first | omega | contradiction | (simp only [List.length_map] at h; omega))))
    refine Runs.nilCell (e := 5) (sz := 1) 2 1 (by decide) rfl rfl ?_
    refine Runs.ctls 30 rfl (Runs.ret (ends_tre (v := .mk 0 [] l) (j := 2) (x := 6) (y := 5) hm rfl rfl rfl hi rfl rfl rfl rfl (by decide) (by decide) (mk_many hx' (by constructor <;> omega) (by omega) (fun i y hy => ?_) ?_)))
    · obtain ⟨q, h1, h2, h3⟩ := hl i y hy
      refine ⟨q, h1, ?_, h3⟩
      unfold itemR
      rw [if_neg (by omega), if_pos k, Int.toNat_natCast, h2]; rfl
    · unfold OwnV
      rw [if_neg (by omega), if_neg (by omega), if_neg (by omega), if_neg (by omega), if_neg (by omega), if_neg (by omega), if_pos k]
      exact ⟨rfl, rfl, by show l.length = _; omega⟩
end Go.Proofs.Ytnecoghfhcimeaa
/- The draw of a value of a rule: terminated content; any kind; a drawn value. -/
namespace Go.Proofs.Ytnecoghfhcimeaa
set_option linter.unusedSimpArgs false
set_option linter.unusedVariables false
open Go.RowKit
open AV (Mem Keeps)
theorem mk_ten {d : Des} {r : Nat} {x : Rul} (hx : d[r]? = some x) (k : x.kind = 10) {l : List UInt8} (h : l.length ≤ 6) : MkV d r (.mk 0 l []) :=
  mk_flat hx (by omega) (by
    unfold OwnV; rw [if_neg (by omega), if_neg (by omega), if_neg (by omega), if_neg (by omega), if_pos k]
    exact ⟨rfl, by show l.length ≤ 400; omega, rfl⟩)
set_option maxHeartbeats 8000000 in
theorem l9Make10_d (b : List UInt8) (hb : b.length ≤ 1048576) (d : Des) (hD : DrawD d) (r : Nat) (x : Rul) (hx : d[(r : Int).toNat]? = some x) (k : x.kind = 10) (most : Int) (hmo : 0 ≤ most) : Drw Try.prog 123 66 b [desR d, .int (r : Int), .int most] (QTre (MkV d r)) := by
  have hx' : d[r]? = some x := hx
  obtain ⟨k', _, _, hr, hk', _, _⟩ := hD.kinds hx'
  obtain ⟨y0, hy0, hbk⟩ := hr.hbytes.2.1 (by omega)
  have hby : x.bytes[(0 : Int).toNat]? = some (u8i y0) := by rw [hbk]; rfl
  have hM := spec_Min most 6
  have hm6 : 0 ≤ mn most 6 ∧ mn most 6 ≤ 6 := by unfold mn; split <;> omega
  have hI1 := l1Int_d b hb [((u8i y0).toNat : Int), 92] (by simp) (by simp)
  refine drw_enter Try.func66 rfl _ Try.ntmps66 (by simp) fun C g u i h hn hm hu hi => ?_
  repeat' (first
 | (refine op_drawI (l1Below_d b hb _ (by omega)) rfl hu hi rfl (LendsPL.ros [.int _]) rfl (by first | rfl | repeat' (first | rfl | exact clns_ro _ | refine clnO_cons ?_ ?_)) (tl hn rfl) ?_; intro i h y hi hy; obtain ⟨n3, rfl, hn3⟩ : ∃ n3 : Nat, y = n3 ∧ n3 ≤ 6 := ⟨y.toNat, by unfold Bel at hy; omega, by unfold Bel at hy; omega⟩)
 | (refine op_drawO (l1Bytes_d b hb n3 (by omega)) rfl hu hi rfl rfl rfl (by first | rfl | repeat' (first | rfl | exact clns_ro _ | refine clnO_cons ?_ ?_)) (tl hn rfl) ?_; rintro i h _ hi ⟨z, rfl, hz⟩; rcases z with _ | ⟨c0, z⟩)
 | refine RunsL.guard_t rfl rfl rfl ?_
 | (refine op_drawB (l1Once_d b hb 2 (by decide)) rfl hu hi rfl (LendsPL.ros [.int 2]) rfl (by first | rfl | repeat' (first | rfl | exact clns_ro _ | refine clnO_cons ?_ ?_)) (tl hn rfl) ?_; intro i h y1 hi; cases y1)
 | refine Runs.toLate (id := 12) 30 [0, 1, 2, 3, 4, 5, 6, 7] [8, 9, 10, 11, 12] mixed rfl rfl (by kernel_rfl) (by kernel_rfl) (by kernel_rfl) ?_
 | (refine RunsP.drawI (t := 71) hI1 rfl hu hi (fun _ => LendsPL.ros [intsR [((u8i y0).toNat : Int), 92]]) rfl (by first | rfl | repeat' (first | rfl | exact clns_ro _ | refine clnO_cons ?_ ?_)) (tl hn rfl) ?_; intro i h y2 hi hy2)
 | refine RunsH.pur (fun _ _ => pu_auto tabOk rfl) rfl (tl hn rfl) rfl ?_
 | refine RunsH.pur (fun _ _ => pu_buildS rfl) rfl (tl hn rfl) rfl ?_
 | refine RunsH.pur (fun _ _ => pu_callR hM rfl) rfl (tl hn rfl) rfl ?_
 | refine RunsH.pur (fun _ _ => pu_add rfl rfl (by omega)) rfl (tl hn rfl) rfl ?_
 | refine RunsH.pur (fun _ _ => pu_len_own (n := 0) rfl rfl rfl) rfl (tl hn rfl) rfl ?_
 | refine RunsH.pur (fun _ _ => pu_len_own (n := z.length + 1) rfl rfl (by simp)) rfl (tl hn rfl) rfl ?_
 | refine RunsH.pur (fun _ _ => pu_build rfl rfl rfl rfl rfl rfl) rfl (tl hn rfl) rfl ?_
 | refine RunsH.pur (fun _ _ => pu_ofU8 rfl) rfl (tl hn rfl) rfl ?_
 | refine RunsH.pur (fun _ _ => pu_toU8 rfl) rfl (tl hn rfl) rfl ?_
 | refine RunsH.pur (fun _ _ => pu_indexAddr_own (n := z.length + 1) rfl rfl rfl rfl (by first | (simp; done) | (simp; omega)) (by omega) (by omega)) rfl (tl hn rfl) rfl ?_
 | refine RunsH.pur (fun _ _ => pu_add rfl rfl (by omega)) rfl (tl hn rfl) rfl ?_
 | refine RunsH.pur (fun _ _ => pu_indexAddr_map rfl rfl (by omega) (by assumption)) rfl (tl hn rfl) rfl ?_
 | refine RunsH.pur (fun _ _ => pu_build rfl rfl rfl rfl rfl rfl) rfl (tl hn rfl) rfl ?_
 | refine RunsH.nil ?_
 | refine RunsP.pur (pu_auto tabOk rfl) rfl rfl (tl hn rfl) (by first | rfl | repeat' (first | rfl | exact clns_ro _ | refine clnO_cons ?_ ?_)) ?_
 | refine RunsP.pur (pu_buildS rfl) rfl rfl (tl hn rfl) (by first | rfl | repeat' (first | rfl | exact clns_ro _ | refine clnO_cons ?_ ?_)) ?_
 | refine RunsP.pur (pu_callR hM rfl) rfl rfl (tl hn rfl) (by first | rfl | repeat' (first | rfl | exact clns_ro _ | refine clnO_cons ?_ ?_)) ?_
 | refine RunsP.pur (pu_add rfl rfl (by omega)) rfl rfl (tl hn rfl) (by first | rfl | repeat' (first | rfl | exact clns_ro _ | refine clnO_cons ?_ ?_)) ?_
 | refine RunsP.pur (pu_len_own (n := 0) rfl rfl rfl) rfl rfl (tl hn rfl) (by first | rfl | repeat' (first | rfl | exact clns_ro _ | refine clnO_cons ?_ ?_)) ?_
 | refine RunsP.pur (pu_len_own (n := z.length + 1) rfl rfl (by simp)) rfl rfl (tl hn rfl) (by first | rfl | repeat' (first | rfl | exact clns_ro _ | refine clnO_cons ?_ ?_)) ?_
 | refine RunsP.pur (pu_build rfl rfl rfl rfl rfl rfl) rfl rfl (tl hn rfl) (by first | rfl | repeat' (first | rfl | exact clns_ro _ | refine clnO_cons ?_ ?_)) ?_
 | refine RunsP.pur (pu_ofU8 rfl) rfl rfl (tl hn rfl) (by first | rfl | repeat' (first | rfl | exact clns_ro _ | refine clnO_cons ?_ ?_)) ?_
 | refine RunsP.pur (pu_toU8 rfl) rfl rfl (tl hn rfl) (by first | rfl | repeat' (first | rfl | exact clns_ro _ | refine clnO_cons ?_ ?_)) ?_
 | refine RunsP.pur (pu_indexAddr_own (n := z.length + 1) rfl rfl rfl rfl (by first | (simp; done) | (simp; omega)) (by omega) (by omega)) rfl rfl (tl hn rfl) (by first | rfl | repeat' (first | rfl | exact clns_ro _ | refine clnO_cons ?_ ?_)) ?_
 | refine RunsP.pur (pu_add rfl rfl (by omega)) rfl rfl (tl hn rfl) (by first | rfl | repeat' (first | rfl | exact clns_ro _ | refine clnO_cons ?_ ?_)) ?_
 | refine RunsP.pur (pu_indexAddr_map rfl rfl (by omega) (by assumption)) rfl rfl (tl hn rfl) (by first | rfl | repeat' (first | rfl | exact clns_ro _ | refine clnO_cons ?_ ?_)) ?_
 | refine RunsP.pur (pu_build rfl rfl rfl rfl rfl rfl) rfl rfl (tl hn rfl) (by first | rfl | repeat' (first | rfl | exact clns_ro _ | refine clnO_cons ?_ ?_)) ?_
 | refine RunsL.step tabOk hn rfl ?_
 | refine RunsL.nil ?_
 | refine Runs.toRegion 30 rfl ?_
 | refine op_storeF rfl rfl rfl rfl (by first | (simp; done) | (simp; omega)) ?_
 | refine RunsP.done 12 rfl (Nat.le_of_ble_eq_true rfl) (by kernel_rfl) (by kernel_rfl) ?_
 | ((first | refine RunsL.pe hn rfl rfl rfl ?_ | refine RunsD.pe rfl rfl ?_); first
 | refine ⟨_, pu_buildS rfl, ?_⟩
 | refine ⟨_, pu_callR hM rfl, ?_⟩
 | refine ⟨_, pu_add rfl rfl (by omega), ?_⟩
 | refine ⟨_, pu_len_own (n := 0) rfl rfl rfl, ?_⟩
 | refine ⟨_, pu_len_own (n := z.length + 1) rfl rfl (by simp), ?_⟩
 | refine ⟨_, pu_build rfl rfl rfl rfl rfl rfl, ?_⟩
 | refine ⟨_, pu_ofU8 rfl, ?_⟩
 | refine ⟨_, pu_toU8 rfl, ?_⟩
 | refine ⟨_, pu_indexAddr_own (n := z.length + 1) rfl rfl rfl rfl (by first | (simp; done) | (simp; omega)) (by omega) (by omega), ?_⟩)
 | (refine Runs.ctls 30 rfl ?_; first | refine Runs.cond_t rfl ?_ | refine Runs.cond_f rfl ?_ | ((first | refine Runs.cond_yes rfl ?_ ?_ | refine Runs.cond_nno rfl ?_ ?_); · first | omega | rfl | assumption | (simp only [List.length_map]; omega)) | ((first | refine Runs.cond_no rfl ?_ ?_ | refine Runs.cond_nyes rfl ?_ ?_); · first | omega | rfl | assumption | (simp only [List.length_map]; omega)) | refine Runs.ret (ends_ro hm rfl rfl ?_) | exact Runs.ret (ends_cellR hm rfl rfl rfl (Nat.le_of_ble_eq_true rfl) rfl rfl))
 | refine op_box rfl (tl hn rfl) ?_
 | refine op_storeF rfl rfl rfl rfl (Nat.le_of_ble_eq_true rfl) ?_
 | refine op_alloc (tl hn rfl) ?_
 | refine op_storeN rfl rfl rfl rfl (Nat.le_of_ble_eq_true rfl) ?_
 | ((first | refine RunsL.pe hn rfl rfl rfl ?_ | refine RunsD.pe rfl rfl ?_); first
 | refine ⟨_, pu_add rfl rfl (by omega), ?_⟩
 | refine ⟨_, pu_indexAddr_map rfl rfl (by omega) (by assumption), ?_⟩
 | refine ⟨_, pu_sub rfl rfl (by omega), ?_⟩
 | refine ⟨_, pu_pick_b rfl rfl rfl, ?_⟩
 | refine ⟨_, pu_mul rfl rfl (by omega), ?_⟩
 | refine ⟨_, pu_build rfl rfl rfl rfl rfl rfl, ?_⟩)
 | ((first | refine RunsL.guard_dec rfl rfl rfl ?_ ?_ | refine RunsL.guard_ndec rfl rfl rfl ?_ ?_ | refine RunsL.guard_nb rfl rfl rfl ?_ ?_ | refine RunsL.guard_b rfl rfl rfl ?_ ?_ | refine RunsD.guard_dec rfl rfl rfl ?_ ?_ | refine RunsD.guard_ndec rfl rfl rfl ?_ ?_ | refine RunsD.guard_nb rfl rfl rfl ?_ ?_ | refine RunsD.guard_b rfl rfl rfl ?_ ?_) <;> intro h <;> try (exfalso; first | omega | contradiction | (simp only [List.length_map] at h; omega))))
  all_goals first
    | refine Runs.nilCell (e := 29) (sz := 3) 2 2 (by decide) rfl rfl ?_
  all_goals first
    | exact Runs.ctls 30 rfl (Runs.ret (ends_tre (v := .mk 0 [] []) (j := 2) (x := 5) (y := 6) hm rfl rfl rfl hi rfl rfl rfl rfl (by decide) (by decide) (mk_ten hx' k (by simp))))
    | exact Runs.ctls 30 rfl (Runs.ret (ends_tre (v := .mk 0 (c0 :: z) []) (j := 2) (x := 5) (y := 6) hm rfl rfl rfl hi rfl rfl rfl rfl (by decide) (by decide) (mk_ten hx' k (by omega))))
    | exact Runs.ctls 30 rfl (Runs.ret (ends_tre (v := .mk 0 (u8i y2 :: z) []) (j := 2) (x := 5) (y := 6) hm rfl rfl rfl hi rfl rfl rfl rfl (by decide) (by decide) (mk_ten hx' k (by simp only [List.length_cons] at hz ⊢; omega))))
end Go.Proofs.Ytnecoghfhcimeaa
/- The draw of a value: any kind; a drawn value of a drawn description. -/
namespace Go.Proofs.Ytnecoghfhcimeaa
set_option linter.unusedSimpArgs false
set_option linter.unusedVariables false
open Go.RowKit
open AV (Mem Keeps)
theorem l9Make_d (b : List UInt8) (hb : b.length ≤ 1048576) (d : Des) (hD : DrawD d) : ∀ (r : Nat), r < d.length → ∀ most : Int, 0 ≤ most ∧ most ≤ 1048576 → Drw Try.prog 123 66 b [desR d, .int (r : Int), .int most] (QTre (MkV d r)) := by
  intro r
  induction r using Nat.strongRecOn with
  | ind r ih =>
  intro hr most hmo
  have hx : d[(r : Int).toNat]? = some _ := List.getElem?_eq_getElem (show (r : Int).toNat < d.length from hr)
  obtain ⟨k', k1, k2, _, hk', _, _⟩ := hD.kinds (show d[r]? = some _ from hx)
  have ih' : ∀ q : Nat, q < r → ∀ m : Int, 0 ≤ m ∧ m ≤ 1048576 → Drw Try.prog 123 66 b [desR d, .int (q : Int), .int m] (QTre (MkV d q)) := fun q hq m hm => ih q hq (by omega) m hm
  by_cases e1 : k' = 1
  · exact l9Make1_d b hb d hD r _ hx (by omega) most
  by_cases e2 : k' = 2
  · exact l9Make2_d b hb d hD r _ hx (by omega) most
  by_cases e3 : k' = 3
  · exact l9Make3_d b hb d hD r _ hx (by omega) most
  by_cases e4 : k' = 4
  · exact l9Make4_d b hb d hD r _ hx (by omega) most hmo.1
  by_cases e5 : k' = 5
  · exact l9Make5_d b hb d hD r _ hx (by omega) most hmo ih'
  by_cases e6 : k' = 6
  · exact l9Make6_d b hb d hD r _ hx (by omega) most hmo ih'
  by_cases e7 : k' = 7
  · exact l9Make7_d b hb d hD r _ hx (by omega) most hmo ih'
  by_cases e8 : k' = 8
  · exact l9Make8_d b hb d hD r _ hx (by omega) most hmo ih'
  by_cases e9 : k' = 9
  · exact l9Make9_d b hb d hD r _ hx (by omega) most hmo ih'
  · exact l9Make10_d b hb d hD r _ hx (by omega) most hmo.1
theorem l1Size_ac (b : List UInt8) (hb : b.length ≤ 1048576) : ∃ n : Int, 0 ≤ n ∧ n ≤ 8 ∧ ACv Try.prog 67 [bytesR b, .int 8] (.int n) := by
  have hbl : (b.map fun z => [RV.u8 z]).length = b.length := List.length_map ..
  by_cases h : (8 : Int) < 3 + (b.length : Int) / 12
  · refine ⟨8, by omega, by omega, ?_⟩
    refine ac_enter Try.func67 rfl _ Try.ntmps67 (by simp) fun C hn hm => ?_
    repeat' (first
 | refine RunsL.step tabOk hn rfl ?_
 | refine RunsL.nil ?_
 | refine Runs.toRegion 30 rfl ?_
 | (refine RunsL.pe hn rfl rfl rfl ?_; first
 | refine ⟨_, pu_quo rfl rfl (by omega), ?_⟩
 | refine ⟨_, pu_add rfl rfl (by omega), ?_⟩)
 | (refine Runs.ctls 30 rfl ?_; first | ((first | refine Runs.cond_yes rfl ?_ ?_ | refine Runs.cond_nno rfl ?_ ?_); · first | omega | rfl | assumption | (simp only [List.length_map]; omega)) | ((first | refine Runs.cond_no rfl ?_ ?_ | refine Runs.cond_nyes rfl ?_ ?_); · first | omega | rfl | assumption | (simp only [List.length_map]; omega)) | refine Runs.ret (ends_ro hm rfl rfl ?_) | exact Runs.ret (ends_cellR hm rfl rfl rfl (Nat.le_of_ble_eq_true rfl) rfl rfl))
 | (refine RunsL.pe hn rfl rfl rfl ?_; first
 | refine ⟨_, pu_add rfl rfl (by omega), ?_⟩
        ))
    all_goals first
      | exact rr_int rfl
      | (exfalso; omega)
  · refine ⟨3 + (b.length : Int) / 12, by omega, by omega, ?_⟩
    refine ac_enter Try.func67 rfl _ Try.ntmps67 (by simp) fun C hn hm => ?_
    repeat' (first
 | refine RunsL.step tabOk hn rfl ?_
 | refine RunsL.nil ?_
 | refine Runs.toRegion 30 rfl ?_
 | (refine RunsL.pe hn rfl rfl rfl ?_; first
 | refine ⟨_, pu_quo rfl rfl (by omega), ?_⟩
 | refine ⟨_, pu_add rfl rfl (by omega), ?_⟩)
 | (refine Runs.ctls 30 rfl ?_; first | ((first | refine Runs.cond_yes rfl ?_ ?_ | refine Runs.cond_nno rfl ?_ ?_); · first | omega | rfl | assumption | (simp only [List.length_map]; omega)) | ((first | refine Runs.cond_no rfl ?_ ?_ | refine Runs.cond_nyes rfl ?_ ?_); · first | omega | rfl | assumption | (simp only [List.length_map]; omega)) | refine Runs.ret (ends_ro hm rfl rfl ?_) | exact Runs.ret (ends_cellR hm rfl rfl rfl (Nat.le_of_ble_eq_true rfl) rfl rfl))
 | (refine RunsL.pe hn rfl rfl rfl ?_; first
 | refine ⟨_, pu_add rfl rfl (by omega), ?_⟩
        ))
    all_goals first
      | exact rr_int rfl
      | exact rr_int (by omega)
      | (exfalso; omega)
theorem ends2c {P : Program} {C : Ctx} {fn : Func} {R : RR → Prop} {S : St} {p1 p2 ty1 ty2 i1 i2 n1 n2 : Nat} {o1 o2 : Ob} {r1 r2 : List RV} [ht1 : TN P ty1 n1] [ht2 : TN P ty2 n2] (hm : ∀ b, ¬ C.mu b) (hr : fn.results = #[.cell p1 ty1, .cell p2 ty2]) (h1 : look S.env p1 = .obj i1 0) (k1 : S.σ[i1]? = some o1) (l1 : o1.cs = r1.map .ro) (m1 : n1 = r1.length) (h2 : look S.env p2 = .obj i2 0) (k2 : S.σ[i2]? = some o2) (l2 : o2.cs = r2.map .ro) (m2 : n2 = r2.length)
    (hR : R (.tup [.agg (r1.map .ro), .agg (r2.map .ro)])) : ∀ a w, Sim C S a w → Ends P C fn R a w := by
  have hv : ∀ rs : List RV, Harvs S.σ (rs.map .ro) (rs.map .ro) [] := fun rs => by
    induction rs with
    | nil => simp [Harvs]
    | cons r rs ih => simp only [List.map_cons, Harvs]; exact ⟨_, _, [], [], rfl, rfl, ⟨rfl, rfl⟩, ih⟩
  exact endsN hm (xs := [.cell p1 ty1, .cell p2 ty2]) hr (by simp) [.agg (r1.map .ro), .agg (r2.map .ro)] ⟨_, _, rfl, by
    simp only [ResV]; exact ⟨i1, 0, o1, h1, k1, .inr ⟨n1, ht1, by rw [l1, List.length_map]; omega, by rw [l1, List.drop_zero, List.take_of_length_le (by simp; omega)]⟩⟩, _, _, rfl, by
    simp only [ResV]; exact ⟨i2, 0, o2, h2, k2, .inr ⟨n2, ht2, by rw [l2, List.length_map]; omega, by rw [l2, List.drop_zero, List.take_of_length_le (by simp; omega)]⟩⟩, rfl⟩ [.agg (r1.map .ro), .agg (r2.map .ro)] [] (by
    simp only [Harvs, Harv]
    exact ⟨_, _, [], [], rfl, rfl, ⟨_, rfl, hv r1⟩, _, _, [], [], rfl, rfl, ⟨_, rfl, hv r2⟩, rfl, rfl⟩) (by simp) hR
def QVal (rr : RR) : Prop := ∃ d v, rr = .tup [.agg [.ro (rulsR d)], .agg [.ro (.int v.number), .ro (bytesR v.bytes), .ro (tresR v.items)]] ∧ DrawD d ∧ MkV d (d.length - 1) v
theorem qval_ok : ∀ rr, QVal rr → ∃ r, Seals rr r ∧ ∃ d v, r = .tup [desR d, treR v] ∧ DrawD d ∧ MkV d (d.length - 1) v := by
  rintro _ ⟨d, v, rfl, h1, h2⟩
  refine ⟨.tup [desR d, treR v], ?_, d, v, rfl, h1, h2⟩
  simp only [Seals, SealsL, desR, treR]
  exact ⟨_, rfl, _, _, rfl, ⟨_, rfl, _, _, rfl, rfl, rfl⟩, _, _, rfl, ⟨_, rfl, _, _, rfl, rfl, _, _, rfl, rfl, _, _, rfl, rfl, rfl⟩, rfl⟩
set_option maxHeartbeats 8000000 in
theorem drawValue_ac (b : List UInt8) (hb : b.length ≤ 1048576) : AC Try.prog 18 [bytesR b] QVal := by
  obtain ⟨n, hn0, hn8, hS⟩ := l1Size_ac b hb
  refine acu_enter Try.func18 rfl _ Try.ntmps18 (by simp) fun C u hn hm hu => ?_
  have hmu : ∀ x, C.mu x → x = 0 := fun x h => (hm x h).elim
  repeat' (first
 | (refine op_newU (l1New_u b hb) rfl hu (tl hn rfl) ?_; intro h hi)
 | (refine op_drawN (t := 9) (l4Description_d b hb) qdes_ok rfl hu hi rfl rfl rfl (by first | rfl | repeat' (first | rfl | exact clns_ro _ | refine clnO_cons ?_ ?_)) (tl hn rfl) ?_; rintro i h _ hi ⟨d, rfl, hD⟩; have hlm : (d.map rulR).length = d.length := List.length_map ..; have hdl := hD.good.1; have hd24 := hD.good.2.1; have hI := l9Make_d b hb d hD (d.length - 1) (by omega) (4 + n) (by omega); rw [show ((d.length - 1 : Nat) : Int) = ((d.map rulR).length : Int) - 1 by omega] at hI)
 | refine Runs.toLate (id := 3) 30 [0, 1, 2, 3, 4, 5, 6, 7, 8, 9] [10, 11, 12] mixed rfl rfl (by kernel_rfl) (by kernel_rfl) (by kernel_rfl) ?_
 | (refine RunsP.drawN (t := 20) hI qtre_ok rfl hu hi rfl rfl (by first | rfl | repeat' (first | rfl | exact clns_ro _ | refine clnO_cons ?_ ?_)) (tl hn rfl) ?_; rintro i h _ hi ⟨v, rfl, hv⟩)
 | refine RunsH.pur (fun _ _ => pu_auto tabOk rfl) rfl (tl hn rfl) rfl ?_
 | refine RunsH.pur (fun _ _ => pu_callL hS (.cons (Lends.know hu) (.cons .ro .nil))) rfl (tl hn rfl) rfl ?_
 | refine RunsH.pur (fun _ _ => pu_add rfl rfl (by omega)) rfl (tl hn rfl) rfl ?_
 | refine RunsH.pur (fun _ _ => pu_sub rfl rfl (by omega)) rfl (tl hn rfl) rfl ?_
 | refine RunsH.nil ?_
 | ((first | refine RunsL.pe hn rfl rfl rfl ?_ | refine RunsD.pe rfl rfl ?_); first
 | refine ⟨_, pu_len_seqN d.length rfl hlm, ?_⟩)
 | refine RunsL.step tabOk hn rfl ?_
 | refine RunsL.nil ?_
 | refine Runs.toRegion 30 rfl ?_
 | refine RunsP.done 11 rfl (Nat.le_of_ble_eq_true rfl) (by kernel_rfl) (by kernel_rfl) ?_
 | ((first | refine RunsL.pe hn rfl rfl rfl ?_ | refine RunsD.pe rfl rfl ?_); first
 | refine ⟨_, pu_callL hS (.cons (Lends.know hu) (.cons .ro .nil)), ?_⟩)
 | (refine Runs.ctls 30 rfl ?_; first | ((first | refine Runs.cond_yes rfl ?_ ?_ | refine Runs.cond_nno rfl ?_ ?_); · first | omega | rfl | assumption | (simp only [List.length_map]; omega)) | ((first | refine Runs.cond_no rfl ?_ ?_ | refine Runs.cond_nyes rfl ?_ ?_); · first | omega | rfl | assumption | (simp only [List.length_map]; omega)) | refine Runs.ret (ends_ro hm rfl rfl ?_) | exact Runs.ret (ends_cellR hm rfl rfl rfl (Nat.le_of_ble_eq_true rfl) rfl rfl))
 | refine op_alloc (tl hn rfl) ?_
 | refine op_storeN rfl rfl rfl rfl (Nat.le_of_ble_eq_true rfl) ?_
 | ((first | refine RunsL.pe hn rfl rfl rfl ?_ | refine RunsD.pe rfl rfl ?_); first
 | refine ⟨_, pu_add rfl rfl (by omega), ?_⟩
 | refine ⟨_, pu_indexAddr_map rfl rfl (by omega) (by assumption), ?_⟩
 | refine ⟨_, pu_sub rfl rfl (by omega), ?_⟩
 | refine ⟨_, pu_pick_b rfl rfl rfl, ?_⟩
 | refine ⟨_, pu_mul rfl rfl (by omega), ?_⟩
 | refine ⟨_, pu_build rfl rfl rfl rfl rfl rfl, ?_⟩))
  exact Runs.ctls 30 rfl (Runs.ret (ends2c (r1 := [rulsR d]) (r2 := [.int v.number, bytesR v.bytes, tresR v.items]) hm rfl rfl rfl rfl rfl rfl rfl rfl rfl ⟨d, v, rfl, hD, hv⟩))
end Go.Proofs.Ytnecoghfhcimeaa
/- A row of the frame's own becomes data for good; an empty literal as data. Over any program. -/
namespace Go.Proofs.Ytnecoghfhcimeaa
set_option linter.unusedSimpArgs false
set_option linter.unusedVariables false
open Go.RowKit
open AV (Mem Keeps)
section
variable {P : Program} {C : Ctx} {k : List Item} {R : Act → World → Prop} {env : Env} {σ : List Ob}
theorem sim_freeze {i t : Nat} {o : Ob} {els : List (List RV)} {a : Act} {w : World} (hok : ∀ φ b, Good C ⟨w, φ, σ, C.ok⟩ → Holds ⟨w, φ, σ, C.ok⟩ env a → i < σ.length → φ i = some b → C.ok b) (ht : look env t = .own i) (ho : σ[i]? = some o) (hcs : o.cs = els.flatten.map .ro) (hl : ∀ x ∈ els, x.length = o.sz) (hfree : FreeI i (σ.set i ⟨o.t, o.sz, []⟩))
    (hs : Sim C ⟨env, σ⟩ a w) : Sim C ⟨(t, .ro (.seq o.sz els)) :: killEnv i env, σ.set i ⟨o.t, o.sz, []⟩⟩ a w := by
  obtain ⟨s1, s2, φ, hG, hH⟩ := hs
  have hil := (List.getElem?_eq_some_iff.1 ho).1
  have hlen : (σ.set i ⟨o.t, o.sz, []⟩).length = σ.length := by simp
  have hokk : ∀ b, AV.Mem.ok ⟨w, φ, σ, C.ok⟩ b → AV.Mem.ok ⟨w, upd φ i none, σ.set i ⟨o.t, o.sz, []⟩, C.ok⟩ b := fun b hb => ⟨hb.1, fun j hj e => by
    simp only [hlen] at hj
    by_cases h : j = i
    · subst h; simp only [upd_eq] at e; cases e
    · simp only [upd_ne h] at e; exact hb.2 j hj e⟩
  have hK : Keeps (fun j => j ≠ i) ⟨w, φ, σ, C.ok⟩ ⟨w, upd φ i none, σ.set i ⟨o.t, o.sz, []⟩, C.ok⟩ :=
    ⟨⟨Nat.le_refl _, fun b _ hb => ⟨hokk b hb, rfl⟩⟩, fun j hj hjl => ⟨by simpa using hjl, upd_ne hj⟩, fun j ob hj hob => ⟨ob.cs, by simp only [List.getElem?_set_ne (Ne.symm hj)]; exact hob, rfl⟩, fun j g us t _ _ _ hh => ⟨us, hh, rfl⟩⟩
  refine ⟨s1, s2, upd φ i none, ⟨rfl, fun p q g hp hq e1 e2 => ?_, fun j ob hj => ?_, fun j g hj hg => ?_, hG.frm⟩, fun s => ?_⟩
  · simp only [hlen] at hp hq
    have hp' : p ≠ i := fun e => by subst e; simp only [upd_eq] at e1; cases e1
    have hq' : q ≠ i := fun e => by subst e; simp only [upd_eq] at e2; cases e2
    simp only [upd_ne hp'] at e1
    simp only [upd_ne hq'] at e2
    exact hG.inj p q g hp hq e1 e2
  · by_cases h : j = i
    · subst h
      simp only [List.getElem?_set_self hil, Option.some.injEq] at hj
      subst hj
      show ObRel _ _ (upd φ j none j)
      rw [upd_eq]; rfl
    · have hfj := hfree.at_ j ob hj
      rw [List.getElem?_set_ne (Ne.symm h)] at hj
      have h0 := hG.ob j ob hj
      show ObRel _ _ (upd φ i none j)
      rw [upd_ne h]
      simp only at h0
      cases hφ : φ j with
      | none => rw [hφ] at h0; exact h0
      | some g =>
        rw [hφ] at h0
        obtain ⟨us, q1, q2, q3⟩ := h0
        refine ⟨us, q1, q2, fun m v hv => ?_⟩
        obtain ⟨u, e1, e2, e3⟩ := q3 m v hv
        exact ⟨u, e1, e2, AV.rel_keeps hK _ _ (onlys_mem hfj m v hv) e3⟩
  · simp only [hlen] at hj
    have h : j ≠ i := fun e => by subst e; simp only [upd_eq] at hg; cases hg
    simp only [upd_ne h] at hg
    exact hG.mine j g hj hg
  · show AV.rel _ (look ((t, _) :: killEnv i env) s) _
    rw [look_put]
    split
    · rename_i e; subst e
      have hu := hH t
      rw [ht] at hu
      simp only [AV.rel]
      -- the own row's block alone is needed
      have hrow := row_own (cs := els.flatten) (e := o.t) (sz := o.sz) hG (by rw [ho]; cases o; simp_all) hu
      obtain ⟨n, xs, h1, h2, h3, h4, h5, h6⟩ := hrow
      refine seals_rel (ok := AV.Mem.ok ⟨w, φ, σ, C.ok⟩) hokk (.row o.t o.sz els.flatten) (.seq o.sz els) _ _ (by simp only [Seals]; exact ⟨els, rfl, rfl, hl⟩) (by simp only [RR.rel]; exact ⟨n, xs, h1, h2, h3, h4, h5, rfl⟩) fun b hb => ?_
      rw [h6] at hb
      have hb' : φ i = some b := by simpa [Option.mem_toList] using hb
      refine ⟨hok φ b hG hH hil hb', fun j hj e => ?_⟩
      simp only [hlen] at hj
      by_cases h : j = i
      · subst h; simp only [upd_eq] at e; cases e
      · simp only [upd_ne h] at e; exact h (hG.inj j i b hj hil e hb')
    · rw [look_killEnv]
      exact AV.rel_keeps hK _ _ (AV.kill_only i _) (AV.kill_rel i _ _ (hH s))
theorem Runs.freeze (i t : Nat) {o : Ob} (els : List (List RV)) (hm : ∀ b, ¬ C.mu b) (ht : look env t = .own i) (ho : σ[i]? = some o) (hcs : o.cs = els.flatten.map .ro) (hl : ∀ x ∈ els, x.length = o.sz) (hfree : FreeI i (σ.set i ⟨o.t, o.sz, []⟩))
    (hk : Runs P C k R ⟨(t, .ro (.seq o.sz els)) :: killEnv i env, σ.set i ⟨o.t, o.sz, []⟩⟩) : Runs P C k R ⟨env, σ⟩ := ⟨fun a w hs => hk.run a w (sim_freeze (fun φ b hG _ hil hb => hG.frm.new b ((hG.mine i b hil hb).resolve_left (hm b))) ht ho hcs hl hfree hs)⟩
variable {t : Nat} {ty : TypeId} {pos : String} {after : Array Edge} {gd : Option (Nat × Bool)}
theorem pu_build0 {tt e : TypeId} {z : Value} {sz bytes : Nat} [hs : SL P tt e z sz bytes] : Pur P C ⟨some t, .buildSlice tt 0 #[], ty, pos, after, gd⟩ env σ (.ro (.seq sz [])) := by
  refine ⟨fun a m hG hσ hH K Q hK => ?_⟩
  unfold Oper.wp
  have hr : (execOp a.eval (⟨some t, .buildSlice tt 0 #[], ty, pos, after, gd⟩ : Oper)).run P m.w = .ok (.value (slv m.w.heap.size 0 0)) (m.w.alloc (.cells #[] e)) := by
    simp only [execOp, Sem.run_bind]
    rw [show (#[] : Array (Nat × Operand)).map (fun p => (p.1, a.eval p.2)) = #[] from by simp, run_build0 (P := P) (tt := tt) m.w]
    rfl
  rw [hr]
  simp only [Oper.upon]
  refine hK _ _ (below_one _ _) ?_
  simp only [AV.rel, RV.rel]
  exact ⟨_, 0, 0, rfl, rfl, Nat.le_refl _, Nat.zero_le _, fun h => absurd h (by omega)⟩
end
end Go.Proofs.Ytnecoghfhcimeaa
/- The rules that a rule uses: both sides. -/
namespace Go.Proofs.Ytnecoghfhcimeaa
set_option linter.unusedSimpArgs false
set_option linter.unusedVariables false
open Go.RowKit
theorem good_kid {d : Des} (h : Good' d) {i : Nat} {r : Rul} (hr : d[i]? = some r) {j : Nat} {k : Int} (hk : r.kids[j]? = some k) : 0 ≤ k ∧ k < i := by
  have hi := (List.getElem?_eq_some_iff.1 hr).1
  obtain ⟨_, r', h1, h2⟩ := h.2.2 i hi
  rw [show ((i : Nat) : Int).toNat = i by rfl, hr] at h1; injection h1 with h1; subst h1
  exact h2.2.1 j k hk
end Go.Proofs.Ytnecoghfhcimeaa
/- With which bytes an encoding can begin: both sides. -/
namespace Go.Proofs.Ytnecoghfhcimeaa
set_option linter.unusedSimpArgs false
set_option linter.unusedVariables false
open Go.RowKit
noncomputable def stB (d : Des) : Nat → Nat → Nat → Bool
  | 0, _, _ => true
  | f + 1, r, b => match d[r]? with
    | none => true
    | some x => if x.kind = 2 then decide (b = (x.bytes.headD 0).toNat)
      else if x.kind = 6 ∨ x.kind = 9 then stB d f (x.kids.headD 0).toNat b
      else if x.kind = 7 then (match d[(x.kids.headD 0).toNat]? with
        | some y => x.tags.any fun t => decide (b = ((encI y t).headD 0).toNat)
        | none => true)
      else if x.kind = 8 then decide (b < 2)
      else true
theorem stB_at {d : Des} {f r b : Nat} {x : Rul} (h : d[r]? = some x) : stB d (f + 1) r b = (if x.kind = 2 then decide (b = (x.bytes.headD 0).toNat)
      else if x.kind = 6 ∨ x.kind = 9 then stB d f (x.kids.headD 0).toNat b
      else if x.kind = 7 then (match d[(x.kids.headD 0).toNat]? with
        | some y => x.tags.any fun t => decide (b = ((encI y t).headD 0).toNat)
        | none => true)
      else if x.kind = 8 then decide (b < 2)
      else true) := by rw [stB, h]
theorem good_at {d : Des} (hG : Good' d) {r : Nat} {x : Rul} (h : d[r]? = some x) : KindOk d x := by
  have hi := (List.getElem?_eq_some_iff.1 h).1
  obtain ⟨_, x', h1, h2⟩ := hG.2.2 r hi
  rw [show ((r : Nat) : Int).toNat = r by rfl, h] at h1; injection h1 with h1; subst h1
  exact h2.2.2.2
theorem head_kid {d : Des} (hG : Good' d) {r : Nat} {x : Rul} (h : d[r]? = some x) (hl : 0 < x.kids.length) : 0 ≤ x.kids.headD 0 ∧ x.kids.headD 0 < r :=
  good_kid hG h (j := 0) (head_at hl)
theorem stB_deep {d : Des} (hG : Good' d) {b : Nat} : ∀ (r : Nat), r < d.length → ∀ f, r < f → stB d f r b = stB d (r + 1) r b := by
  intro r
  induction r using Nat.strongRecOn with
  | _ r ih =>
    intro hr f hf
    obtain ⟨g, rfl⟩ : ∃ g, f = g + 1 := ⟨f - 1, by omega⟩
    obtain ⟨x, hx⟩ : ∃ x, d[r]? = some x := ⟨_, List.getElem?_eq_getElem hr⟩
    rw [stB_at hx, stB_at hx]
    by_cases h69 : x.kind = 6 ∨ x.kind = 9
    · have hkl : 0 < x.kids.length := by
        have hk := good_at hG hx
        unfold KindOk at hk
        rcases h69 with h | h
        · simp only [h] at hk
          simp only [show ¬ (6 : Int) = 1 by decide, show ¬ (6 : Int) = 2 by decide, show ¬ (6 : Int) = 3 by decide, show ¬ (6 : Int) = 4 by decide, show ¬ (6 : Int) = 5 by decide, show ¬ (6 : Int) = 7 by decide, show ¬ (6 : Int) = 8 by decide, show ¬ (6 : Int) = 9 by decide, show ¬ (6 : Int) = 10 by decide, false_and, false_or, or_false, true_and] at hk
          have := hk.1.kids (by omega); have := hk.2.1; omega
        · simp only [h] at hk
          simp only [show ¬ (9 : Int) = 1 by decide, show ¬ (9 : Int) = 2 by decide, show ¬ (9 : Int) = 3 by decide, show ¬ (9 : Int) = 4 by decide, show ¬ (9 : Int) = 5 by decide, show ¬ (9 : Int) = 7 by decide, show ¬ (9 : Int) = 8 by decide, show ¬ (9 : Int) = 6 by decide, show ¬ (9 : Int) = 10 by decide, false_and, false_or, or_false, true_and, or_true] at hk
          have := hk.kids (by omega); omega
      have hk := head_kid hG hx hkl
      have e1 := ih (x.kids.headD 0).toNat (by omega) (by omega) g (by omega)
      have e2 := ih (x.kids.headD 0).toNat (by omega) (by omega) r (by omega)
      rw [e1, e2]
    · rw [if_neg h69, if_neg h69]
theorem good_fields {d : Des} (hG : Good' d) {r : Nat} {x : Rul} (h : d[r]? = some x) :
    (x.kind = 2 → 0 < x.bytes.length) ∧ (x.kind = 6 ∨ x.kind = 9 ∨ x.kind = 8 ∨ x.kind = 4 ∨ x.kind = 5 ∨ x.kind = 7 → 0 < x.kids.length) ∧ (x.kind = 7 → TagsOk d x) := by
  have hk := good_at hG h
  unfold KindOk at hk
  refine ⟨fun e => ?_, fun e => ?_, fun e => ?_⟩
  · rcases hk with hk | hk | hk | hk | hk | hk | hk | hk | hk
    all_goals first | omega | (have := hk.2.2.1; omega)
  · rcases hk with hk | hk | hk | hk | hk | hk | hk | hk | hk
    all_goals first
      | omega
      | (have := hk.2.1.kids (by omega); have := hk.2.2.1; omega)
      | (have := hk.2.2.1; omega)
      | (have := hk.2.1.kids (by omega); omega)
      | (have := hk.2.kids (by omega); omega)
  · rcases hk with hk | hk | hk | hk | hk | hk | hk | hk | hk
    all_goals first | omega | exact hk.2.2
theorem tag_bytes {d : Des} (hG : Good' d) {r : Nat} {x : Rul} (h : d[r]? = some x) (h7 : x.kind = 7) : ∃ y, d[(x.kids.headD 0).toNat]? = some y ∧ 0 ≤ x.kids.headD 0 ∧ (x.kids.headD 0).toNat < d.length ∧ ∀ (i : Nat) t, x.tags[i]? = some t → 0 < (encI y t).length := by
  obtain ⟨_, hkl, ht⟩ := good_fields hG h
  have hk0 := head_kid hG h (hkl (.inr (.inr (.inr (.inr (.inr h7))))))
  have hr := (List.getElem?_eq_some_iff.1 h).1
  obtain ⟨y, hy⟩ : ∃ y, d[(x.kids.headD 0).toNat]? = some y := ⟨_, List.getElem?_eq_getElem (by omega)⟩
  refine ⟨y, hy, hk0.1, by omega, fun i t hi => ?_⟩
  have htt := (ht h7).2.2.2 i t hi
  have hlim : lim d (x.kids.headD 0) = if 0 ≤ x.kids.headD 0 ∧ y.kind = 1 ∧ 1 ≤ y.size ∧ y.size ≤ 4 then pow8 y.size - 1 else -1 := by unfold lim; rw [hy]
  by_cases hc : 0 ≤ x.kids.headD 0 ∧ y.kind = 1 ∧ 1 ≤ y.size ∧ y.size ≤ 4
  · rw [if_pos hc] at hlim
    have hf : Fit t y.size := ⟨hc.2.2.1, hc.2.2.2, htt.1, by omega⟩
    have hbl : 0 < (be t y.size).length := by unfold be; split <;> (try split) <;> (try split) <;> simp
    unfold encI
    split
    · rw [List.length_reverse, encBE_yes hf]; exact hbl
    · rw [encBE_yes hf]; exact hbl
  · rw [if_neg hc] at hlim; omega
theorem boolsR_congr {n : Nat} {u v : Nat → Bool} (h : ∀ j, j < n → u j = v j) : boolsR n u = boolsR n v := by
  unfold boolsR
  exact List.map_congr_left fun j hj => by rw [h j (List.mem_range.1 hj)]
end Go.Proofs.Ytnecoghfhcimeaa
/- A row made by a call, in a drawn region; the sum of bytes; integers' encodings are not empty. -/
namespace Go.Proofs.Ytnecoghfhcimeaa
set_option linter.unusedSimpArgs false
set_option linter.unusedVariables false
open Go.RowKit
open AV (Mem Keeps)
section
variable {P : Program} {C : Ctx} {t : Nat} {E : EE} {q : Nat} {ty : TypeId} {pos : String} {after : Array Edge}
theorem rels_evalE {m : Mem} {a : Act} : ∀ (xs : List Operand), (∀ x ∈ xs, AV.rel m (evE E x) (a.eval x)) → AV.rels m (xs.map (evE E)) (xs.map a.eval)
  | [], _ => by simp [AV.rels]
  | x :: xs, h => by
    simp only [List.map_cons, AV.rels]
    exact ⟨_, _, rfl, h x (by simp), rels_evalE xs fun y hy => h y (by simp [hy])⟩
theorem mk_call {f : FuncId} {fn : Func} {xs : Array Operand} {ats : Array TypeId} {args : List RV} {e : TypeId} {sz : Nat} {cs : List RV} [hfn : FN P f fn] (hf : AC P f args fun rr => rr = .row e sz cs) (hne : cs ≠ []) (ha : xs.toList.map (evE E) = args.map .ro) :
    MkN P C ⟨some t, .call { callee := .value (.func f), args := xs, argTypes := ats }, ty, pos, after, none⟩ E ⟨e, sz, cs.map .ro⟩ q (.own q) := by
  refine ⟨.inl rfl, fun a w φ σ hG hq hφ hH K Q hK => ?_⟩
  have hql : q < σ.length := (List.getElem?_eq_some_iff.1 hq).1
  have hlen : (σ.set q ⟨e, sz, cs.map .ro⟩).length = σ.length := by simp
  have h0 := rels_evalE (E := E) (a := a) (m := ⟨w, φ, σ, C.ok⟩) xs.toList fun x hx => hH x (by simp [Op.operands, Call.operands]; exact .inr (by simpa using hx))
  have hr := FitsL.rels (FitsL.ros args) _ (ha ▸ h0)
  unfold Oper.wp
  rw [execOp_call_go, run_call hfn]
  simp only [Oper.upon]
  refine (hf w _ _ (ok_args hG) (by simpa using hr)).mono ?_
  rintro e' w' ⟨u, rr', bs, rfl, rfl, h1, h2, h3, h4⟩
  obtain ⟨ps, p1, p2, p3⟩ := inst_rel _ u bs h1
  obtain ⟨p, rfl⟩ : ∃ p, ps = [p] := by
    cases ps with
    | nil => simp [obs] at p1
    | cons p l => cases l with
      | nil => exact ⟨p, rfl⟩
      | cons _ _ => simp [obs] at p1
  cases p with
  | none =>
    exfalso
    have hok : ∀ b, (AV.Mem.ok ⟨w, φ, σ, C.ok⟩ b ∧ b ∉ bs) → AV.Mem.ok ⟨w', φ, σ.set q ⟨e, sz, cs.map .ro⟩, C.ok⟩ b := fun b hb => ⟨hb.1.1, fun i hi => hb.1.2 i (by simp only [hlen] at hi; exact hi)⟩
    obtain ⟨_, q2⟩ := p3 ⟨w', φ, σ.set q ⟨e, sz, cs.map .ro⟩, C.ok⟩ q rfl hok ⟨fun j p hj => by
      cases j with
      | zero => simp at hj; subst hj; exact hφ
      | succ j => simp at hj, fun j o hj => by
      cases j with
      | zero => simp [obs] at hj; subst hj; simp [hql]
      | succ j => simp [obs] at hj⟩
    have := q2 0 ⟨e, sz, cs.map .ro⟩ rfl
    simp only [Nat.add_zero, hφ, ObRel] at this
    exact hne (by simpa using this)
  | some g =>
    have hbs : bs = [g] := by rw [p2]; rfl
    have hg := h3 g (by rw [hbs]; simp)
    have hok : ∀ b, (AV.Mem.ok ⟨w, φ, σ, C.ok⟩ b ∧ b ∉ bs) → AV.Mem.ok ⟨w', upd φ q (some g), σ.set q ⟨e, sz, cs.map .ro⟩, C.ok⟩ b := fun b hb => ⟨hb.1.1, fun i hi he => by
      simp only [hlen] at hi
      by_cases h : i = q
      · subst h; simp only [upd_eq, Option.some.injEq] at he; subst he; exact hb.2 (by rw [hbs]; simp)
      · simp only [upd_ne h] at he; exact hb.1.2 i hi he⟩
    obtain ⟨q1, q2⟩ := p3 ⟨w', upd φ q (some g), σ.set q ⟨e, sz, cs.map .ro⟩, C.ok⟩ q rfl hok ⟨fun j p hj => by
      cases j with
      | zero => simp at hj; subst hj; exact upd_eq
      | succ j => simp at hj, fun j o hj => by
      cases j with
      | zero => simp [obs] at hj; subst hj; simp [hql]
      | succ j => simp [obs] at hj⟩
    refine hK u w' g h4 hg.1 ?_ q1
    have := q2 0 ⟨e, sz, cs.map .ro⟩ rfl
    simpa [upd_eq] using this
end
theorem staged_one {r : RE} {n : Nat} {o : Oper} {v : AV} (h : r.pre = none) : staged [r] n o v := fun p r' hp hr => by
  cases p with
  | zero => simp at hp; subst hp; rw [h] at hr; cases hr
  | succ p => simp at hp
theorem encI_fit {y : Rul} {t : Int} (hf : Fit t y.size) : 1 ≤ (encI y t).length ∧ (encI y t).length ≤ 4 := by
  have hbl : 1 ≤ (be t y.size).length ∧ (be t y.size).length ≤ 4 := by unfold be; split <;> (try split) <;> (try split) <;> simp
  unfold encI
  split
  · rw [List.length_reverse, encBE_yes hf]; exact hbl
  · rw [encBE_yes hf]; exact hbl
theorem encI_len4 (r : Rul) (n : Int) : (encI r n).length ≤ 4 := by
  have h : (encBE n r.size).length ≤ 4 := by
    by_cases hf : Fit n r.size
    · rw [encBE_yes hf]
      unfold be
      repeat' split
      all_goals simp
    · rw [encBE_no hf]; simp
  unfold encI
  split
  · rw [List.length_reverse]; exact h
  · exact h
theorem u8_flats : ∀ l : List UInt8, (l.map fun z => [RV.u8 z]).flatten = l.map RV.u8 := fun l => by induction l <;> simp_all
set_option maxHeartbeats 4000000 in
theorem sumOfBytes_ac (b : List UInt8) (hb : b.length ≤ 1048576) : ∃ s : Int, 0 ≤ s ∧ s ≤ 255 ∧ ACv Try.prog 165 [bytesR b] (.int s) := by
  let S : Nat → Int := fun j => Nat.rec (motive := fun _ => Int) 0 (fun j s => (s + ((b.getD j 0).toNat : Int)) % 256) j
  have hS : ∀ j, 0 ≤ S j ∧ S j ≤ 255 := fun j => by
    cases j with
    | zero => exact ⟨Int.le_refl _, by show (0 : Int) ≤ 255; omega⟩
    | succ j =>
      show 0 ≤ (S j + ((b.getD j 0).toNat : Int)) % 256 ∧ (S j + ((b.getD j 0).toNat : Int)) % 256 ≤ 255
      omega
  have hbl : (b.map fun z => [RV.u8 z]).length = b.length := List.length_map ..
  refine ⟨S b.length, (hS _).1, (hS _).2, ?_⟩
  refine ac_enter Try.func165 rfl _ Try.ntmps165 (by simp) fun C hn hm => ?_
  repeat' (first
 | refine RunsL.step tabOk hn rfl ?_
 | refine RunsL.nil ?_
 | refine Runs.toRegion 30 rfl ?_
 | (refine Runs.ctls 30 rfl ?_; first | ((first | refine Runs.cond_yes rfl ?_ ?_ | refine Runs.cond_nno rfl ?_ ?_); · first | omega | rfl | assumption | (simp only [List.length_map]; omega)) | ((first | refine Runs.cond_no rfl ?_ ?_ | refine Runs.cond_nyes rfl ?_ ?_); · first | omega | rfl | assumption | (simp only [List.length_map]; omega)) | refine Runs.ret (ends_ro hm rfl rfl ?_) | exact Runs.ret (ends_cellR hm rfl rfl rfl (Nat.le_of_ble_eq_true rfl) rfl rfl))
 | (refine RunsL.pe hn rfl rfl rfl ?_; first
 | refine ⟨_, pu_add rfl rfl (by omega), ?_⟩
 | refine ⟨_, pu_indexAddr_map rfl rfl (by omega) (by assumption), ?_⟩
      ))
  refine Runs.loopN 30 rfl (fun j => [(0, .ro (bytesR b)), (3, .int (S j)), (4, .int (j : Int))]) (fun _ => []) (fun _ => True) b.length 0 (Nat.zero_le _) trivial ⟨rfl, rfl, rfl, trivial⟩ rfl fun j hj _ next => ?_
  by_cases hlt : j < b.length
  · obtain ⟨c, hc⟩ : ∃ c, b[(j : Int).toNat]? = some c := ⟨_, List.getElem?_eq_getElem hlt⟩
    have hc' : b[j]? = some c := hc
    have hcl := c.toNat_lt
    have hSj := hS j
    have e : S (j + 1) = (S j + (c.toNat : Int)) % 256 := by
      show (S j + ((b.getD j 0).toNat : Int)) % 256 = _
      rw [List.getD_eq_getElem?_getD, hc']; rfl
    repeat' (first
 | (refine RunsL.pe hn rfl rfl rfl ?_; first
 | refine ⟨_, pu_len_seqN b.length rfl hbl, ?_⟩)
 | refine RunsL.step tabOk hn rfl ?_
 | refine RunsL.nil ?_
 | refine Runs.toRegion 30 rfl ?_
 | (refine RunsL.pe hn rfl rfl rfl ?_; first
 | refine ⟨_, pu_ofU8 rfl, ?_⟩
 | refine ⟨_, pu_add rfl rfl (by omega), ?_⟩
 | refine ⟨_, pu_rem rfl rfl (by omega), ?_⟩)
 | (refine Runs.ctls 30 rfl ?_; first | ((first | refine Runs.cond_yes rfl ?_ ?_ | refine Runs.cond_nno rfl ?_ ?_); · first | omega | rfl | assumption | (simp only [List.length_map]; omega)) | ((first | refine Runs.cond_no rfl ?_ ?_ | refine Runs.cond_nyes rfl ?_ ?_); · first | omega | rfl | assumption | (simp only [List.length_map]; omega)) | refine Runs.ret (ends_ro hm rfl rfl ?_) | exact Runs.ret (ends_cellR hm rfl rfl rfl (Nat.le_of_ble_eq_true rfl) rfl rfl))
 | (refine RunsL.pe hn rfl rfl rfl ?_; first
 | refine ⟨_, pu_add rfl rfl (by omega), ?_⟩
 | refine ⟨_, pu_indexAddr_map rfl rfl (by omega) (by assumption), ?_⟩
        ))
    exact next _ _ ⟨rfl, av_int e.symm, rfl, trivial⟩ hlt trivial rfl
  · obtain rfl : j = b.length := by omega
    repeat' (first
 | (refine RunsL.pe hn rfl rfl rfl ?_; first
 | refine ⟨_, pu_len_seqN b.length rfl hbl, ?_⟩)
 | refine RunsL.step tabOk hn rfl ?_
 | refine RunsL.nil ?_
 | refine Runs.toRegion 30 rfl ?_
 | (refine Runs.ctls 30 rfl ?_; first | ((first | refine Runs.cond_yes rfl ?_ ?_ | refine Runs.cond_nno rfl ?_ ?_); · first | omega | rfl | assumption | (simp only [List.length_map]; omega)) | ((first | refine Runs.cond_no rfl ?_ ?_ | refine Runs.cond_nyes rfl ?_ ?_); · first | omega | rfl | assumption | (simp only [List.length_map]; omega)) | refine Runs.ret (ends_ro hm rfl rfl ?_) | exact Runs.ret (ends_cellR hm rfl rfl rfl (Nat.le_of_ble_eq_true rfl) rfl rfl))
 | (refine RunsL.pe hn rfl rfl rfl ?_; first
 | refine ⟨_, pu_add rfl rfl (by omega), ?_⟩
 | refine ⟨_, pu_indexAddr_map rfl rfl (by omega) (by assumption), ?_⟩
        ))
    exact rr_int rfl
end Go.Proofs.Ytnecoghfhcimeaa
/- The program's table of first bytes. -/
namespace Go.Proofs.Ytnecoghfhcimeaa
set_option linter.unusedSimpArgs false
set_option linter.unusedVariables false
open Go.RowKit
theorem rr_bools {n : Nat} {u v : Nat → Bool} (h : ∀ j, j < n → u j = v j) : RR.ro (.agg (boolsR n u)) = .ro (.agg (boolsR n v)) := by rw [boolsR_congr h]
theorem take_bools (n : Nat) (u : Nat → Bool) : ((bools n u).drop 0).take n = (boolsR n u).map .ro := by
  rw [List.drop_zero, List.take_of_length_le (by rw [bools_len]; exact Nat.le_refl _), bools_map]
noncomputable def tagB (y : Rul) (ts : List Int) : Nat → Bool := fun b => ts.any fun t => decide (b = ((encI y t).headD 0).toNat)
theorem tagB_next {y : Rul} {ts : List Int} {j : Nat} {t : Int} (h : ts[j]? = some t) : put1 (tagB y (ts.take j)) ((encI y t).headD 0).toNat true = tagB y (ts.take (j + 1)) := by
  funext b
  obtain ⟨hj, he⟩ := List.getElem?_eq_some_iff.1 h
  unfold put1 tagB
  rw [List.take_succ_eq_append_getElem hj, he]
  simp only [List.any_append, List.any_cons, List.any_nil, Bool.or_false]
  by_cases e : b = ((encI y t).headD 0).toNat
  · rw [if_pos e, decide_eq_true e, Bool.or_true]
  · rw [if_neg e, decide_eq_false e, Bool.or_false]
set_option maxHeartbeats 16000000 in
theorem startBytes_ac (d : Des) (ho : DesOk d) (hG : Good' d) : ∀ (r : Nat), r < d.length → ACv Try.prog 81 [desR d, .int (r : Int)] (.agg (boolsR 256 (stB d (r + 1) r))) := by
  intro r
  induction r using Nat.strongRecOn with
  | _ r ih =>
    intro hr
    have hlm : (d.map rulR).length = d.length := List.length_map ..
    have hl := hG.2.1
    obtain ⟨x, hx⟩ : ∃ x, d[(r : Int).toNat]? = some x := ⟨_, List.getElem?_eq_getElem (by simpa using hr)⟩
    have hx' : d[r]? = some x := hx
    obtain ⟨f2, fk, f7⟩ := good_fields hG hx'
    have hz := bools_zero 256
    have hst : ∀ b, stB d (r + 1) r b = _ := fun b => stB_at hx'
    refine ac_enter Try.func81 rfl _ Try.ntmps81 (by simp) fun C hn hm => ?_
    by_cases k2 : x.kind = 2
    · have hb0 := headB_at (f2 k2)
      have hlt := (x.bytes.headD 0).toNat_lt
      repeat' (first
 | refine op_store1 (n := 256) (u := fun _ => false) rfl rfl rfl hz (by omega) ?_
 | refine op_storeA (n := 256) rfl rfl rfl (by rw [List.length_map, List.length_replicate]) ?_
 | ((first | refine RunsL.pe hn rfl rfl rfl ?_ | refine RunsD.pe rfl rfl ?_); first
 | refine ⟨_, pu_loadA (tt := 100) (n := 256) rfl rfl rfl, ?_⟩)
 | refine RunsL.step tabOk hn rfl ?_
 | refine RunsL.nil ?_
 | refine Runs.toRegion 30 rfl ?_
 | ((first | refine RunsL.pe hn rfl rfl rfl ?_ | refine RunsD.pe rfl rfl ?_); first
 | refine ⟨_, pu_indexAddr_arr rfl rfl (by omega) (by omega), ?_⟩)
 | (refine Runs.ctls 30 rfl ?_; first | refine Runs.cond_t rfl ?_ | ((first | refine Runs.cond_yes rfl ?_ ?_ | refine Runs.cond_nno rfl ?_ ?_); · first | omega | rfl | assumption | (simp only [List.length_map]; omega)) | ((first | refine Runs.cond_no rfl ?_ ?_ | refine Runs.cond_nyes rfl ?_ ?_); · first | omega | rfl | assumption | (simp only [List.length_map]; omega)) | refine Runs.ret (ends_ro hm rfl rfl ?_) | exact Runs.ret (ends_cellR hm rfl rfl rfl (Nat.le_of_ble_eq_true rfl) rfl rfl))
 | refine op_box rfl (tl hn rfl) ?_
 | refine op_alloc (tl hn rfl) ?_
 | refine op_storeN rfl rfl rfl rfl (Nat.le_of_ble_eq_true rfl) ?_
 | ((first | refine RunsL.pe hn rfl rfl rfl ?_ | refine RunsD.pe rfl rfl ?_); first
 | refine ⟨_, pu_add rfl rfl (by omega), ?_⟩
 | refine ⟨_, pu_indexAddr_map rfl rfl (by omega) (by assumption), ?_⟩
 | refine ⟨_, pu_sub rfl rfl (by omega), ?_⟩
 | refine ⟨_, pu_pick_b rfl rfl rfl, ?_⟩
 | refine ⟨_, pu_mul rfl rfl (by omega), ?_⟩
 | refine ⟨_, pu_build rfl rfl rfl rfl rfl rfl, ?_⟩))
      refine Runs.ctls 30 rfl (Runs.ret (ends_cellR (rs := boolsR 256 _) hm rfl rfl rfl (Nat.le_of_eq (by rw [bools_len])) ?_ (take_bools 256 _)))
      refine rr_bools fun j hj => ?_
      rw [hst, if_pos k2]
      unfold put1
      have e : 0 + ((x.bytes.headD 0).toNat : Int).toNat * 1 = (x.bytes.headD 0).toNat := by omega
      rw [e]
      by_cases h : j = (x.bytes.headD 0).toNat <;> simp [h]
    by_cases k69 : x.kind = 6 ∨ x.kind = 9
    · have hkl := fk (by omega)
      have hk0 := head_at hkl
      have hkk := head_kid hG hx' hkl
      obtain ⟨c, hc⟩ : ∃ c : Nat, x.kids.headD 0 = c := ⟨(x.kids.headD 0).toNat, by omega⟩
      have hcall := ih c (by omega) (by omega)
      rw [hc] at hk0
      rcases k69 with k6 | k9
      all_goals
        repeat' (first
 | refine Runs.toDrawT (id := 13) 30 [] [0, 1, 2, 3, 4, 5] 6 [] mixed hn rfl (by kernel_rfl) rfl .nil (by decide) (by decide) (by decide) ?_
 | refine op_storeA (n := 256) rfl rfl rfl (by rw [List.length_map, List.length_replicate]) ?_
 | refine RunsT.nil ?_
 | refine RunsT.step tabOk rfl rfl (fun _ => rfl) (by decide) ?_
 | refine RunsT.pur (fun _ => pu_callR hcall rfl) (by decide) rfl rfl ?_
 | refine RunsT.pur (fun _ => pu_add rfl rfl (by omega)) (by decide) rfl rfl ?_
 | refine RunsT.pur (fun _ => pu_indexAddr_map rfl rfl (by omega) (by assumption)) (by decide) rfl rfl ?_
 | refine RunsL.step tabOk hn rfl ?_
 | refine RunsL.nil ?_
 | refine Runs.toRegion 30 rfl ?_
 | ((first | refine RunsL.pe hn rfl rfl rfl ?_ | refine RunsD.pe rfl rfl ?_); first
 | refine ⟨_, pu_callR hcall rfl, ?_⟩)
 | (refine Runs.ctls 30 rfl ?_; first | refine Runs.cond_t rfl ?_ | ((first | refine Runs.cond_yes rfl ?_ ?_ | refine Runs.cond_nno rfl ?_ ?_); · first | omega | rfl | assumption | (simp only [List.length_map]; omega)) | ((first | refine Runs.cond_no rfl ?_ ?_ | refine Runs.cond_nyes rfl ?_ ?_); · first | omega | rfl | assumption | (simp only [List.length_map]; omega)) | refine Runs.ret (ends_ro hm rfl rfl ?_) | exact Runs.ret (ends_cellR hm rfl rfl rfl (Nat.le_of_ble_eq_true rfl) rfl rfl))
 | refine op_box rfl (tl hn rfl) ?_
 | refine op_alloc (tl hn rfl) ?_
 | refine op_storeN rfl rfl rfl rfl (Nat.le_of_ble_eq_true rfl) ?_
 | ((first | refine RunsL.pe hn rfl rfl rfl ?_ | refine RunsD.pe rfl rfl ?_); first
 | refine ⟨_, pu_add rfl rfl (by omega), ?_⟩
 | refine ⟨_, pu_indexAddr_map rfl rfl (by omega) (by assumption), ?_⟩
 | refine ⟨_, pu_sub rfl rfl (by omega), ?_⟩
 | refine ⟨_, pu_pick_b rfl rfl rfl, ?_⟩
 | refine ⟨_, pu_mul rfl rfl (by omega), ?_⟩
 | refine ⟨_, pu_build rfl rfl rfl rfl rfl rfl, ?_⟩))
        refine Runs.ctls 30 rfl (Runs.ret (ends_cellR (rs := boolsR 256 _) hm rfl rfl rfl (Nat.le_of_eq (by rw [bools_len])) ?_ (take_bools 256 _)))
        refine rr_bools fun j hj => ?_
        rw [hst, if_neg k2, if_pos (by omega), hc]
        exact (stB_deep hG c (by omega) r (by omega)).symm
    by_cases k7 : x.kind = 7
    · obtain ⟨y, hy, hy0, hyl, htb⟩ := tag_bytes hG hx' k7
      have hkl := fk (by omega)
      have hk0 := head_at hkl
      have hto := (f7 k7).2.2.1
      repeat' (first
 | refine RunsL.step tabOk hn rfl ?_
 | refine RunsL.nil ?_
 | refine Runs.toRegion 30 rfl ?_
 | (refine Runs.ctls 30 rfl ?_; first | refine Runs.cond_t rfl ?_ | ((first | refine Runs.cond_yes rfl ?_ ?_ | refine Runs.cond_nno rfl ?_ ?_); · first | omega | rfl | assumption | (simp only [List.length_map]; omega)) | ((first | refine Runs.cond_no rfl ?_ ?_ | refine Runs.cond_nyes rfl ?_ ?_); · first | omega | rfl | assumption | (simp only [List.length_map]; omega)) | refine Runs.ret (ends_ro hm rfl rfl ?_) | exact Runs.ret (ends_cellR hm rfl rfl rfl (Nat.le_of_ble_eq_true rfl) rfl rfl))
 | refine op_box rfl (tl hn rfl) ?_
 | refine op_alloc (tl hn rfl) ?_
 | refine op_storeN rfl rfl rfl rfl (Nat.le_of_ble_eq_true rfl) ?_
 | ((first | refine RunsL.pe hn rfl rfl rfl ?_ | refine RunsD.pe rfl rfl ?_); first
 | refine ⟨_, pu_add rfl rfl (by omega), ?_⟩
 | refine ⟨_, pu_indexAddr_map rfl rfl (by omega) (by assumption), ?_⟩
 | refine ⟨_, pu_sub rfl rfl (by omega), ?_⟩
 | refine ⟨_, pu_pick_b rfl rfl rfl, ?_⟩
 | refine ⟨_, pu_mul rfl rfl (by omega), ?_⟩
 | refine ⟨_, pu_build rfl rfl rfl rfl rfl rfl, ?_⟩))
      refine Runs.loopN 30 rfl (fun j => [(2, .obj 0 0), (4, .obj 1 0), (5, .obj 2 0), (6, .obj 3 0), (42, .ro (intsR x.tags)), (43, .int (x.tags.length : Int)), (44, .int (j : Int))]) (fun j => [⟨38, 0, [.ro (rulsR d)]⟩, ⟨100, 0, (List.replicate 256 (Value.bool false)).map fun v => .ro (.c v)⟩, ⟨100, 0, bools 256 (tagB y (x.tags.take j))⟩, ⟨52, 0, [.str x.name, .int x.kind, .int x.size, .bool x.little, .ro (bytesR x.bytes), .ro (strsR x.names), .ro (intsR x.tags), .ro (intsR x.kids)]⟩]) (fun _ => True) x.tags.length 0 (Nat.zero_le _) trivial ⟨rfl, rfl, rfl, rfl, rfl, by simp [look], rfl, trivial⟩ (by rw [hz, show tagB y (x.tags.take 0) = fun _ => false from rfl]; rfl) fun j hj _ next => ?_
      by_cases hlt : j < x.tags.length
      · obtain ⟨t, ht⟩ : ∃ t, x.tags[(j : Int).toNat]? = some t := ⟨_, List.getElem?_eq_getElem hlt⟩
        have ht' : x.tags[j]? = some t := ht
        have henc := (impl_encodeInteger y t).shut (r := bytesR (encI y t)) (by rintro _ rfl; exact seals_bytes _ _)
        have hhd := headB_at (htb j t ht')
        have hc := ((encI y t).headD 0).toNat_lt
        repeat' (first
 | refine Runs.toDrawT (id := 18) 30 [] [0, 1, 2, 3, 4, 5, 6, 7, 8, 9, 10, 11, 12] 13 [] mixed hn rfl (by kernel_rfl) rfl .nil (by decide) (by decide) (by decide) ?_
 | refine op_store1 (n := 256) rfl rfl rfl rfl (by omega) ?_
 | refine RunsT.nil ?_
 | refine RunsT.step tabOk rfl rfl (fun _ => rfl) (by decide) ?_
 | refine RunsT.pur (fun _ => pu_callR henc rfl) (by decide) rfl rfl ?_
 | refine RunsT.pur (fun _ => pu_indexAddr_arr rfl rfl (by omega) (by omega)) (by decide) rfl rfl ?_
 | refine RunsT.pur (fun _ => pu_add rfl rfl (by omega)) (by decide) rfl rfl ?_
 | refine RunsT.pur (fun _ => pu_indexAddr_map rfl rfl (by omega) (by assumption)) (by decide) rfl rfl ?_
 | refine RunsL.step tabOk hn rfl ?_
 | refine RunsL.nil ?_
 | refine Runs.toRegion 30 rfl ?_
 | ((first | refine RunsL.pe hn rfl rfl rfl ?_ | refine RunsD.pe rfl rfl ?_); first
 | refine ⟨_, pu_callR henc rfl, ?_⟩
 | refine ⟨_, pu_indexAddr_arr rfl rfl (by omega) (by omega), ?_⟩)
 | (refine Runs.ctls 30 rfl ?_; first | refine Runs.cond_t rfl ?_ | ((first | refine Runs.cond_yes rfl ?_ ?_ | refine Runs.cond_nno rfl ?_ ?_); · first | omega | rfl | assumption | (simp only [List.length_map]; omega)) | ((first | refine Runs.cond_no rfl ?_ ?_ | refine Runs.cond_nyes rfl ?_ ?_); · first | omega | rfl | assumption | (simp only [List.length_map]; omega)) | refine Runs.ret (ends_ro hm rfl rfl ?_) | exact Runs.ret (ends_cellR hm rfl rfl rfl (Nat.le_of_ble_eq_true rfl) rfl rfl))
 | refine op_box rfl (tl hn rfl) ?_
 | refine op_alloc (tl hn rfl) ?_
 | refine op_storeN rfl rfl rfl rfl (Nat.le_of_ble_eq_true rfl) ?_
 | ((first | refine RunsL.pe hn rfl rfl rfl ?_ | refine RunsD.pe rfl rfl ?_); first
 | refine ⟨_, pu_add rfl rfl (by omega), ?_⟩
 | refine ⟨_, pu_indexAddr_map rfl rfl (by omega) (by assumption), ?_⟩
 | refine ⟨_, pu_sub rfl rfl (by omega), ?_⟩
 | refine ⟨_, pu_pick_b rfl rfl rfl, ?_⟩
 | refine ⟨_, pu_mul rfl rfl (by omega), ?_⟩
 | refine ⟨_, pu_build rfl rfl rfl rfl rfl rfl, ?_⟩))
        refine next _ _ ⟨rfl, rfl, rfl, rfl, rfl, rfl, rfl, trivial⟩ hlt trivial ?_
        rw [← tagB_next ht']
        have e : 0 + (((encI y t).headD 0).toNat : Int).toNat * 1 = ((encI y t).headD 0).toNat := by omega
        rw [e]
        rfl
      · obtain rfl : j = x.tags.length := by omega
        rw [List.take_length]
        repeat' (first
 | refine op_storeA (n := 256) rfl rfl rfl (by rw [List.length_map, List.length_replicate]) ?_
 | ((first | refine RunsL.pe hn rfl rfl rfl ?_ | refine RunsD.pe rfl rfl ?_); first
 | refine ⟨_, pu_loadA (tt := 100) (n := 256) rfl rfl rfl, ?_⟩)
 | refine RunsL.step tabOk hn rfl ?_
 | refine RunsL.nil ?_
 | refine Runs.toRegion 30 rfl ?_
 | (refine Runs.ctls 30 rfl ?_; first | refine Runs.cond_t rfl ?_ | ((first | refine Runs.cond_yes rfl ?_ ?_ | refine Runs.cond_nno rfl ?_ ?_); · first | omega | rfl | assumption | (simp only [List.length_map]; omega)) | ((first | refine Runs.cond_no rfl ?_ ?_ | refine Runs.cond_nyes rfl ?_ ?_); · first | omega | rfl | assumption | (simp only [List.length_map]; omega)) | refine Runs.ret (ends_ro hm rfl rfl ?_) | exact Runs.ret (ends_cellR hm rfl rfl rfl (Nat.le_of_ble_eq_true rfl) rfl rfl))
 | refine op_box rfl (tl hn rfl) ?_
 | refine op_alloc (tl hn rfl) ?_
 | refine op_storeN rfl rfl rfl rfl (Nat.le_of_ble_eq_true rfl) ?_
 | ((first | refine RunsL.pe hn rfl rfl rfl ?_ | refine RunsD.pe rfl rfl ?_); first
 | refine ⟨_, pu_add rfl rfl (by omega), ?_⟩
 | refine ⟨_, pu_indexAddr_map rfl rfl (by omega) (by assumption), ?_⟩
 | refine ⟨_, pu_sub rfl rfl (by omega), ?_⟩
 | refine ⟨_, pu_pick_b rfl rfl rfl, ?_⟩
 | refine ⟨_, pu_mul rfl rfl (by omega), ?_⟩
 | refine ⟨_, pu_build rfl rfl rfl rfl rfl rfl, ?_⟩))
        refine Runs.ctls 30 rfl (Runs.ret (ends_cellR (rs := boolsR 256 _) hm rfl rfl rfl (Nat.le_of_eq (by rw [bools_len])) ?_ (take_bools 256 _)))
        refine rr_bools fun b hb => ?_
        rw [hst, if_neg k2, if_neg k69, if_pos k7, hy]
        rfl
    by_cases k8 : x.kind = 8
    · repeat' (first
 | refine op_store1 (n := 256) (u := fun _ => false) rfl rfl rfl hz (by decide) ?_
 | refine op_store1 (n := 256) rfl rfl rfl rfl (by decide) ?_
 | refine op_storeA (n := 256) rfl rfl rfl (by rw [List.length_map, List.length_replicate]) ?_
 | ((first | refine RunsL.pe hn rfl rfl rfl ?_ | refine RunsD.pe rfl rfl ?_); first
 | refine ⟨_, pu_loadA (tt := 100) (n := 256) rfl rfl rfl, ?_⟩)
 | refine RunsL.step tabOk hn rfl ?_
 | refine RunsL.nil ?_
 | refine Runs.toRegion 30 rfl ?_
 | ((first | refine RunsL.pe hn rfl rfl rfl ?_ | refine RunsD.pe rfl rfl ?_); first
 | refine ⟨_, pu_indexAddr_arr rfl rfl (by omega) (by omega), ?_⟩)
 | (refine Runs.ctls 30 rfl ?_; first | refine Runs.cond_t rfl ?_ | ((first | refine Runs.cond_yes rfl ?_ ?_ | refine Runs.cond_nno rfl ?_ ?_); · first | omega | rfl | assumption | (simp only [List.length_map]; omega)) | ((first | refine Runs.cond_no rfl ?_ ?_ | refine Runs.cond_nyes rfl ?_ ?_); · first | omega | rfl | assumption | (simp only [List.length_map]; omega)) | refine Runs.ret (ends_ro hm rfl rfl ?_) | exact Runs.ret (ends_cellR hm rfl rfl rfl (Nat.le_of_ble_eq_true rfl) rfl rfl))
 | refine op_box rfl (tl hn rfl) ?_
 | refine op_alloc (tl hn rfl) ?_
 | refine op_storeN rfl rfl rfl rfl (Nat.le_of_ble_eq_true rfl) ?_
 | ((first | refine RunsL.pe hn rfl rfl rfl ?_ | refine RunsD.pe rfl rfl ?_); first
 | refine ⟨_, pu_add rfl rfl (by omega), ?_⟩
 | refine ⟨_, pu_indexAddr_map rfl rfl (by omega) (by assumption), ?_⟩
 | refine ⟨_, pu_sub rfl rfl (by omega), ?_⟩
 | refine ⟨_, pu_pick_b rfl rfl rfl, ?_⟩
 | refine ⟨_, pu_mul rfl rfl (by omega), ?_⟩
 | refine ⟨_, pu_build rfl rfl rfl rfl rfl rfl, ?_⟩))
      refine Runs.ctls 30 rfl (Runs.ret (ends_cellR (rs := boolsR 256 _) hm rfl rfl rfl (Nat.le_of_eq (by rw [bools_len])) ?_ (take_bools 256 _)))
      refine rr_bools fun j hj => ?_
      rw [hst, if_neg k2, if_neg k69, if_neg k7, if_pos k8]
      unfold put1
      by_cases h0 : j = 0
      · subst h0; rfl
      · by_cases h1 : j = 1
        · subst h1; rfl
        · have : ¬ j < 2 := by omega
          simp [this]
          omega
    · repeat' (first
 | refine RunsL.step tabOk hn rfl ?_
 | refine RunsL.nil ?_
 | refine Runs.toRegion 30 rfl ?_
 | (refine Runs.ctls 30 rfl ?_; first | refine Runs.cond_t rfl ?_ | ((first | refine Runs.cond_yes rfl ?_ ?_ | refine Runs.cond_nno rfl ?_ ?_); · first | omega | rfl | assumption | (simp only [List.length_map]; omega)) | ((first | refine Runs.cond_no rfl ?_ ?_ | refine Runs.cond_nyes rfl ?_ ?_); · first | omega | rfl | assumption | (simp only [List.length_map]; omega)) | refine Runs.ret (ends_ro hm rfl rfl ?_) | exact Runs.ret (ends_cellR hm rfl rfl rfl (Nat.le_of_ble_eq_true rfl) rfl rfl))
 | refine op_box rfl (tl hn rfl) ?_
 | refine op_alloc (tl hn rfl) ?_
 | refine op_storeN rfl rfl rfl rfl (Nat.le_of_ble_eq_true rfl) ?_
 | ((first | refine RunsL.pe hn rfl rfl rfl ?_ | refine RunsD.pe rfl rfl ?_); first
 | refine ⟨_, pu_add rfl rfl (by omega), ?_⟩
 | refine ⟨_, pu_indexAddr_map rfl rfl (by omega) (by assumption), ?_⟩
 | refine ⟨_, pu_sub rfl rfl (by omega), ?_⟩
 | refine ⟨_, pu_pick_b rfl rfl rfl, ?_⟩
 | refine ⟨_, pu_mul rfl rfl (by omega), ?_⟩
 | refine ⟨_, pu_build rfl rfl rfl rfl rfl rfl, ?_⟩))
      refine Runs.loopN 30 rfl (fun j => [(2, .obj 0 0), (4, .obj 1 0), (5, .obj 2 0), (6, .obj 3 0), (17, .int (j : Int))]) (fun j => [⟨38, 0, [.ro (rulsR d)]⟩, ⟨100, 0, (List.replicate 256 (Value.bool false)).map fun v => .ro (.c v)⟩, ⟨100, 0, bools 256 (fun b => decide (b < j))⟩, ⟨52, 0, [.str x.name, .int x.kind, .int x.size, .bool x.little, .ro (bytesR x.bytes), .ro (strsR x.names), .ro (intsR x.tags), .ro (intsR x.kids)]⟩]) (fun _ => True) 256 0 (Nat.zero_le _) trivial ⟨rfl, rfl, rfl, rfl, rfl, trivial⟩ (by rw [hz, show (fun b : Nat => decide (b < 0)) = fun _ => false by funext b; simp]; rfl) fun j hj _ next => ?_
      by_cases hlt : j < 256
      · repeat' (first
 | (refine Runs.ctls 30 rfl ?_; first | refine Runs.cond_yes rfl (by omega) ?_ | refine Runs.cond_no rfl (by omega) ?_)
 | refine op_store1 (n := 256) rfl rfl rfl rfl (by omega) ?_
 | refine RunsL.step tabOk hn rfl ?_
 | refine RunsL.nil ?_
 | refine Runs.toRegion 30 rfl ?_
 | ((first | refine RunsL.pe hn rfl rfl rfl ?_ | refine RunsD.pe rfl rfl ?_); first
 | refine ⟨_, pu_indexAddr_arr rfl rfl (by omega) (by omega), ?_⟩)
 | (refine Runs.ctls 30 rfl ?_; first | refine Runs.cond_t rfl ?_ | ((first | refine Runs.cond_yes rfl ?_ ?_ | refine Runs.cond_nno rfl ?_ ?_); · first | omega | rfl | assumption | (simp only [List.length_map]; omega)) | ((first | refine Runs.cond_no rfl ?_ ?_ | refine Runs.cond_nyes rfl ?_ ?_); · first | omega | rfl | assumption | (simp only [List.length_map]; omega)) | refine Runs.ret (ends_ro hm rfl rfl ?_) | exact Runs.ret (ends_cellR hm rfl rfl rfl (Nat.le_of_ble_eq_true rfl) rfl rfl))
 | refine op_box rfl (tl hn rfl) ?_
 | refine op_alloc (tl hn rfl) ?_
 | refine op_storeN rfl rfl rfl rfl (Nat.le_of_ble_eq_true rfl) ?_
 | ((first | refine RunsL.pe hn rfl rfl rfl ?_ | refine RunsD.pe rfl rfl ?_); first
 | refine ⟨_, pu_add rfl rfl (by omega), ?_⟩
 | refine ⟨_, pu_indexAddr_map rfl rfl (by omega) (by assumption), ?_⟩
 | refine ⟨_, pu_sub rfl rfl (by omega), ?_⟩
 | refine ⟨_, pu_pick_b rfl rfl rfl, ?_⟩
 | refine ⟨_, pu_mul rfl rfl (by omega), ?_⟩
 | refine ⟨_, pu_build rfl rfl rfl rfl rfl rfl, ?_⟩))
        refine next _ _ ⟨rfl, rfl, rfl, rfl, rfl, trivial⟩ hlt trivial ?_
        have e : 0 + (j : Int).toNat * 1 = j := by omega
        rw [e, show (fun b : Nat => decide (b < j + 1)) = put1 (fun b => decide (b < j)) j true by
          funext b
          unfold put1
          by_cases h : b = j
          · simp [h]
          · rw [if_neg h]
            exact decide_eq_decide.2 ⟨fun _ => by omega, fun _ => by omega⟩]
        rfl
      · obtain rfl : j = 256 := by omega
        repeat' (first
 | (refine Runs.ctls 30 rfl ?_; first | refine Runs.cond_yes rfl (by omega) ?_ | refine Runs.cond_no rfl (by omega) ?_)
 | refine op_storeA (n := 256) rfl rfl rfl (by rw [List.length_map, List.length_replicate]) ?_
 | ((first | refine RunsL.pe hn rfl rfl rfl ?_ | refine RunsD.pe rfl rfl ?_); first
 | refine ⟨_, pu_loadA (tt := 100) (n := 256) rfl rfl rfl, ?_⟩)
 | refine RunsL.step tabOk hn rfl ?_
 | refine RunsL.nil ?_
 | refine Runs.toRegion 30 rfl ?_
 | (refine Runs.ctls 30 rfl ?_; first | refine Runs.cond_t rfl ?_ | ((first | refine Runs.cond_yes rfl ?_ ?_ | refine Runs.cond_nno rfl ?_ ?_); · first | omega | rfl | assumption | (simp only [List.length_map]; omega)) | ((first | refine Runs.cond_no rfl ?_ ?_ | refine Runs.cond_nyes rfl ?_ ?_); · first | omega | rfl | assumption | (simp only [List.length_map]; omega)) | refine Runs.ret (ends_ro hm rfl rfl ?_) | exact Runs.ret (ends_cellR hm rfl rfl rfl (Nat.le_of_ble_eq_true rfl) rfl rfl))
 | refine op_box rfl (tl hn rfl) ?_
 | refine op_alloc (tl hn rfl) ?_
 | refine op_storeN rfl rfl rfl rfl (Nat.le_of_ble_eq_true rfl) ?_
 | ((first | refine RunsL.pe hn rfl rfl rfl ?_ | refine RunsD.pe rfl rfl ?_); first
 | refine ⟨_, pu_add rfl rfl (by omega), ?_⟩
 | refine ⟨_, pu_indexAddr_map rfl rfl (by omega) (by assumption), ?_⟩
 | refine ⟨_, pu_sub rfl rfl (by omega), ?_⟩
 | refine ⟨_, pu_pick_b rfl rfl rfl, ?_⟩
 | refine ⟨_, pu_mul rfl rfl (by omega), ?_⟩
 | refine ⟨_, pu_build rfl rfl rfl rfl rfl rfl, ?_⟩))
        refine Runs.ctls 30 rfl (Runs.ret (ends_cellR (rs := boolsR 256 _) hm rfl rfl rfl (Nat.le_of_eq (by rw [bools_len])) ?_ (take_bools 256 _)))
        refine rr_bools fun b hb => ?_
        rw [hst, if_neg k2, if_neg k69, if_neg k7, if_neg k8]
        simpa using hb
end Go.Proofs.Ytnecoghfhcimeaa
/- spec.l11Print: bytes that begin as the rule says. -/
namespace Go.Proofs.Ytnecoghfhcimeaa
set_option linter.unusedSimpArgs false
set_option linter.unusedVariables false
open Go.RowKit
open AV (Mem Keeps)
structure Prt (d : Des) (r : Nat) (v : Tre) (bs : List UInt8) : Prop where
  pos : 1 ≤ bs.length
  most : bs.length ≤ 4 * v.count + 2 * v.weight
  first : stB d (r + 1) r (bs.headD 0).toNat = true
theorem pick_items (P : Nat → Tre → List UInt8 → Prop) : ∀ (l : List Tre) (n : Nat), (∀ (j : Nat) y, l[j]? = some y → ∃ bs, P (n + j) y bs) → ∃ ws : List (List UInt8), ws.length = l.length ∧ ∀ (j : Nat) y bs, l[j]? = some y → ws[j]? = some bs → P (n + j) y bs
  | [], _, _ => ⟨[], rfl, by simp⟩
  | y :: l, n, h => by
    obtain ⟨bs, hb⟩ := h 0 y rfl
    obtain ⟨ws, h1, h2⟩ := pick_items P l (n + 1) fun j y hj => by
      have := h (j + 1) y (by simpa using hj)
      rwa [show n + (j + 1) = n + 1 + j by omega] at this
    refine ⟨bs :: ws, by simp [h1], fun j y' bs' hj hj' => ?_⟩
    cases j with
    | zero => simp at hj hj'; subst hj; subst hj'; exact hb
    | succ j =>
      simp at hj hj'
      have := h2 j y' bs' hj hj'
      rwa [show n + 1 + j = n + (j + 1) by omega] at this
theorem flat_most (l : List Tre) : ∀ ws : List (List UInt8), ws.length = l.length → (∀ (j : Nat) y bs, l[j]? = some y → ws[j]? = some bs → bs.length ≤ 4 * y.count + 2 * y.weight) → ws.flatten.length ≤ 4 * (l.map Tre.count).sum + 2 * (l.map Tre.weight).sum := by
  induction l with
  | nil => intro ws h _; simp at h; subst h; simp
  | cons y l ih =>
    intro ws h hw
    cases ws with
    | nil => simp at h
    | cons bs ws =>
      have h1 := hw 0 y bs rfl rfl
      have h2 := ih ws (by simpa using h) fun j y bs hj hj' => hw (j + 1) y bs (by simpa using hj) (by simpa using hj')
      simp only [List.flatten_cons, List.length_append, List.map_cons, List.sum_cons]
      omega
theorem flat_take_le (ws : List (List UInt8)) (j : Nat) : (ws.take j).flatten.length ≤ ws.flatten.length := by
  have h := congrArg (fun l : List (List UInt8) => l.flatten.length) (List.take_append_drop j ws)
  simp only [List.flatten_append, List.length_append] at h
  omega
theorem flat_take_next {ws : List (List UInt8)} {j : Nat} {bs : List UInt8} (h : ws[j]? = some bs) : (ws.take (j + 1)).flatten = (ws.take j).flatten ++ bs := by
  rw [List.take_add_one, h, List.flatten_append]
  simp
def escN (t0 : UInt8) (l : List UInt8) : List UInt8 := l.flatMap fun c => if c = t0 ∨ c = 92 then [92, c] else [c]
theorem escN_next {t0 : UInt8} {l : List UInt8} {j : Nat} {c : UInt8} (h : l[j]? = some c) : escN t0 (l.take (j + 1)) = escN t0 (l.take j) ++ (if c = t0 ∨ c = 92 then [92, c] else [c]) := by
  unfold escN
  rw [List.take_add_one, h, List.flatMap_append]
  simp
theorem escN_len (t0 : UInt8) (l : List UInt8) : (escN t0 l).length ≤ 2 * l.length := by
  induction l with
  | nil => simp [escN]
  | cons c l ih =>
    simp only [escN, List.flatMap_cons, List.length_append, List.length_cons] at *
    split <;> simp only [List.length_cons, List.length_nil] <;> omega
def prS (d : Des) (x : Rul) (v : Tre) (l : List UInt8) : List Ob := [⟨38, 0, [.ro (rulsR d)]⟩, ⟨29, 0, [.int v.number, .ro (bytesR v.bytes), .ro (tresR v.items)]⟩, ⟨52, 0, (rulR x).map .ro⟩, ⟨5, 1, (l.map RV.u8).map .ro⟩]
set_option maxHeartbeats 16000000 in
theorem print_walk {d : Des} (hD : DrawD d) (v : Tre) (hvo : v.Ok) (ht : v.total ≤ 20000) (r : Nat) (x : Rul) (hx : d[(r : Int).toNat]? = some x) (hv : Vld d r v) (ws : List (List UInt8)) (hwl : ws.length = v.items.length) (hfl : ws.flatten.length ≤ 200000)
    (hw : ∀ (j : Nat) y bs, v.items[j]? = some y → ws[j]? = some bs → ACv Try.prog 139 [desR d, .int (itemR x v.number j), treR y] (bytesR bs)) (out : List UInt8)
    (hout : (x.kind = 1 ∧ out = encI x v.number ∧ out ≠ []) ∨ (x.kind = 2 ∧ out = x.bytes) ∨ (x.kind = 3 ∧ out = v.bytes) ∨ (∃ z y, x.kind = 4 ∧ x.kids[(0 : Int).toNat]? = some z ∧ d[z.toNat]? = some y ∧ 0 ≤ z ∧ out = encI y v.bytes.length ++ v.bytes ∧ encI y v.bytes.length ≠ [])
      ∨ (∃ z y, x.kind = 5 ∧ x.kids[(0 : Int).toNat]? = some z ∧ d[z.toNat]? = some y ∧ 0 ≤ z ∧ out = encI y v.items.length ++ ws.flatten ∧ encI y v.items.length ≠ []) ∨ (x.kind = 6 ∧ out = ws.flatten)
      ∨ (∃ z y, x.kind = 7 ∧ x.kids[(0 : Int).toNat]? = some z ∧ d[z.toNat]? = some y ∧ 0 ≤ z ∧ out = encI y v.number ++ ws.flatten ∧ encI y v.number ≠ []) ∨ (x.kind = 8 ∧ out = u8i v.items.length :: ws.flatten)
      ∨ (∃ s, x.kind = 9 ∧ ACv Try.prog 165 [bytesR ws.flatten] (.int s) ∧ out = ws.flatten ++ [u8i s]) ∨ (∃ t0, x.kind = 10 ∧ x.bytes[(0 : Int).toNat]? = some t0 ∧ ws.flatten = [] ∧ out = escN t0 v.bytes ++ [t0])) :
    ACv Try.prog 139 [desR d, .int (r : Int), treR v] (bytesR out) := by
  have hx' : d[r]? = some x := hx
  have hk := kind_at hD.good hx'
  have hni : (v.items.map Tre.cells).length = v.items.length := List.length_map ..
  have hnb : (v.bytes.map fun z => [RV.u8 z]).length = v.bytes.length := List.length_map ..
  have hnx : (x.bytes.map fun z => [RV.u8 z]).length = x.bytes.length := List.length_map ..
  have he := v.total_eq
  refine ac_enter Try.func139 rfl _ Try.ntmps139 (by simp) fun C hn hm => ?_
  repeat' (first
 | refine op_build0 (tl hn rfl) ?_
 | refine RunsL.step tabOk hn rfl ?_
 | refine RunsL.nil ?_
 | refine Runs.toRegion 30 rfl ?_
 | (refine Runs.ctls 30 rfl ?_; first | refine Runs.cond_t rfl ?_ | ((first | refine Runs.cond_yes rfl ?_ ?_ | refine Runs.cond_nno rfl ?_ ?_); · first | omega | rfl | assumption | (simp only [List.length_map]; omega)) | ((first | refine Runs.cond_no rfl ?_ ?_ | refine Runs.cond_nyes rfl ?_ ?_); · first | omega | rfl | assumption | (simp only [List.length_map]; omega)) | refine Runs.ret (ends_ro hm rfl rfl ?_) | exact Runs.ret (ends_cellR hm rfl rfl rfl (Nat.le_of_ble_eq_true rfl) rfl rfl))
 | refine op_box rfl (tl hn rfl) ?_
 | refine op_alloc (tl hn rfl) ?_
 | refine op_storeN rfl rfl rfl rfl (Nat.le_of_ble_eq_true rfl) ?_
 | refine RunsD.step tabOk hn rfl rfl ?_
 | refine RunsD.nil ?_
 | refine Runs.toDraw 30 mixed hn rfl (by kernel_rfl) rfl ?_
 | ((first | refine RunsL.pe hn rfl rfl rfl ?_ | refine RunsD.pe rfl rfl ?_); first
 | refine ⟨_, pu_add rfl rfl (by omega), ?_⟩
 | refine ⟨_, pu_indexAddr_map rfl rfl (by omega) (by assumption), ?_⟩
 | refine ⟨_, pu_sub rfl rfl (by omega), ?_⟩
 | refine ⟨_, pu_pick_b rfl rfl rfl, ?_⟩
 | refine ⟨_, pu_mul rfl rfl (by omega), ?_⟩
 | refine ⟨_, pu_build rfl rfl rfl rfl rfl rfl, ?_⟩)
 | ((first | refine RunsL.guard_dec rfl rfl rfl ?_ ?_ | refine RunsL.guard_ndec rfl rfl rfl ?_ ?_ | refine RunsL.guard_nb rfl rfl rfl ?_ ?_ | refine RunsL.guard_b rfl rfl rfl ?_ ?_ | refine RunsD.guard_dec rfl rfl rfl ?_ ?_ | refine RunsD.guard_ndec rfl rfl rfl ?_ ?_ | refine RunsD.guard_nb rfl rfl rfl ?_ ?_ | refine RunsD.guard_b rfl rfl rfl ?_ ?_) <;> intro h <;> try (exfalso; first | omega | contradiction | (simp only [List.length_map] at h; omega))))
  refine Runs.loopN 30 rfl (fun j => [(1, .int r), (3, .obj 0 0), (5, .obj 1 0), (7, .obj 2 0), (8, .own 3), (9, .int (j : Int))]) (fun j => prS d x v (ws.take j).flatten) (fun _ => True) v.items.length 0 (Nat.zero_le _) trivial ⟨rfl, rfl, rfl, rfl, rfl, rfl, trivial⟩ rfl fun j hj _ next => ?_
  by_cases hlt : j < v.items.length
  · obtain ⟨y, hy⟩ : ∃ y, v.items[(j : Int).toNat]? = some y := ⟨_, List.getElem?_eq_getElem hlt⟩
    have hy' : v.items[j]? = some y := hy
    obtain ⟨bs, hbs⟩ : ∃ bs, ws[j]? = some bs := ⟨_, List.getElem?_eq_getElem (by omega)⟩
    have hcall := hw j y bs hy' hbs
    have hI := l9Item_ac hk v.number j (by omega)
    have hle := flat_take_le ws (j + 1)
    rw [flat_take_next hbs, List.length_append] at hle
    repeat' (first
 | refine Runs.toDrawT (id := 6) 30 [] [0, 1, 2, 3, 4, 5, 6, 7, 8, 9, 10, 11, 12] 13 [] mixed hn rfl (by kernel_rfl) rfl .nil (by decide) (by decide) (by decide) ?_
 | refine RunsT.nil ?_
 | refine RunsT.pur (fun _ => pu_len_seqN v.items.length rfl hni) (by decide) rfl rfl ?_
 | refine RunsT.nil ?_
 | refine RunsT.step tabOk rfl rfl (fun _ => rfl) (by decide) ?_
 | refine RunsT.pur (fun _ => pu_callR hI rfl) (by decide) rfl rfl ?_
 | refine RunsT.pur (fun _ => pu_loadN_eq rfl (Tre.cells_eq _) rfl) (by decide) rfl rfl ?_
 | refine RunsT.pur (fun _ => pu_callR hcall rfl) (by decide) rfl rfl ?_
 | refine RunsT.pur (fun _ => pu_add rfl rfl (by omega)) (by decide) rfl rfl ?_
 | refine RunsT.pur (fun _ => pu_indexAddr_map rfl rfl (by omega) (by assumption)) (by decide) rfl rfl ?_
 | ((first | refine RunsL.pe hn rfl rfl rfl ?_ | refine RunsD.pe rfl rfl ?_); first
 | refine ⟨_, pu_len_seqN v.items.length rfl hni, ?_⟩)
 | refine RunsL.step tabOk hn rfl ?_
 | refine RunsL.nil ?_
 | refine Runs.toRegion 30 rfl ?_
 | ((first | refine RunsL.pe hn rfl rfl rfl ?_ | refine RunsD.pe rfl rfl ?_); first
 | refine ⟨_, pu_callR hI rfl, ?_⟩
 | refine ⟨_, pu_loadN_eq rfl (Tre.cells_eq _) rfl, ?_⟩
 | refine ⟨_, pu_callR hcall rfl, ?_⟩)
 | (refine Runs.ctls 30 rfl ?_; first | refine Runs.cond_t rfl ?_ | ((first | refine Runs.cond_yes rfl ?_ ?_ | refine Runs.cond_nno rfl ?_ ?_); · first | omega | rfl | assumption | (simp only [List.length_map]; omega)) | ((first | refine Runs.cond_no rfl ?_ ?_ | refine Runs.cond_nyes rfl ?_ ?_); · first | omega | rfl | assumption | (simp only [List.length_map]; omega)) | refine Runs.ret (ends_ro hm rfl rfl ?_) | exact Runs.ret (ends_cellR hm rfl rfl rfl (Nat.le_of_ble_eq_true rfl) rfl rfl))
 | refine op_box rfl (tl hn rfl) ?_
 | refine op_alloc (tl hn rfl) ?_
 | refine op_storeN rfl rfl rfl rfl (Nat.le_of_ble_eq_true rfl) ?_
 | refine RunsD.step tabOk hn rfl rfl ?_
 | refine RunsD.nil ?_
 | refine Runs.toDraw 30 mixed hn rfl (by kernel_rfl) rfl ?_
 | ((first | refine RunsL.pe hn rfl rfl rfl ?_ | refine RunsD.pe rfl rfl ?_); first
 | refine ⟨_, pu_add rfl rfl (by omega), ?_⟩
 | refine ⟨_, pu_indexAddr_map rfl rfl (by omega) (by assumption), ?_⟩
 | refine ⟨_, pu_sub rfl rfl (by omega), ?_⟩
 | refine ⟨_, pu_pick_b rfl rfl rfl, ?_⟩
 | refine ⟨_, pu_mul rfl rfl (by omega), ?_⟩
 | refine ⟨_, pu_build rfl rfl rfl rfl rfl rfl, ?_⟩)
 | ((first | refine RunsL.guard_dec rfl rfl rfl ?_ ?_ | refine RunsL.guard_ndec rfl rfl rfl ?_ ?_ | refine RunsL.guard_nb rfl rfl rfl ?_ ?_ | refine RunsL.guard_b rfl rfl rfl ?_ ?_ | refine RunsD.guard_dec rfl rfl rfl ?_ ?_ | refine RunsD.guard_ndec rfl rfl rfl ?_ ?_ | refine RunsD.guard_nb rfl rfl rfl ?_ ?_ | refine RunsD.guard_b rfl rfl rfl ?_ ?_) <;> intro h <;> try (exfalso; first | omega | contradiction | (simp only [List.length_map] at h; omega))))
    refine op_append (t := 37) (i := 3) (n := (ws.take j).flatten.length) (rs := (ws.take j).flatten.map RV.u8) (els := bs.map fun z => [RV.u8 z]) rfl rfl rfl rfl rfl rfl (by rw [List.length_map, Nat.mul_one]) (FreeI.at_ (i := 3) ⟨by simp [AV.onlys, AV.only], by simp [AV.onlys, AV.only], onlys_ro _ _, onlys_ro _ _, trivial⟩) (by simp only [List.length_map]; omega) (by simp only [List.length_map]; omega) (tl hn rfl) ?_
    repeat' (first
 | refine RunsL.step tabOk hn rfl ?_
 | refine RunsL.nil ?_
 | refine Runs.toRegion 30 rfl ?_
 | (refine Runs.ctls 30 rfl ?_; first | refine Runs.cond_t rfl ?_ | ((first | refine Runs.cond_yes rfl ?_ ?_ | refine Runs.cond_nno rfl ?_ ?_); · first | omega | rfl | assumption | (simp only [List.length_map]; omega)) | ((first | refine Runs.cond_no rfl ?_ ?_ | refine Runs.cond_nyes rfl ?_ ?_); · first | omega | rfl | assumption | (simp only [List.length_map]; omega)) | refine Runs.ret (ends_ro hm rfl rfl ?_) | exact Runs.ret (ends_cellR hm rfl rfl rfl (Nat.le_of_ble_eq_true rfl) rfl rfl))
 | refine op_box rfl (tl hn rfl) ?_
 | refine op_alloc (tl hn rfl) ?_
 | refine op_storeN rfl rfl rfl rfl (Nat.le_of_ble_eq_true rfl) ?_
 | refine RunsD.step tabOk hn rfl rfl ?_
 | refine RunsD.nil ?_
 | refine Runs.toDraw 30 mixed hn rfl (by kernel_rfl) rfl ?_
 | ((first | refine RunsL.pe hn rfl rfl rfl ?_ | refine RunsD.pe rfl rfl ?_); first
 | refine ⟨_, pu_add rfl rfl (by omega), ?_⟩
 | refine ⟨_, pu_indexAddr_map rfl rfl (by omega) (by assumption), ?_⟩
 | refine ⟨_, pu_sub rfl rfl (by omega), ?_⟩
 | refine ⟨_, pu_pick_b rfl rfl rfl, ?_⟩
 | refine ⟨_, pu_mul rfl rfl (by omega), ?_⟩
 | refine ⟨_, pu_build rfl rfl rfl rfl rfl rfl, ?_⟩)
 | ((first | refine RunsL.guard_dec rfl rfl rfl ?_ ?_ | refine RunsL.guard_ndec rfl rfl rfl ?_ ?_ | refine RunsL.guard_nb rfl rfl rfl ?_ ?_ | refine RunsL.guard_b rfl rfl rfl ?_ ?_ | refine RunsD.guard_dec rfl rfl rfl ?_ ?_ | refine RunsD.guard_ndec rfl rfl rfl ?_ ?_ | refine RunsD.guard_nb rfl rfl rfl ?_ ?_ | refine RunsD.guard_b rfl rfl rfl ?_ ?_) <;> intro h <;> try (exfalso; first | omega | contradiction | (simp only [List.length_map] at h; omega))))
    refine next _ _ ⟨rfl, rfl, rfl, rfl, rfl, rfl, trivial⟩ hlt trivial ?_
    show prS d x v (ws.take (j + 1)).flatten = [_, _, _, Ob.mk _ _ _]
    rw [u8_flats, ← List.map_append, ← flat_take_next hbs]
    rfl
  · obtain rfl : j = v.items.length := by omega
    have hwf : (ws.take v.items.length).flatten = ws.flatten := by rw [← hwl, List.take_length]
    rw [hwf]
    clear next
    rcases hout with ⟨k, rfl, hne⟩ | ⟨k, rfl⟩ | ⟨k, rfl⟩ | ⟨z, y, k, hz, hy, hz0, rfl, hne⟩ | ⟨z, y, k, hz, hy, hz0, rfl, hne⟩ | ⟨k, rfl⟩ | ⟨z, y, k, hz, hy, hz0, rfl, hne⟩ | ⟨k, rfl⟩ | ⟨s, k, hs, rfl⟩ | ⟨t0, k, hz, hwn, rfl⟩
    · have hE := spec_l8Integer x v.number
      repeat' (first
 | refine op_callOR hE rfl (tl hn rfl) ?_
 | ((first | refine RunsL.pe hn rfl rfl rfl ?_ | refine RunsD.pe rfl rfl ?_); first
 | refine ⟨_, pu_len_seqN v.items.length rfl hni, ?_⟩
 | refine ⟨_, pu_len_seqN v.bytes.length rfl hnb, ?_⟩)
 | refine RunsL.step tabOk hn rfl ?_
 | refine RunsL.nil ?_
 | refine Runs.toRegion 30 rfl ?_
 | (refine Runs.ctls 30 rfl ?_; first | refine Runs.cond_t rfl ?_ | ((first | refine Runs.cond_yes rfl ?_ ?_ | refine Runs.cond_nno rfl ?_ ?_); · first | omega | rfl | assumption | (simp only [List.length_map]; omega)) | ((first | refine Runs.cond_no rfl ?_ ?_ | refine Runs.cond_nyes rfl ?_ ?_); · first | omega | rfl | assumption | (simp only [List.length_map]; omega)) | refine Runs.ret (ends_ro hm rfl rfl ?_) | exact Runs.ret (ends_cellR hm rfl rfl rfl (Nat.le_of_ble_eq_true rfl) rfl rfl))
 | refine op_box rfl (tl hn rfl) ?_
 | refine op_alloc (tl hn rfl) ?_
 | refine op_storeN rfl rfl rfl rfl (Nat.le_of_ble_eq_true rfl) ?_
 | refine RunsD.step tabOk hn rfl rfl ?_
 | refine RunsD.nil ?_
 | refine Runs.toDraw 30 mixed hn rfl (by kernel_rfl) rfl ?_
 | ((first | refine RunsL.pe hn rfl rfl rfl ?_ | refine RunsD.pe rfl rfl ?_); first
 | refine ⟨_, pu_add rfl rfl (by omega), ?_⟩
 | refine ⟨_, pu_indexAddr_map rfl rfl (by omega) (by assumption), ?_⟩
 | refine ⟨_, pu_sub rfl rfl (by omega), ?_⟩
 | refine ⟨_, pu_pick_b rfl rfl rfl, ?_⟩
 | refine ⟨_, pu_mul rfl rfl (by omega), ?_⟩
 | refine ⟨_, pu_build rfl rfl rfl rfl rfl rfl, ?_⟩)
 | ((first | refine RunsL.guard_dec rfl rfl rfl ?_ ?_ | refine RunsL.guard_ndec rfl rfl rfl ?_ ?_ | refine RunsL.guard_nb rfl rfl rfl ?_ ?_ | refine RunsL.guard_b rfl rfl rfl ?_ ?_ | refine RunsD.guard_dec rfl rfl rfl ?_ ?_ | refine RunsD.guard_ndec rfl rfl rfl ?_ ?_ | refine RunsD.guard_nb rfl rfl rfl ?_ ?_ | refine RunsD.guard_b rfl rfl rfl ?_ ?_) <;> intro h <;> try (exfalso; first | omega | contradiction | (simp only [List.length_map] at h; omega))))
      exact Runs.ctls 30 rfl (Runs.ret (ends_ownR (i := 4) (els := (encI x v.number).map fun z => [RV.u8 z]) hm rfl rfl rfl rfl (by rw [u8_flats]) fun x hx => by obtain ⟨y, _, rfl⟩ := List.mem_map.1 hx; rfl))
    · have hbl : x.bytes.length ≤ 3 := (hD.lens hx').2.1
      repeat' (first
 | refine op_build0 (tl hn rfl) ?_
 | ((first | refine RunsL.pe hn rfl rfl rfl ?_ | refine RunsD.pe rfl rfl ?_); first
 | refine ⟨_, pu_len_seqN v.items.length rfl hni, ?_⟩
 | refine ⟨_, pu_len_seqN v.bytes.length rfl hnb, ?_⟩)
 | refine RunsL.step tabOk hn rfl ?_
 | refine RunsL.nil ?_
 | refine Runs.toRegion 30 rfl ?_
 | (refine Runs.ctls 30 rfl ?_; first | refine Runs.cond_t rfl ?_ | ((first | refine Runs.cond_yes rfl ?_ ?_ | refine Runs.cond_nno rfl ?_ ?_); · first | omega | rfl | assumption | (simp only [List.length_map]; omega)) | ((first | refine Runs.cond_no rfl ?_ ?_ | refine Runs.cond_nyes rfl ?_ ?_); · first | omega | rfl | assumption | (simp only [List.length_map]; omega)) | refine Runs.ret (ends_ro hm rfl rfl ?_) | exact Runs.ret (ends_cellR hm rfl rfl rfl (Nat.le_of_ble_eq_true rfl) rfl rfl))
 | refine op_box rfl (tl hn rfl) ?_
 | refine op_alloc (tl hn rfl) ?_
 | refine op_storeN rfl rfl rfl rfl (Nat.le_of_ble_eq_true rfl) ?_
 | refine RunsD.step tabOk hn rfl rfl ?_
 | refine RunsD.nil ?_
 | refine Runs.toDraw 30 mixed hn rfl (by kernel_rfl) rfl ?_
 | ((first | refine RunsL.pe hn rfl rfl rfl ?_ | refine RunsD.pe rfl rfl ?_); first
 | refine ⟨_, pu_add rfl rfl (by omega), ?_⟩
 | refine ⟨_, pu_indexAddr_map rfl rfl (by omega) (by assumption), ?_⟩
 | refine ⟨_, pu_sub rfl rfl (by omega), ?_⟩
 | refine ⟨_, pu_pick_b rfl rfl rfl, ?_⟩
 | refine ⟨_, pu_mul rfl rfl (by omega), ?_⟩
 | refine ⟨_, pu_build rfl rfl rfl rfl rfl rfl, ?_⟩)
 | ((first | refine RunsL.guard_dec rfl rfl rfl ?_ ?_ | refine RunsL.guard_ndec rfl rfl rfl ?_ ?_ | refine RunsL.guard_nb rfl rfl rfl ?_ ?_ | refine RunsL.guard_b rfl rfl rfl ?_ ?_ | refine RunsD.guard_dec rfl rfl rfl ?_ ?_ | refine RunsD.guard_ndec rfl rfl rfl ?_ ?_ | refine RunsD.guard_nb rfl rfl rfl ?_ ?_ | refine RunsD.guard_b rfl rfl rfl ?_ ?_) <;> intro h <;> try (exfalso; first | omega | contradiction | (simp only [List.length_map] at h; omega))))
      refine op_append (t := 51) (i := 4) (n := 0) (rs := []) (els := (x.bytes).map fun z => [RV.u8 z]) rfl rfl rfl rfl rfl rfl rfl (FreeI.at_ (i := 4) ⟨by simp [AV.onlys, AV.only], by simp [AV.onlys, AV.only], onlys_ro _ _, onlys_ro _ _, by simp [AV.onlys], trivial⟩) (by simp only [List.length_map]; omega) (by simp only [List.length_map]; omega) (tl hn rfl) ?_
      repeat' (first
 | refine RunsL.step tabOk hn rfl ?_
 | refine RunsL.nil ?_
 | refine Runs.toRegion 30 rfl ?_
 | (refine Runs.ctls 30 rfl ?_; first | refine Runs.cond_t rfl ?_ | ((first | refine Runs.cond_yes rfl ?_ ?_ | refine Runs.cond_nno rfl ?_ ?_); · first | omega | rfl | assumption | (simp only [List.length_map]; omega)) | ((first | refine Runs.cond_no rfl ?_ ?_ | refine Runs.cond_nyes rfl ?_ ?_); · first | omega | rfl | assumption | (simp only [List.length_map]; omega)) | refine Runs.ret (ends_ro hm rfl rfl ?_) | exact Runs.ret (ends_cellR hm rfl rfl rfl (Nat.le_of_ble_eq_true rfl) rfl rfl))
 | refine op_box rfl (tl hn rfl) ?_
 | refine op_alloc (tl hn rfl) ?_
 | refine op_storeN rfl rfl rfl rfl (Nat.le_of_ble_eq_true rfl) ?_
 | refine RunsD.step tabOk hn rfl rfl ?_
 | refine RunsD.nil ?_
 | refine Runs.toDraw 30 mixed hn rfl (by kernel_rfl) rfl ?_
 | ((first | refine RunsL.pe hn rfl rfl rfl ?_ | refine RunsD.pe rfl rfl ?_); first
 | refine ⟨_, pu_add rfl rfl (by omega), ?_⟩
 | refine ⟨_, pu_indexAddr_map rfl rfl (by omega) (by assumption), ?_⟩
 | refine ⟨_, pu_sub rfl rfl (by omega), ?_⟩
 | refine ⟨_, pu_pick_b rfl rfl rfl, ?_⟩
 | refine ⟨_, pu_mul rfl rfl (by omega), ?_⟩
 | refine ⟨_, pu_build rfl rfl rfl rfl rfl rfl, ?_⟩)
 | ((first | refine RunsL.guard_dec rfl rfl rfl ?_ ?_ | refine RunsL.guard_ndec rfl rfl rfl ?_ ?_ | refine RunsL.guard_nb rfl rfl rfl ?_ ?_ | refine RunsL.guard_b rfl rfl rfl ?_ ?_ | refine RunsD.guard_dec rfl rfl rfl ?_ ?_ | refine RunsD.guard_ndec rfl rfl rfl ?_ ?_ | refine RunsD.guard_nb rfl rfl rfl ?_ ?_ | refine RunsD.guard_b rfl rfl rfl ?_ ?_) <;> intro h <;> try (exfalso; first | omega | contradiction | (simp only [List.length_map] at h; omega))))
      refine Runs.ctls 30 rfl (Runs.ret (ends_ownR (i := 4) (els := (x.bytes).map fun z => [RV.u8 z]) hm rfl rfl rfl rfl ?_ fun x hx => by obtain ⟨y, _, rfl⟩ := List.mem_map.1 hx; rfl))
      show List.map AV.ro _ = List.map AV.ro _
      simp [u8_flats]
    · repeat' (first
 | refine op_build0 (tl hn rfl) ?_
 | ((first | refine RunsL.pe hn rfl rfl rfl ?_ | refine RunsD.pe rfl rfl ?_); first
 | refine ⟨_, pu_len_seqN v.items.length rfl hni, ?_⟩
 | refine ⟨_, pu_len_seqN v.bytes.length rfl hnb, ?_⟩)
 | refine RunsL.step tabOk hn rfl ?_
 | refine RunsL.nil ?_
 | refine Runs.toRegion 30 rfl ?_
 | (refine Runs.ctls 30 rfl ?_; first | refine Runs.cond_t rfl ?_ | ((first | refine Runs.cond_yes rfl ?_ ?_ | refine Runs.cond_nno rfl ?_ ?_); · first | omega | rfl | assumption | (simp only [List.length_map]; omega)) | ((first | refine Runs.cond_no rfl ?_ ?_ | refine Runs.cond_nyes rfl ?_ ?_); · first | omega | rfl | assumption | (simp only [List.length_map]; omega)) | refine Runs.ret (ends_ro hm rfl rfl ?_) | exact Runs.ret (ends_cellR hm rfl rfl rfl (Nat.le_of_ble_eq_true rfl) rfl rfl))
 | refine op_box rfl (tl hn rfl) ?_
 | refine op_alloc (tl hn rfl) ?_
 | refine op_storeN rfl rfl rfl rfl (Nat.le_of_ble_eq_true rfl) ?_
 | refine RunsD.step tabOk hn rfl rfl ?_
 | refine RunsD.nil ?_
 | refine Runs.toDraw 30 mixed hn rfl (by kernel_rfl) rfl ?_
 | ((first | refine RunsL.pe hn rfl rfl rfl ?_ | refine RunsD.pe rfl rfl ?_); first
 | refine ⟨_, pu_add rfl rfl (by omega), ?_⟩
 | refine ⟨_, pu_indexAddr_map rfl rfl (by omega) (by assumption), ?_⟩
 | refine ⟨_, pu_sub rfl rfl (by omega), ?_⟩
 | refine ⟨_, pu_pick_b rfl rfl rfl, ?_⟩
 | refine ⟨_, pu_mul rfl rfl (by omega), ?_⟩
 | refine ⟨_, pu_build rfl rfl rfl rfl rfl rfl, ?_⟩)
 | ((first | refine RunsL.guard_dec rfl rfl rfl ?_ ?_ | refine RunsL.guard_ndec rfl rfl rfl ?_ ?_ | refine RunsL.guard_nb rfl rfl rfl ?_ ?_ | refine RunsL.guard_b rfl rfl rfl ?_ ?_ | refine RunsD.guard_dec rfl rfl rfl ?_ ?_ | refine RunsD.guard_ndec rfl rfl rfl ?_ ?_ | refine RunsD.guard_nb rfl rfl rfl ?_ ?_ | refine RunsD.guard_b rfl rfl rfl ?_ ?_) <;> intro h <;> try (exfalso; first | omega | contradiction | (simp only [List.length_map] at h; omega))))
      refine op_append (t := 167) (i := 4) (n := 0) (rs := []) (els := (v.bytes).map fun z => [RV.u8 z]) rfl rfl rfl rfl rfl rfl rfl (FreeI.at_ (i := 4) ⟨by simp [AV.onlys, AV.only], by simp [AV.onlys, AV.only], onlys_ro _ _, onlys_ro _ _, by simp [AV.onlys], trivial⟩) (by simp only [List.length_map]; omega) (by simp only [List.length_map]; omega) (tl hn rfl) ?_
      repeat' (first
 | refine RunsL.step tabOk hn rfl ?_
 | refine RunsL.nil ?_
 | refine Runs.toRegion 30 rfl ?_
 | (refine Runs.ctls 30 rfl ?_; first | refine Runs.cond_t rfl ?_ | ((first | refine Runs.cond_yes rfl ?_ ?_ | refine Runs.cond_nno rfl ?_ ?_); · first | omega | rfl | assumption | (simp only [List.length_map]; omega)) | ((first | refine Runs.cond_no rfl ?_ ?_ | refine Runs.cond_nyes rfl ?_ ?_); · first | omega | rfl | assumption | (simp only [List.length_map]; omega)) | refine Runs.ret (ends_ro hm rfl rfl ?_) | exact Runs.ret (ends_cellR hm rfl rfl rfl (Nat.le_of_ble_eq_true rfl) rfl rfl))
 | refine op_box rfl (tl hn rfl) ?_
 | refine op_alloc (tl hn rfl) ?_
 | refine op_storeN rfl rfl rfl rfl (Nat.le_of_ble_eq_true rfl) ?_
 | refine RunsD.step tabOk hn rfl rfl ?_
 | refine RunsD.nil ?_
 | refine Runs.toDraw 30 mixed hn rfl (by kernel_rfl) rfl ?_
 | ((first | refine RunsL.pe hn rfl rfl rfl ?_ | refine RunsD.pe rfl rfl ?_); first
 | refine ⟨_, pu_add rfl rfl (by omega), ?_⟩
 | refine ⟨_, pu_indexAddr_map rfl rfl (by omega) (by assumption), ?_⟩
 | refine ⟨_, pu_sub rfl rfl (by omega), ?_⟩
 | refine ⟨_, pu_pick_b rfl rfl rfl, ?_⟩
 | refine ⟨_, pu_mul rfl rfl (by omega), ?_⟩
 | refine ⟨_, pu_build rfl rfl rfl rfl rfl rfl, ?_⟩)
 | ((first | refine RunsL.guard_dec rfl rfl rfl ?_ ?_ | refine RunsL.guard_ndec rfl rfl rfl ?_ ?_ | refine RunsL.guard_nb rfl rfl rfl ?_ ?_ | refine RunsL.guard_b rfl rfl rfl ?_ ?_ | refine RunsD.guard_dec rfl rfl rfl ?_ ?_ | refine RunsD.guard_ndec rfl rfl rfl ?_ ?_ | refine RunsD.guard_nb rfl rfl rfl ?_ ?_ | refine RunsD.guard_b rfl rfl rfl ?_ ?_) <;> intro h <;> try (exfalso; first | omega | contradiction | (simp only [List.length_map] at h; omega))))
      refine Runs.ctls 30 rfl (Runs.ret (ends_ownR (i := 4) (els := (v.bytes).map fun z => [RV.u8 z]) hm rfl rfl rfl rfl ?_ fun x hx => by obtain ⟨y, _, rfl⟩ := List.mem_map.1 hx; rfl))
      show List.map AV.ro _ = List.map AV.ro _
      simp [u8_flats]
    · have hE := spec_l8Integer y v.bytes.length
      have hel := encI_len4 y v.bytes.length
      repeat' (first
 | refine Runs.toDrawV (id := 13) 30 [] [0, 1, 2, 3, 4, 5, 6, 7, 8, 9, 10, 11, 12, 13] 14 [⟨11, none, 5, 1, (encI y v.bytes.length).map RV.u8⟩] mixed hn rfl (by kernel_rfl) rfl rfl (by kernel_rfl) ?_
 | refine RunsU.made (t := 65) (p := 0) rfl rfl rfl rfl rfl (mk_call hE (by simpa using hne) rfl) ?_
 | refine RunsU.pur (fun _ => pu_len_seqN v.items.length rfl hni) rfl (staged_one rfl) rfl rfl ?_
 | refine RunsU.pur (fun _ => pu_len_seqN v.bytes.length rfl hnb) rfl (staged_one rfl) rfl rfl ?_
 | refine RunsU.pur (fun _ => pu_indexAddr_map rfl rfl (by omega) (by assumption)) rfl (staged_one rfl) rfl rfl ?_
 | refine RunsU.step tabOk rfl rfl (fun _ => rfl) rfl (staged_one rfl) ?_
 | refine RunsU.nil ?_
 | ((first | refine RunsL.pe hn rfl rfl rfl ?_ | refine RunsD.pe rfl rfl ?_); first
 | refine ⟨_, pu_len_seqN v.items.length rfl hni, ?_⟩
 | refine ⟨_, pu_len_seqN v.bytes.length rfl hnb, ?_⟩)
 | refine RunsL.step tabOk hn rfl ?_
 | refine RunsL.nil ?_
 | refine Runs.toRegion 30 rfl ?_
 | (refine Runs.ctls 30 rfl ?_; first | refine Runs.cond_t rfl ?_ | ((first | refine Runs.cond_yes rfl ?_ ?_ | refine Runs.cond_nno rfl ?_ ?_); · first | omega | rfl | assumption | (simp only [List.length_map]; omega)) | ((first | refine Runs.cond_no rfl ?_ ?_ | refine Runs.cond_nyes rfl ?_ ?_); · first | omega | rfl | assumption | (simp only [List.length_map]; omega)) | refine Runs.ret (ends_ro hm rfl rfl ?_) | exact Runs.ret (ends_cellR hm rfl rfl rfl (Nat.le_of_ble_eq_true rfl) rfl rfl))
 | refine op_box rfl (tl hn rfl) ?_
 | refine op_alloc (tl hn rfl) ?_
 | refine op_storeN rfl rfl rfl rfl (Nat.le_of_ble_eq_true rfl) ?_
 | refine RunsD.step tabOk hn rfl rfl ?_
 | refine RunsD.nil ?_
 | refine Runs.toDraw 30 mixed hn rfl (by kernel_rfl) rfl ?_
 | ((first | refine RunsL.pe hn rfl rfl rfl ?_ | refine RunsD.pe rfl rfl ?_); first
 | refine ⟨_, pu_add rfl rfl (by omega), ?_⟩
 | refine ⟨_, pu_indexAddr_map rfl rfl (by omega) (by assumption), ?_⟩
 | refine ⟨_, pu_sub rfl rfl (by omega), ?_⟩
 | refine ⟨_, pu_pick_b rfl rfl rfl, ?_⟩
 | refine ⟨_, pu_mul rfl rfl (by omega), ?_⟩
 | refine ⟨_, pu_build rfl rfl rfl rfl rfl rfl, ?_⟩)
 | ((first | refine RunsL.guard_dec rfl rfl rfl ?_ ?_ | refine RunsL.guard_ndec rfl rfl rfl ?_ ?_ | refine RunsL.guard_nb rfl rfl rfl ?_ ?_ | refine RunsL.guard_b rfl rfl rfl ?_ ?_ | refine RunsD.guard_dec rfl rfl rfl ?_ ?_ | refine RunsD.guard_ndec rfl rfl rfl ?_ ?_ | refine RunsD.guard_nb rfl rfl rfl ?_ ?_ | refine RunsD.guard_b rfl rfl rfl ?_ ?_) <;> intro h <;> try (exfalso; first | omega | contradiction | (simp only [List.length_map] at h; omega))))
      refine op_append (t := 68) (i := 4) (n := (encI y v.bytes.length).length) (rs := (encI y v.bytes.length).map RV.u8) (els := (v.bytes).map fun z => [RV.u8 z]) rfl rfl rfl rfl rfl rfl (by rw [List.length_map, Nat.mul_one]) (FreeI.at_ (i := 4) ⟨by simp [AV.onlys, AV.only], by simp [AV.onlys, AV.only], onlys_ro _ _, onlys_ro _ _, onlys_ro _ _, trivial⟩) (by simp only [List.length_map]; omega) (by simp only [List.length_map]; omega) (tl hn rfl) ?_
      repeat' (first
 | refine RunsL.step tabOk hn rfl ?_
 | refine RunsL.nil ?_
 | refine Runs.toRegion 30 rfl ?_
 | (refine Runs.ctls 30 rfl ?_; first | refine Runs.cond_t rfl ?_ | ((first | refine Runs.cond_yes rfl ?_ ?_ | refine Runs.cond_nno rfl ?_ ?_); · first | omega | rfl | assumption | (simp only [List.length_map]; omega)) | ((first | refine Runs.cond_no rfl ?_ ?_ | refine Runs.cond_nyes rfl ?_ ?_); · first | omega | rfl | assumption | (simp only [List.length_map]; omega)) | refine Runs.ret (ends_ro hm rfl rfl ?_) | exact Runs.ret (ends_cellR hm rfl rfl rfl (Nat.le_of_ble_eq_true rfl) rfl rfl))
 | refine op_box rfl (tl hn rfl) ?_
 | refine op_alloc (tl hn rfl) ?_
 | refine op_storeN rfl rfl rfl rfl (Nat.le_of_ble_eq_true rfl) ?_
 | refine RunsD.step tabOk hn rfl rfl ?_
 | refine RunsD.nil ?_
 | refine Runs.toDraw 30 mixed hn rfl (by kernel_rfl) rfl ?_
 | ((first | refine RunsL.pe hn rfl rfl rfl ?_ | refine RunsD.pe rfl rfl ?_); first
 | refine ⟨_, pu_add rfl rfl (by omega), ?_⟩
 | refine ⟨_, pu_indexAddr_map rfl rfl (by omega) (by assumption), ?_⟩
 | refine ⟨_, pu_sub rfl rfl (by omega), ?_⟩
 | refine ⟨_, pu_pick_b rfl rfl rfl, ?_⟩
 | refine ⟨_, pu_mul rfl rfl (by omega), ?_⟩
 | refine ⟨_, pu_build rfl rfl rfl rfl rfl rfl, ?_⟩)
 | ((first | refine RunsL.guard_dec rfl rfl rfl ?_ ?_ | refine RunsL.guard_ndec rfl rfl rfl ?_ ?_ | refine RunsL.guard_nb rfl rfl rfl ?_ ?_ | refine RunsL.guard_b rfl rfl rfl ?_ ?_ | refine RunsD.guard_dec rfl rfl rfl ?_ ?_ | refine RunsD.guard_ndec rfl rfl rfl ?_ ?_ | refine RunsD.guard_nb rfl rfl rfl ?_ ?_ | refine RunsD.guard_b rfl rfl rfl ?_ ?_) <;> intro h <;> try (exfalso; first | omega | contradiction | (simp only [List.length_map] at h; omega))))
      refine Runs.ctls 30 rfl (Runs.ret (ends_ownR (i := 4) (els := (encI y v.bytes.length ++ v.bytes).map fun z => [RV.u8 z]) hm rfl rfl rfl rfl ?_ fun x hx => by obtain ⟨y, _, rfl⟩ := List.mem_map.1 hx; rfl))
      show List.map AV.ro _ = List.map AV.ro _
      simp [u8_flats]
    · have hE := spec_l8Integer y v.items.length
      have hel := encI_len4 y v.items.length
      refine Runs.freeze 3 8 (ws.flatten.map fun z => [RV.u8 z]) hm rfl rfl (by rw [u8_flats]) (fun x hx => by obtain ⟨y, _, rfl⟩ := List.mem_map.1 hx; rfl) (⟨by simp [AV.onlys, AV.only], by simp [AV.onlys, AV.only], onlys_ro _ _, by simp [AV.onlys, AV.only], trivial⟩) ?_
      repeat' (first
 | refine Runs.toDrawV (id := 15) 30 [] [0, 1, 2, 3, 4, 5, 6, 7, 8, 9, 10, 11, 12] 13 [⟨11, none, 5, 1, (encI y v.items.length).map RV.u8⟩] mixed hn rfl (by kernel_rfl) rfl rfl (by kernel_rfl) ?_
 | refine RunsU.made (t := 82) (p := 0) rfl rfl rfl rfl rfl (mk_call hE (by simpa using hne) rfl) ?_
 | refine RunsU.pur (fun _ => pu_len_seqN v.items.length rfl hni) rfl (staged_one rfl) rfl rfl ?_
 | refine RunsU.pur (fun _ => pu_len_seqN v.bytes.length rfl hnb) rfl (staged_one rfl) rfl rfl ?_
 | refine RunsU.pur (fun _ => pu_indexAddr_map rfl rfl (by omega) (by assumption)) rfl (staged_one rfl) rfl rfl ?_
 | refine RunsU.step tabOk rfl rfl (fun _ => rfl) rfl (staged_one rfl) ?_
 | refine RunsU.nil ?_
 | ((first | refine RunsL.pe hn rfl rfl rfl ?_ | refine RunsD.pe rfl rfl ?_); first
 | refine ⟨_, pu_len_seqN v.items.length rfl hni, ?_⟩
 | refine ⟨_, pu_len_seqN v.bytes.length rfl hnb, ?_⟩)
 | refine RunsL.step tabOk hn rfl ?_
 | refine RunsL.nil ?_
 | refine Runs.toRegion 30 rfl ?_
 | (refine Runs.ctls 30 rfl ?_; first | refine Runs.cond_t rfl ?_ | ((first | refine Runs.cond_yes rfl ?_ ?_ | refine Runs.cond_nno rfl ?_ ?_); · first | omega | rfl | assumption | (simp only [List.length_map]; omega)) | ((first | refine Runs.cond_no rfl ?_ ?_ | refine Runs.cond_nyes rfl ?_ ?_); · first | omega | rfl | assumption | (simp only [List.length_map]; omega)) | refine Runs.ret (ends_ro hm rfl rfl ?_) | exact Runs.ret (ends_cellR hm rfl rfl rfl (Nat.le_of_ble_eq_true rfl) rfl rfl))
 | refine op_box rfl (tl hn rfl) ?_
 | refine op_alloc (tl hn rfl) ?_
 | refine op_storeN rfl rfl rfl rfl (Nat.le_of_ble_eq_true rfl) ?_
 | refine RunsD.step tabOk hn rfl rfl ?_
 | refine RunsD.nil ?_
 | refine Runs.toDraw 30 mixed hn rfl (by kernel_rfl) rfl ?_
 | ((first | refine RunsL.pe hn rfl rfl rfl ?_ | refine RunsD.pe rfl rfl ?_); first
 | refine ⟨_, pu_add rfl rfl (by omega), ?_⟩
 | refine ⟨_, pu_indexAddr_map rfl rfl (by omega) (by assumption), ?_⟩
 | refine ⟨_, pu_sub rfl rfl (by omega), ?_⟩
 | refine ⟨_, pu_pick_b rfl rfl rfl, ?_⟩
 | refine ⟨_, pu_mul rfl rfl (by omega), ?_⟩
 | refine ⟨_, pu_build rfl rfl rfl rfl rfl rfl, ?_⟩)
 | ((first | refine RunsL.guard_dec rfl rfl rfl ?_ ?_ | refine RunsL.guard_ndec rfl rfl rfl ?_ ?_ | refine RunsL.guard_nb rfl rfl rfl ?_ ?_ | refine RunsL.guard_b rfl rfl rfl ?_ ?_ | refine RunsD.guard_dec rfl rfl rfl ?_ ?_ | refine RunsD.guard_ndec rfl rfl rfl ?_ ?_ | refine RunsD.guard_nb rfl rfl rfl ?_ ?_ | refine RunsD.guard_b rfl rfl rfl ?_ ?_) <;> intro h <;> try (exfalso; first | omega | contradiction | (simp only [List.length_map] at h; omega))))
      refine op_append (t := 84) (i := 4) (n := (encI y v.items.length).length) (rs := (encI y v.items.length).map RV.u8) (els := (ws.flatten).map fun z => [RV.u8 z]) rfl rfl rfl rfl rfl rfl (by rw [List.length_map, Nat.mul_one]) (FreeI.at_ (i := 4) ⟨by simp [AV.onlys, AV.only], by simp [AV.onlys, AV.only], onlys_ro _ _, by simp [AV.onlys, AV.only], onlys_ro _ _, trivial⟩) (by simp only [List.length_map]; omega) (by simp only [List.length_map]; omega) (tl hn rfl) ?_
      repeat' (first
 | refine RunsL.step tabOk hn rfl ?_
 | refine RunsL.nil ?_
 | refine Runs.toRegion 30 rfl ?_
 | (refine Runs.ctls 30 rfl ?_; first | refine Runs.cond_t rfl ?_ | ((first | refine Runs.cond_yes rfl ?_ ?_ | refine Runs.cond_nno rfl ?_ ?_); · first | omega | rfl | assumption | (simp only [List.length_map]; omega)) | ((first | refine Runs.cond_no rfl ?_ ?_ | refine Runs.cond_nyes rfl ?_ ?_); · first | omega | rfl | assumption | (simp only [List.length_map]; omega)) | refine Runs.ret (ends_ro hm rfl rfl ?_) | exact Runs.ret (ends_cellR hm rfl rfl rfl (Nat.le_of_ble_eq_true rfl) rfl rfl))
 | refine op_box rfl (tl hn rfl) ?_
 | refine op_alloc (tl hn rfl) ?_
 | refine op_storeN rfl rfl rfl rfl (Nat.le_of_ble_eq_true rfl) ?_
 | refine RunsD.step tabOk hn rfl rfl ?_
 | refine RunsD.nil ?_
 | refine Runs.toDraw 30 mixed hn rfl (by kernel_rfl) rfl ?_
 | ((first | refine RunsL.pe hn rfl rfl rfl ?_ | refine RunsD.pe rfl rfl ?_); first
 | refine ⟨_, pu_add rfl rfl (by omega), ?_⟩
 | refine ⟨_, pu_indexAddr_map rfl rfl (by omega) (by assumption), ?_⟩
 | refine ⟨_, pu_sub rfl rfl (by omega), ?_⟩
 | refine ⟨_, pu_pick_b rfl rfl rfl, ?_⟩
 | refine ⟨_, pu_mul rfl rfl (by omega), ?_⟩
 | refine ⟨_, pu_build rfl rfl rfl rfl rfl rfl, ?_⟩)
 | ((first | refine RunsL.guard_dec rfl rfl rfl ?_ ?_ | refine RunsL.guard_ndec rfl rfl rfl ?_ ?_ | refine RunsL.guard_nb rfl rfl rfl ?_ ?_ | refine RunsL.guard_b rfl rfl rfl ?_ ?_ | refine RunsD.guard_dec rfl rfl rfl ?_ ?_ | refine RunsD.guard_ndec rfl rfl rfl ?_ ?_ | refine RunsD.guard_nb rfl rfl rfl ?_ ?_ | refine RunsD.guard_b rfl rfl rfl ?_ ?_) <;> intro h <;> try (exfalso; first | omega | contradiction | (simp only [List.length_map] at h; omega))))
      refine Runs.ctls 30 rfl (Runs.ret (ends_ownR (i := 4) (els := (encI y v.items.length ++ ws.flatten).map fun z => [RV.u8 z]) hm rfl rfl rfl rfl ?_ fun x hx => by obtain ⟨y, _, rfl⟩ := List.mem_map.1 hx; rfl))
      show List.map AV.ro _ = List.map AV.ro _
      simp [u8_flats]
    · repeat' (first
 | ((first | refine RunsL.pe hn rfl rfl rfl ?_ | refine RunsD.pe rfl rfl ?_); first
 | refine ⟨_, pu_len_seqN v.items.length rfl hni, ?_⟩
 | refine ⟨_, pu_len_seqN v.bytes.length rfl hnb, ?_⟩)
 | refine RunsL.step tabOk hn rfl ?_
 | refine RunsL.nil ?_
 | refine Runs.toRegion 30 rfl ?_
 | (refine Runs.ctls 30 rfl ?_; first | refine Runs.cond_t rfl ?_ | ((first | refine Runs.cond_yes rfl ?_ ?_ | refine Runs.cond_nno rfl ?_ ?_); · first | omega | rfl | assumption | (simp only [List.length_map]; omega)) | ((first | refine Runs.cond_no rfl ?_ ?_ | refine Runs.cond_nyes rfl ?_ ?_); · first | omega | rfl | assumption | (simp only [List.length_map]; omega)) | refine Runs.ret (ends_ro hm rfl rfl ?_) | exact Runs.ret (ends_cellR hm rfl rfl rfl (Nat.le_of_ble_eq_true rfl) rfl rfl))
 | refine op_box rfl (tl hn rfl) ?_
 | refine op_alloc (tl hn rfl) ?_
 | refine op_storeN rfl rfl rfl rfl (Nat.le_of_ble_eq_true rfl) ?_
 | refine RunsD.step tabOk hn rfl rfl ?_
 | refine RunsD.nil ?_
 | refine Runs.toDraw 30 mixed hn rfl (by kernel_rfl) rfl ?_
 | ((first | refine RunsL.pe hn rfl rfl rfl ?_ | refine RunsD.pe rfl rfl ?_); first
 | refine ⟨_, pu_add rfl rfl (by omega), ?_⟩
 | refine ⟨_, pu_indexAddr_map rfl rfl (by omega) (by assumption), ?_⟩
 | refine ⟨_, pu_sub rfl rfl (by omega), ?_⟩
 | refine ⟨_, pu_pick_b rfl rfl rfl, ?_⟩
 | refine ⟨_, pu_mul rfl rfl (by omega), ?_⟩
 | refine ⟨_, pu_build rfl rfl rfl rfl rfl rfl, ?_⟩)
 | ((first | refine RunsL.guard_dec rfl rfl rfl ?_ ?_ | refine RunsL.guard_ndec rfl rfl rfl ?_ ?_ | refine RunsL.guard_nb rfl rfl rfl ?_ ?_ | refine RunsL.guard_b rfl rfl rfl ?_ ?_ | refine RunsD.guard_dec rfl rfl rfl ?_ ?_ | refine RunsD.guard_ndec rfl rfl rfl ?_ ?_ | refine RunsD.guard_nb rfl rfl rfl ?_ ?_ | refine RunsD.guard_b rfl rfl rfl ?_ ?_) <;> intro h <;> try (exfalso; first | omega | contradiction | (simp only [List.length_map] at h; omega))))
      exact Runs.ctls 30 rfl (Runs.ret (ends_ownR (i := 3) (els := (ws.flatten).map fun z => [RV.u8 z]) hm rfl rfl rfl rfl (by rw [u8_flats]) fun x hx => by obtain ⟨y, _, rfl⟩ := List.mem_map.1 hx; rfl))
    · have hE := spec_l8Integer y v.number
      have hel := encI_len4 y v.number
      refine Runs.freeze 3 8 (ws.flatten.map fun z => [RV.u8 z]) hm rfl rfl (by rw [u8_flats]) (fun x hx => by obtain ⟨y, _, rfl⟩ := List.mem_map.1 hx; rfl) (⟨by simp [AV.onlys, AV.only], by simp [AV.onlys, AV.only], onlys_ro _ _, by simp [AV.onlys, AV.only], trivial⟩) ?_
      repeat' (first
 | refine Runs.toDrawV (id := 17) 30 [] [0, 1, 2, 3, 4, 5, 6, 7, 8, 9, 10, 11] 12 [⟨10, none, 5, 1, (encI y v.number).map RV.u8⟩] mixed hn rfl (by kernel_rfl) rfl rfl (by kernel_rfl) ?_
 | refine RunsU.made (t := 97) (p := 0) rfl rfl rfl rfl rfl (mk_call hE (by simpa using hne) rfl) ?_
 | refine RunsU.pur (fun _ => pu_len_seqN v.items.length rfl hni) rfl (staged_one rfl) rfl rfl ?_
 | refine RunsU.pur (fun _ => pu_len_seqN v.bytes.length rfl hnb) rfl (staged_one rfl) rfl rfl ?_
 | refine RunsU.pur (fun _ => pu_indexAddr_map rfl rfl (by omega) (by assumption)) rfl (staged_one rfl) rfl rfl ?_
 | refine RunsU.step tabOk rfl rfl (fun _ => rfl) rfl (staged_one rfl) ?_
 | refine RunsU.nil ?_
 | ((first | refine RunsL.pe hn rfl rfl rfl ?_ | refine RunsD.pe rfl rfl ?_); first
 | refine ⟨_, pu_len_seqN v.items.length rfl hni, ?_⟩
 | refine ⟨_, pu_len_seqN v.bytes.length rfl hnb, ?_⟩)
 | refine RunsL.step tabOk hn rfl ?_
 | refine RunsL.nil ?_
 | refine Runs.toRegion 30 rfl ?_
 | (refine Runs.ctls 30 rfl ?_; first | refine Runs.cond_t rfl ?_ | ((first | refine Runs.cond_yes rfl ?_ ?_ | refine Runs.cond_nno rfl ?_ ?_); · first | omega | rfl | assumption | (simp only [List.length_map]; omega)) | ((first | refine Runs.cond_no rfl ?_ ?_ | refine Runs.cond_nyes rfl ?_ ?_); · first | omega | rfl | assumption | (simp only [List.length_map]; omega)) | refine Runs.ret (ends_ro hm rfl rfl ?_) | exact Runs.ret (ends_cellR hm rfl rfl rfl (Nat.le_of_ble_eq_true rfl) rfl rfl))
 | refine op_box rfl (tl hn rfl) ?_
 | refine op_alloc (tl hn rfl) ?_
 | refine op_storeN rfl rfl rfl rfl (Nat.le_of_ble_eq_true rfl) ?_
 | refine RunsD.step tabOk hn rfl rfl ?_
 | refine RunsD.nil ?_
 | refine Runs.toDraw 30 mixed hn rfl (by kernel_rfl) rfl ?_
 | ((first | refine RunsL.pe hn rfl rfl rfl ?_ | refine RunsD.pe rfl rfl ?_); first
 | refine ⟨_, pu_add rfl rfl (by omega), ?_⟩
 | refine ⟨_, pu_indexAddr_map rfl rfl (by omega) (by assumption), ?_⟩
 | refine ⟨_, pu_sub rfl rfl (by omega), ?_⟩
 | refine ⟨_, pu_pick_b rfl rfl rfl, ?_⟩
 | refine ⟨_, pu_mul rfl rfl (by omega), ?_⟩
 | refine ⟨_, pu_build rfl rfl rfl rfl rfl rfl, ?_⟩)
 | ((first | refine RunsL.guard_dec rfl rfl rfl ?_ ?_ | refine RunsL.guard_ndec rfl rfl rfl ?_ ?_ | refine RunsL.guard_nb rfl rfl rfl ?_ ?_ | refine RunsL.guard_b rfl rfl rfl ?_ ?_ | refine RunsD.guard_dec rfl rfl rfl ?_ ?_ | refine RunsD.guard_ndec rfl rfl rfl ?_ ?_ | refine RunsD.guard_nb rfl rfl rfl ?_ ?_ | refine RunsD.guard_b rfl rfl rfl ?_ ?_) <;> intro h <;> try (exfalso; first | omega | contradiction | (simp only [List.length_map] at h; omega))))
      refine op_append (t := 99) (i := 4) (n := (encI y v.number).length) (rs := (encI y v.number).map RV.u8) (els := (ws.flatten).map fun z => [RV.u8 z]) rfl rfl rfl rfl rfl rfl (by rw [List.length_map, Nat.mul_one]) (FreeI.at_ (i := 4) ⟨by simp [AV.onlys, AV.only], by simp [AV.onlys, AV.only], onlys_ro _ _, by simp [AV.onlys, AV.only], onlys_ro _ _, trivial⟩) (by simp only [List.length_map]; omega) (by simp only [List.length_map]; omega) (tl hn rfl) ?_
      repeat' (first
 | refine RunsL.step tabOk hn rfl ?_
 | refine RunsL.nil ?_
 | refine Runs.toRegion 30 rfl ?_
 | (refine Runs.ctls 30 rfl ?_; first | refine Runs.cond_t rfl ?_ | ((first | refine Runs.cond_yes rfl ?_ ?_ | refine Runs.cond_nno rfl ?_ ?_); · first | omega | rfl | assumption | (simp only [List.length_map]; omega)) | ((first | refine Runs.cond_no rfl ?_ ?_ | refine Runs.cond_nyes rfl ?_ ?_); · first | omega | rfl | assumption | (simp only [List.length_map]; omega)) | refine Runs.ret (ends_ro hm rfl rfl ?_) | exact Runs.ret (ends_cellR hm rfl rfl rfl (Nat.le_of_ble_eq_true rfl) rfl rfl))
 | refine op_box rfl (tl hn rfl) ?_
 | refine op_alloc (tl hn rfl) ?_
 | refine op_storeN rfl rfl rfl rfl (Nat.le_of_ble_eq_true rfl) ?_
 | refine RunsD.step tabOk hn rfl rfl ?_
 | refine RunsD.nil ?_
 | refine Runs.toDraw 30 mixed hn rfl (by kernel_rfl) rfl ?_
 | ((first | refine RunsL.pe hn rfl rfl rfl ?_ | refine RunsD.pe rfl rfl ?_); first
 | refine ⟨_, pu_add rfl rfl (by omega), ?_⟩
 | refine ⟨_, pu_indexAddr_map rfl rfl (by omega) (by assumption), ?_⟩
 | refine ⟨_, pu_sub rfl rfl (by omega), ?_⟩
 | refine ⟨_, pu_pick_b rfl rfl rfl, ?_⟩
 | refine ⟨_, pu_mul rfl rfl (by omega), ?_⟩
 | refine ⟨_, pu_build rfl rfl rfl rfl rfl rfl, ?_⟩)
 | ((first | refine RunsL.guard_dec rfl rfl rfl ?_ ?_ | refine RunsL.guard_ndec rfl rfl rfl ?_ ?_ | refine RunsL.guard_nb rfl rfl rfl ?_ ?_ | refine RunsL.guard_b rfl rfl rfl ?_ ?_ | refine RunsD.guard_dec rfl rfl rfl ?_ ?_ | refine RunsD.guard_ndec rfl rfl rfl ?_ ?_ | refine RunsD.guard_nb rfl rfl rfl ?_ ?_ | refine RunsD.guard_b rfl rfl rfl ?_ ?_) <;> intro h <;> try (exfalso; first | omega | contradiction | (simp only [List.length_map] at h; omega))))
      refine Runs.ctls 30 rfl (Runs.ret (ends_ownR (i := 4) (els := (encI y v.number ++ ws.flatten).map fun z => [RV.u8 z]) hm rfl rfl rfl rfl ?_ fun x hx => by obtain ⟨y, _, rfl⟩ := List.mem_map.1 hx; rfl))
      show List.map AV.ro _ = List.map AV.ro _
      simp [u8_flats]
    · refine Runs.freeze 3 8 (ws.flatten.map fun z => [RV.u8 z]) hm rfl rfl (by rw [u8_flats]) (fun x hx => by obtain ⟨y, _, rfl⟩ := List.mem_map.1 hx; rfl) (⟨by simp [AV.onlys, AV.only], by simp [AV.onlys, AV.only], onlys_ro _ _, by simp [AV.onlys, AV.only], trivial⟩) ?_
      repeat' (first
 | refine op_build (t := 106) rfl rfl rfl rfl rfl (tl hn rfl) ?_
 | ((first | refine RunsL.pe hn rfl rfl rfl ?_ | refine RunsD.pe rfl rfl ?_); first
 | refine ⟨_, pu_len_seqN v.items.length rfl hni, ?_⟩
 | refine ⟨_, pu_len_seqN v.bytes.length rfl hnb, ?_⟩
 | refine ⟨_, pu_toU8 rfl, ?_⟩)
 | refine RunsL.step tabOk hn rfl ?_
 | refine RunsL.nil ?_
 | refine Runs.toRegion 30 rfl ?_
 | (refine Runs.ctls 30 rfl ?_; first | refine Runs.cond_t rfl ?_ | ((first | refine Runs.cond_yes rfl ?_ ?_ | refine Runs.cond_nno rfl ?_ ?_); · first | omega | rfl | assumption | (simp only [List.length_map]; omega)) | ((first | refine Runs.cond_no rfl ?_ ?_ | refine Runs.cond_nyes rfl ?_ ?_); · first | omega | rfl | assumption | (simp only [List.length_map]; omega)) | refine Runs.ret (ends_ro hm rfl rfl ?_) | exact Runs.ret (ends_cellR hm rfl rfl rfl (Nat.le_of_ble_eq_true rfl) rfl rfl))
 | refine op_box rfl (tl hn rfl) ?_
 | refine op_alloc (tl hn rfl) ?_
 | refine op_storeN rfl rfl rfl rfl (Nat.le_of_ble_eq_true rfl) ?_
 | refine RunsD.step tabOk hn rfl rfl ?_
 | refine RunsD.nil ?_
 | refine Runs.toDraw 30 mixed hn rfl (by kernel_rfl) rfl ?_
 | ((first | refine RunsL.pe hn rfl rfl rfl ?_ | refine RunsD.pe rfl rfl ?_); first
 | refine ⟨_, pu_add rfl rfl (by omega), ?_⟩
 | refine ⟨_, pu_indexAddr_map rfl rfl (by omega) (by assumption), ?_⟩
 | refine ⟨_, pu_sub rfl rfl (by omega), ?_⟩
 | refine ⟨_, pu_pick_b rfl rfl rfl, ?_⟩
 | refine ⟨_, pu_mul rfl rfl (by omega), ?_⟩
 | refine ⟨_, pu_build rfl rfl rfl rfl rfl rfl, ?_⟩)
 | ((first | refine RunsL.guard_dec rfl rfl rfl ?_ ?_ | refine RunsL.guard_ndec rfl rfl rfl ?_ ?_ | refine RunsL.guard_nb rfl rfl rfl ?_ ?_ | refine RunsL.guard_b rfl rfl rfl ?_ ?_ | refine RunsD.guard_dec rfl rfl rfl ?_ ?_ | refine RunsD.guard_ndec rfl rfl rfl ?_ ?_ | refine RunsD.guard_nb rfl rfl rfl ?_ ?_ | refine RunsD.guard_b rfl rfl rfl ?_ ?_) <;> intro h <;> try (exfalso; first | omega | contradiction | (simp only [List.length_map] at h; omega))))
      refine op_append (t := 108) (i := 4) (n := 1) (rs := [RV.u8 (u8i v.items.length)]) (els := (ws.flatten).map fun z => [RV.u8 z]) rfl rfl rfl rfl rfl rfl rfl (FreeI.at_ (i := 4) ⟨by simp [AV.onlys, AV.only], by simp [AV.onlys, AV.only], onlys_ro _ _, by simp [AV.onlys, AV.only], by simp [AV.onlys, AV.only], trivial⟩) (by simp only [List.length_map]; omega) (by simp only [List.length_map]; omega) (tl hn rfl) ?_
      repeat' (first
 | refine RunsL.step tabOk hn rfl ?_
 | refine RunsL.nil ?_
 | refine Runs.toRegion 30 rfl ?_
 | (refine Runs.ctls 30 rfl ?_; first | refine Runs.cond_t rfl ?_ | ((first | refine Runs.cond_yes rfl ?_ ?_ | refine Runs.cond_nno rfl ?_ ?_); · first | omega | rfl | assumption | (simp only [List.length_map]; omega)) | ((first | refine Runs.cond_no rfl ?_ ?_ | refine Runs.cond_nyes rfl ?_ ?_); · first | omega | rfl | assumption | (simp only [List.length_map]; omega)) | refine Runs.ret (ends_ro hm rfl rfl ?_) | exact Runs.ret (ends_cellR hm rfl rfl rfl (Nat.le_of_ble_eq_true rfl) rfl rfl))
 | refine op_box rfl (tl hn rfl) ?_
 | refine op_alloc (tl hn rfl) ?_
 | refine op_storeN rfl rfl rfl rfl (Nat.le_of_ble_eq_true rfl) ?_
 | refine RunsD.step tabOk hn rfl rfl ?_
 | refine RunsD.nil ?_
 | refine Runs.toDraw 30 mixed hn rfl (by kernel_rfl) rfl ?_
 | ((first | refine RunsL.pe hn rfl rfl rfl ?_ | refine RunsD.pe rfl rfl ?_); first
 | refine ⟨_, pu_add rfl rfl (by omega), ?_⟩
 | refine ⟨_, pu_indexAddr_map rfl rfl (by omega) (by assumption), ?_⟩
 | refine ⟨_, pu_sub rfl rfl (by omega), ?_⟩
 | refine ⟨_, pu_pick_b rfl rfl rfl, ?_⟩
 | refine ⟨_, pu_mul rfl rfl (by omega), ?_⟩
 | refine ⟨_, pu_build rfl rfl rfl rfl rfl rfl, ?_⟩)
 | ((first | refine RunsL.guard_dec rfl rfl rfl ?_ ?_ | refine RunsL.guard_ndec rfl rfl rfl ?_ ?_ | refine RunsL.guard_nb rfl rfl rfl ?_ ?_ | refine RunsL.guard_b rfl rfl rfl ?_ ?_ | refine RunsD.guard_dec rfl rfl rfl ?_ ?_ | refine RunsD.guard_ndec rfl rfl rfl ?_ ?_ | refine RunsD.guard_nb rfl rfl rfl ?_ ?_ | refine RunsD.guard_b rfl rfl rfl ?_ ?_) <;> intro h <;> try (exfalso; first | omega | contradiction | (simp only [List.length_map] at h; omega))))
      refine Runs.ctls 30 rfl (Runs.ret (ends_ownR (i := 4) (els := (u8i v.items.length :: ws.flatten).map fun z => [RV.u8 z]) hm rfl rfl rfl rfl ?_ fun x hx => by obtain ⟨y, _, rfl⟩ := List.mem_map.1 hx; rfl))
      show List.map AV.ro _ = List.map AV.ro _
      simp [u8_flats]
    · have hlend : ∀ C : Ctx, Lends C (prS d x v ws.flatten) (.own 3) (bytesR ws.flatten) := fun C => Lends.own (i := 3) (o := ⟨5, 1, (ws.flatten.map RV.u8).map .ro⟩) (els := ws.flatten.map fun z => [RV.u8 z]) rfl (by rw [u8_flats]) (fun x hx => by obtain ⟨y, _, rfl⟩ := List.mem_map.1 hx; rfl)
      repeat' (first
 | ((first | refine RunsL.pe hn rfl rfl rfl ?_ | refine RunsD.pe rfl rfl ?_); first
 | refine ⟨_, pu_len_seqN v.items.length rfl hni, ?_⟩
 | refine ⟨_, pu_len_seqN v.bytes.length rfl hnb, ?_⟩
 | refine ⟨_, pu_callL hs (.cons (hlend C) .nil), ?_⟩
 | refine ⟨_, pu_toU8 rfl, ?_⟩)
 | refine RunsL.step tabOk hn rfl ?_
 | refine RunsL.nil ?_
 | refine Runs.toRegion 30 rfl ?_
 | ((first | refine RunsL.pe hn rfl rfl rfl ?_ | refine RunsD.pe rfl rfl ?_); first
 | refine ⟨_, pu_build rfl rfl rfl rfl rfl rfl, ?_⟩)
 | (refine Runs.ctls 30 rfl ?_; first | refine Runs.cond_t rfl ?_ | ((first | refine Runs.cond_yes rfl ?_ ?_ | refine Runs.cond_nno rfl ?_ ?_); · first | omega | rfl | assumption | (simp only [List.length_map]; omega)) | ((first | refine Runs.cond_no rfl ?_ ?_ | refine Runs.cond_nyes rfl ?_ ?_); · first | omega | rfl | assumption | (simp only [List.length_map]; omega)) | refine Runs.ret (ends_ro hm rfl rfl ?_) | exact Runs.ret (ends_cellR hm rfl rfl rfl (Nat.le_of_ble_eq_true rfl) rfl rfl))
 | refine op_box rfl (tl hn rfl) ?_
 | refine op_alloc (tl hn rfl) ?_
 | refine op_storeN rfl rfl rfl rfl (Nat.le_of_ble_eq_true rfl) ?_
 | refine RunsD.step tabOk hn rfl rfl ?_
 | refine RunsD.nil ?_
 | refine Runs.toDraw 30 mixed hn rfl (by kernel_rfl) rfl ?_
 | ((first | refine RunsL.pe hn rfl rfl rfl ?_ | refine RunsD.pe rfl rfl ?_); first
 | refine ⟨_, pu_add rfl rfl (by omega), ?_⟩
 | refine ⟨_, pu_indexAddr_map rfl rfl (by omega) (by assumption), ?_⟩
 | refine ⟨_, pu_sub rfl rfl (by omega), ?_⟩
 | refine ⟨_, pu_pick_b rfl rfl rfl, ?_⟩
 | refine ⟨_, pu_mul rfl rfl (by omega), ?_⟩
 | refine ⟨_, pu_build rfl rfl rfl rfl rfl rfl, ?_⟩)
 | ((first | refine RunsL.guard_dec rfl rfl rfl ?_ ?_ | refine RunsL.guard_ndec rfl rfl rfl ?_ ?_ | refine RunsL.guard_nb rfl rfl rfl ?_ ?_ | refine RunsL.guard_b rfl rfl rfl ?_ ?_ | refine RunsD.guard_dec rfl rfl rfl ?_ ?_ | refine RunsD.guard_ndec rfl rfl rfl ?_ ?_ | refine RunsD.guard_nb rfl rfl rfl ?_ ?_ | refine RunsD.guard_b rfl rfl rfl ?_ ?_) <;> intro h <;> try (exfalso; first | omega | contradiction | (simp only [List.length_map] at h; omega))))
      refine op_append (t := 116) (i := 3) (n := ws.flatten.length) (rs := ws.flatten.map RV.u8) (els := [[RV.u8 (u8i s)]]) rfl rfl rfl rfl rfl rfl (by rw [List.length_map, Nat.mul_one]) (FreeI.at_ (i := 3) ⟨by simp [AV.onlys, AV.only], by simp [AV.onlys, AV.only], onlys_ro _ _, onlys_ro _ _, trivial⟩) (by simp only [List.length_cons, List.length_nil]; omega) (by simp only [List.length_cons, List.length_nil]; omega) (tl hn rfl) ?_
      repeat' (first
 | refine RunsL.step tabOk hn rfl ?_
 | refine RunsL.nil ?_
 | refine Runs.toRegion 30 rfl ?_
 | (refine Runs.ctls 30 rfl ?_; first | refine Runs.cond_t rfl ?_ | ((first | refine Runs.cond_yes rfl ?_ ?_ | refine Runs.cond_nno rfl ?_ ?_); · first | omega | rfl | assumption | (simp only [List.length_map]; omega)) | ((first | refine Runs.cond_no rfl ?_ ?_ | refine Runs.cond_nyes rfl ?_ ?_); · first | omega | rfl | assumption | (simp only [List.length_map]; omega)) | refine Runs.ret (ends_ro hm rfl rfl ?_) | exact Runs.ret (ends_cellR hm rfl rfl rfl (Nat.le_of_ble_eq_true rfl) rfl rfl))
 | refine op_box rfl (tl hn rfl) ?_
 | refine op_alloc (tl hn rfl) ?_
 | refine op_storeN rfl rfl rfl rfl (Nat.le_of_ble_eq_true rfl) ?_
 | refine RunsD.step tabOk hn rfl rfl ?_
 | refine RunsD.nil ?_
 | refine Runs.toDraw 30 mixed hn rfl (by kernel_rfl) rfl ?_
 | ((first | refine RunsL.pe hn rfl rfl rfl ?_ | refine RunsD.pe rfl rfl ?_); first
 | refine ⟨_, pu_add rfl rfl (by omega), ?_⟩
 | refine ⟨_, pu_indexAddr_map rfl rfl (by omega) (by assumption), ?_⟩
 | refine ⟨_, pu_sub rfl rfl (by omega), ?_⟩
 | refine ⟨_, pu_pick_b rfl rfl rfl, ?_⟩
 | refine ⟨_, pu_mul rfl rfl (by omega), ?_⟩
 | refine ⟨_, pu_build rfl rfl rfl rfl rfl rfl, ?_⟩)
 | ((first | refine RunsL.guard_dec rfl rfl rfl ?_ ?_ | refine RunsL.guard_ndec rfl rfl rfl ?_ ?_ | refine RunsL.guard_nb rfl rfl rfl ?_ ?_ | refine RunsL.guard_b rfl rfl rfl ?_ ?_ | refine RunsD.guard_dec rfl rfl rfl ?_ ?_ | refine RunsD.guard_ndec rfl rfl rfl ?_ ?_ | refine RunsD.guard_nb rfl rfl rfl ?_ ?_ | refine RunsD.guard_b rfl rfl rfl ?_ ?_) <;> intro h <;> try (exfalso; first | omega | contradiction | (simp only [List.length_map] at h; omega))))
      refine Runs.ctls 30 rfl (Runs.ret (ends_ownR (i := 3) (els := (ws.flatten ++ [u8i s]).map fun z => [RV.u8 z]) hm rfl rfl rfl rfl ?_ fun x hx => by obtain ⟨y, _, rfl⟩ := List.mem_map.1 hx; rfl))
      show List.map AV.ro _ = List.map AV.ro _
      generalize ws.flatten = wf
      simp [u8_flats]
    · rw [hwn]
      repeat' (first
 | ((first | refine RunsL.pe hn rfl rfl rfl ?_ | refine RunsD.pe rfl rfl ?_); first
 | refine ⟨_, pu_len_seqN v.items.length rfl hni, ?_⟩
 | refine ⟨_, pu_len_seqN v.bytes.length rfl hnb, ?_⟩)
 | refine RunsL.step tabOk hn rfl ?_
 | refine RunsL.nil ?_
 | refine Runs.toRegion 30 rfl ?_
 | (refine Runs.ctls 30 rfl ?_; first | refine Runs.cond_t rfl ?_ | ((first | refine Runs.cond_yes rfl ?_ ?_ | refine Runs.cond_nno rfl ?_ ?_); · first | omega | rfl | assumption | (simp only [List.length_map]; omega)) | ((first | refine Runs.cond_no rfl ?_ ?_ | refine Runs.cond_nyes rfl ?_ ?_); · first | omega | rfl | assumption | (simp only [List.length_map]; omega)) | refine Runs.ret (ends_ro hm rfl rfl ?_) | exact Runs.ret (ends_cellR hm rfl rfl rfl (Nat.le_of_ble_eq_true rfl) rfl rfl))
 | refine op_box rfl (tl hn rfl) ?_
 | refine op_alloc (tl hn rfl) ?_
 | refine op_storeN rfl rfl rfl rfl (Nat.le_of_ble_eq_true rfl) ?_
 | refine RunsD.step tabOk hn rfl rfl ?_
 | refine RunsD.nil ?_
 | refine Runs.toDraw 30 mixed hn rfl (by kernel_rfl) rfl ?_
 | ((first | refine RunsL.pe hn rfl rfl rfl ?_ | refine RunsD.pe rfl rfl ?_); first
 | refine ⟨_, pu_add rfl rfl (by omega), ?_⟩
 | refine ⟨_, pu_indexAddr_map rfl rfl (by omega) (by assumption), ?_⟩
 | refine ⟨_, pu_sub rfl rfl (by omega), ?_⟩
 | refine ⟨_, pu_pick_b rfl rfl rfl, ?_⟩
 | refine ⟨_, pu_mul rfl rfl (by omega), ?_⟩
 | refine ⟨_, pu_build rfl rfl rfl rfl rfl rfl, ?_⟩)
 | ((first | refine RunsL.guard_dec rfl rfl rfl ?_ ?_ | refine RunsL.guard_ndec rfl rfl rfl ?_ ?_ | refine RunsL.guard_nb rfl rfl rfl ?_ ?_ | refine RunsL.guard_b rfl rfl rfl ?_ ?_ | refine RunsD.guard_dec rfl rfl rfl ?_ ?_ | refine RunsD.guard_ndec rfl rfl rfl ?_ ?_ | refine RunsD.guard_nb rfl rfl rfl ?_ ?_ | refine RunsD.guard_b rfl rfl rfl ?_ ?_) <;> intro h <;> try (exfalso; first | omega | contradiction | (simp only [List.length_map] at h; omega))))
      refine Runs.loopN 30 rfl (fun j => [(5, .obj 1 0), (7, .obj 2 0), (8, .own 3), (10, .int (j : Int))]) (fun j => prS d x v (escN t0 (v.bytes.take j))) (fun _ => True) v.bytes.length 0 (Nat.zero_le _) trivial ⟨rfl, rfl, rfl, rfl, trivial⟩ rfl fun j hj _ next => ?_
      by_cases hlt : j < v.bytes.length
      · obtain ⟨c, hc⟩ : ∃ c, v.bytes[(j : Int).toNat]? = some c := ⟨_, List.getElem?_eq_getElem hlt⟩
        have hc' : v.bytes[j]? = some c := hc
        have hel := escN_len t0 (v.bytes.take j)
        have htl : (v.bytes.take j).length ≤ j := by rw [List.length_take]; omega
        have hcl := c.toNat_lt
        by_cases h1 : c = t0
        · have h1' : (c.toNat : Int) = t0.toNat := by rw [h1]
          repeat' (first
 | refine op_append (t := 146) (i := 3) (n := (escN t0 (v.bytes.take j)).length) (rs := (escN t0 (v.bytes.take j)).map RV.u8) (els := [[RV.u8 92]]) rfl rfl rfl rfl rfl rfl (by rw [List.length_map, Nat.mul_one]) (FreeI.at_ (i := 3) ⟨by simp [AV.onlys, AV.only], by simp [AV.onlys, AV.only], onlys_ro _ _, onlys_ro _ _, trivial⟩) (by simp only [List.length_cons, List.length_nil]; omega) (by simp only [List.length_cons, List.length_nil]; omega) (tl hn rfl) ?_
 | refine op_append (t := 154) (i := 3) (n := (escN t0 (v.bytes.take j)).length + 1) (rs := (escN t0 (v.bytes.take j)).map RV.u8 ++ [RV.u8 92]) (els := [[RV.u8 c]]) rfl rfl rfl rfl rfl rfl (by simp) (FreeI.at_ (i := 3) ⟨by simp [AV.onlys, AV.only], by simp [AV.onlys, AV.only], onlys_ro _ _, onlys_ro _ _, trivial⟩) (by simp only [List.length_cons, List.length_nil]; omega) (by simp only [List.length_cons, List.length_nil]; omega) (tl hn rfl) ?_
 | ((first | refine RunsL.pe hn rfl rfl rfl ?_ | refine RunsD.pe rfl rfl ?_); first
 | refine ⟨_, pu_len_seqN v.items.length rfl hni, ?_⟩
 | refine ⟨_, pu_len_seqN v.bytes.length rfl hnb, ?_⟩)
 | refine RunsL.step tabOk hn rfl ?_
 | refine RunsL.nil ?_
 | refine Runs.toRegion 30 rfl ?_
 | ((first | refine RunsL.pe hn rfl rfl rfl ?_ | refine RunsD.pe rfl rfl ?_); first
 | refine ⟨_, pu_build rfl rfl rfl rfl rfl rfl, ?_⟩)
 | (refine Runs.ctls 30 rfl ?_; first | refine Runs.cond_t rfl ?_ | ((first | refine Runs.cond_yes rfl ?_ ?_ | refine Runs.cond_nno rfl ?_ ?_); · first | omega | rfl | assumption | (simp only [List.length_map]; omega)) | ((first | refine Runs.cond_no rfl ?_ ?_ | refine Runs.cond_nyes rfl ?_ ?_); · first | omega | rfl | assumption | (simp only [List.length_map]; omega)) | refine Runs.ret (ends_ro hm rfl rfl ?_) | exact Runs.ret (ends_cellR hm rfl rfl rfl (Nat.le_of_ble_eq_true rfl) rfl rfl))
 | refine op_box rfl (tl hn rfl) ?_
 | refine op_alloc (tl hn rfl) ?_
 | refine op_storeN rfl rfl rfl rfl (Nat.le_of_ble_eq_true rfl) ?_
 | refine RunsD.step tabOk hn rfl rfl ?_
 | refine RunsD.nil ?_
 | refine Runs.toDraw 30 mixed hn rfl (by kernel_rfl) rfl ?_
 | ((first | refine RunsL.pe hn rfl rfl rfl ?_ | refine RunsD.pe rfl rfl ?_); first
 | refine ⟨_, pu_add rfl rfl (by omega), ?_⟩
 | refine ⟨_, pu_indexAddr_map rfl rfl (by omega) (by assumption), ?_⟩
 | refine ⟨_, pu_sub rfl rfl (by omega), ?_⟩
 | refine ⟨_, pu_pick_b rfl rfl rfl, ?_⟩
 | refine ⟨_, pu_mul rfl rfl (by omega), ?_⟩
 | refine ⟨_, pu_build rfl rfl rfl rfl rfl rfl, ?_⟩)
 | ((first | refine RunsL.guard_dec rfl rfl rfl ?_ ?_ | refine RunsL.guard_ndec rfl rfl rfl ?_ ?_ | refine RunsL.guard_nb rfl rfl rfl ?_ ?_ | refine RunsL.guard_b rfl rfl rfl ?_ ?_ | refine RunsD.guard_dec rfl rfl rfl ?_ ?_ | refine RunsD.guard_ndec rfl rfl rfl ?_ ?_ | refine RunsD.guard_nb rfl rfl rfl ?_ ?_ | refine RunsD.guard_b rfl rfl rfl ?_ ?_) <;> intro h <;> try (exfalso; first | omega | contradiction | (simp only [List.length_map] at h; omega))))
          refine next _ _ ⟨rfl, rfl, rfl, rfl, trivial⟩ hlt trivial ?_
          show prS d x v (escN t0 (v.bytes.take (j + 1))) = [_, _, _, Ob.mk _ _ _]
          rw [escN_next hc', if_pos (.inl h1)]
          simp only [prS, List.map_append, List.map_cons, List.map_nil, List.flatten_cons, List.flatten_nil, List.append_nil, List.append_assoc, List.cons_append, List.nil_append]
        by_cases h2 : c = 92
        · have h1' : ¬ (c.toNat : Int) = t0.toNat := fun e => h1 (UInt8.toNat_inj.1 (by omega))
          have h2' : (c.toNat : Int) = 92 := by rw [h2]; rfl
          repeat' (first
 | refine op_append (t := 146) (i := 3) (n := (escN t0 (v.bytes.take j)).length) (rs := (escN t0 (v.bytes.take j)).map RV.u8) (els := [[RV.u8 92]]) rfl rfl rfl rfl rfl rfl (by rw [List.length_map, Nat.mul_one]) (FreeI.at_ (i := 3) ⟨by simp [AV.onlys, AV.only], by simp [AV.onlys, AV.only], onlys_ro _ _, onlys_ro _ _, trivial⟩) (by simp only [List.length_cons, List.length_nil]; omega) (by simp only [List.length_cons, List.length_nil]; omega) (tl hn rfl) ?_
 | refine op_append (t := 154) (i := 3) (n := (escN t0 (v.bytes.take j)).length + 1) (rs := (escN t0 (v.bytes.take j)).map RV.u8 ++ [RV.u8 92]) (els := [[RV.u8 c]]) rfl rfl rfl rfl rfl rfl (by simp) (FreeI.at_ (i := 3) ⟨by simp [AV.onlys, AV.only], by simp [AV.onlys, AV.only], onlys_ro _ _, onlys_ro _ _, trivial⟩) (by simp only [List.length_cons, List.length_nil]; omega) (by simp only [List.length_cons, List.length_nil]; omega) (tl hn rfl) ?_
 | ((first | refine RunsL.pe hn rfl rfl rfl ?_ | refine RunsD.pe rfl rfl ?_); first
 | refine ⟨_, pu_len_seqN v.items.length rfl hni, ?_⟩
 | refine ⟨_, pu_len_seqN v.bytes.length rfl hnb, ?_⟩)
 | refine RunsL.step tabOk hn rfl ?_
 | refine RunsL.nil ?_
 | refine Runs.toRegion 30 rfl ?_
 | ((first | refine RunsL.pe hn rfl rfl rfl ?_ | refine RunsD.pe rfl rfl ?_); first
 | refine ⟨_, pu_build rfl rfl rfl rfl rfl rfl, ?_⟩)
 | (refine Runs.ctls 30 rfl ?_; first | refine Runs.cond_t rfl ?_ | ((first | refine Runs.cond_yes rfl ?_ ?_ | refine Runs.cond_nno rfl ?_ ?_); · first | omega | rfl | assumption | (simp only [List.length_map]; omega)) | ((first | refine Runs.cond_no rfl ?_ ?_ | refine Runs.cond_nyes rfl ?_ ?_); · first | omega | rfl | assumption | (simp only [List.length_map]; omega)) | refine Runs.ret (ends_ro hm rfl rfl ?_) | exact Runs.ret (ends_cellR hm rfl rfl rfl (Nat.le_of_ble_eq_true rfl) rfl rfl))
 | refine op_box rfl (tl hn rfl) ?_
 | refine op_alloc (tl hn rfl) ?_
 | refine op_storeN rfl rfl rfl rfl (Nat.le_of_ble_eq_true rfl) ?_
 | refine RunsD.step tabOk hn rfl rfl ?_
 | refine RunsD.nil ?_
 | refine Runs.toDraw 30 mixed hn rfl (by kernel_rfl) rfl ?_
 | ((first | refine RunsL.pe hn rfl rfl rfl ?_ | refine RunsD.pe rfl rfl ?_); first
 | refine ⟨_, pu_add rfl rfl (by omega), ?_⟩
 | refine ⟨_, pu_indexAddr_map rfl rfl (by omega) (by assumption), ?_⟩
 | refine ⟨_, pu_sub rfl rfl (by omega), ?_⟩
 | refine ⟨_, pu_pick_b rfl rfl rfl, ?_⟩
 | refine ⟨_, pu_mul rfl rfl (by omega), ?_⟩
 | refine ⟨_, pu_build rfl rfl rfl rfl rfl rfl, ?_⟩)
 | ((first | refine RunsL.guard_dec rfl rfl rfl ?_ ?_ | refine RunsL.guard_ndec rfl rfl rfl ?_ ?_ | refine RunsL.guard_nb rfl rfl rfl ?_ ?_ | refine RunsL.guard_b rfl rfl rfl ?_ ?_ | refine RunsD.guard_dec rfl rfl rfl ?_ ?_ | refine RunsD.guard_ndec rfl rfl rfl ?_ ?_ | refine RunsD.guard_nb rfl rfl rfl ?_ ?_ | refine RunsD.guard_b rfl rfl rfl ?_ ?_) <;> intro h <;> try (exfalso; first | omega | contradiction | (simp only [List.length_map] at h; omega))))
          refine next _ _ ⟨rfl, rfl, rfl, rfl, trivial⟩ hlt trivial ?_
          show prS d x v (escN t0 (v.bytes.take (j + 1))) = [_, _, _, Ob.mk _ _ _]
          rw [escN_next hc', if_pos (.inr h2)]
          simp only [prS, List.map_append, List.map_cons, List.map_nil, List.flatten_cons, List.flatten_nil, List.append_nil, List.append_assoc, List.cons_append, List.nil_append]
        · have h1' : ¬ (c.toNat : Int) = t0.toNat := fun e => h1 (UInt8.toNat_inj.1 (by omega))
          have h2' : ¬ (c.toNat : Int) = 92 := fun e => h2 (UInt8.toNat_inj.1 (by rw [show (92 : UInt8).toNat = 92 from rfl]; omega))
          repeat' (first
 | refine op_append (t := 154) (i := 3) (n := (escN t0 (v.bytes.take j)).length) (rs := (escN t0 (v.bytes.take j)).map RV.u8) (els := [[RV.u8 c]]) rfl rfl rfl rfl rfl rfl (by rw [List.length_map, Nat.mul_one]) (FreeI.at_ (i := 3) ⟨by simp [AV.onlys, AV.only], by simp [AV.onlys, AV.only], onlys_ro _ _, onlys_ro _ _, trivial⟩) (by simp only [List.length_cons, List.length_nil]; omega) (by simp only [List.length_cons, List.length_nil]; omega) (tl hn rfl) ?_
 | ((first | refine RunsL.pe hn rfl rfl rfl ?_ | refine RunsD.pe rfl rfl ?_); first
 | refine ⟨_, pu_len_seqN v.items.length rfl hni, ?_⟩
 | refine ⟨_, pu_len_seqN v.bytes.length rfl hnb, ?_⟩)
 | refine RunsL.step tabOk hn rfl ?_
 | refine RunsL.nil ?_
 | refine Runs.toRegion 30 rfl ?_
 | ((first | refine RunsL.pe hn rfl rfl rfl ?_ | refine RunsD.pe rfl rfl ?_); first
 | refine ⟨_, pu_build rfl rfl rfl rfl rfl rfl, ?_⟩)
 | (refine Runs.ctls 30 rfl ?_; first | refine Runs.cond_t rfl ?_ | ((first | refine Runs.cond_yes rfl ?_ ?_ | refine Runs.cond_nno rfl ?_ ?_); · first | omega | rfl | assumption | (simp only [List.length_map]; omega)) | ((first | refine Runs.cond_no rfl ?_ ?_ | refine Runs.cond_nyes rfl ?_ ?_); · first | omega | rfl | assumption | (simp only [List.length_map]; omega)) | refine Runs.ret (ends_ro hm rfl rfl ?_) | exact Runs.ret (ends_cellR hm rfl rfl rfl (Nat.le_of_ble_eq_true rfl) rfl rfl))
 | refine op_box rfl (tl hn rfl) ?_
 | refine op_alloc (tl hn rfl) ?_
 | refine op_storeN rfl rfl rfl rfl (Nat.le_of_ble_eq_true rfl) ?_
 | refine RunsD.step tabOk hn rfl rfl ?_
 | refine RunsD.nil ?_
 | refine Runs.toDraw 30 mixed hn rfl (by kernel_rfl) rfl ?_
 | ((first | refine RunsL.pe hn rfl rfl rfl ?_ | refine RunsD.pe rfl rfl ?_); first
 | refine ⟨_, pu_add rfl rfl (by omega), ?_⟩
 | refine ⟨_, pu_indexAddr_map rfl rfl (by omega) (by assumption), ?_⟩
 | refine ⟨_, pu_sub rfl rfl (by omega), ?_⟩
 | refine ⟨_, pu_pick_b rfl rfl rfl, ?_⟩
 | refine ⟨_, pu_mul rfl rfl (by omega), ?_⟩
 | refine ⟨_, pu_build rfl rfl rfl rfl rfl rfl, ?_⟩)
 | ((first | refine RunsL.guard_dec rfl rfl rfl ?_ ?_ | refine RunsL.guard_ndec rfl rfl rfl ?_ ?_ | refine RunsL.guard_nb rfl rfl rfl ?_ ?_ | refine RunsL.guard_b rfl rfl rfl ?_ ?_ | refine RunsD.guard_dec rfl rfl rfl ?_ ?_ | refine RunsD.guard_ndec rfl rfl rfl ?_ ?_ | refine RunsD.guard_nb rfl rfl rfl ?_ ?_ | refine RunsD.guard_b rfl rfl rfl ?_ ?_) <;> intro h <;> try (exfalso; first | omega | contradiction | (simp only [List.length_map] at h; omega))))
          refine next _ _ ⟨rfl, rfl, rfl, rfl, trivial⟩ hlt trivial ?_
          show prS d x v (escN t0 (v.bytes.take (j + 1))) = [_, _, _, Ob.mk _ _ _]
          rw [escN_next hc', if_neg (fun e => e.elim h1 h2)]
          simp only [prS, List.map_append, List.map_cons, List.map_nil, List.flatten_cons, List.flatten_nil, List.append_nil, List.append_assoc, List.cons_append, List.nil_append]
      · obtain rfl : j = v.bytes.length := by omega
        have htk : v.bytes.take v.bytes.length = v.bytes := List.take_length
        rw [htk]
        have hel := escN_len t0 v.bytes
        repeat' (first
 | refine op_append (t := 161) (i := 3) (n := (escN t0 v.bytes).length) (rs := (escN t0 v.bytes).map RV.u8) (els := [[RV.u8 t0]]) rfl rfl rfl rfl rfl rfl (by rw [List.length_map, Nat.mul_one]) (FreeI.at_ (i := 3) ⟨by simp [AV.onlys, AV.only], by simp [AV.onlys, AV.only], onlys_ro _ _, onlys_ro _ _, trivial⟩) (by simp only [List.length_cons, List.length_nil]; omega) (by simp only [List.length_cons, List.length_nil]; omega) (tl hn rfl) ?_
 | ((first | refine RunsL.pe hn rfl rfl rfl ?_ | refine RunsD.pe rfl rfl ?_); first
 | refine ⟨_, pu_len_seqN v.items.length rfl hni, ?_⟩
 | refine ⟨_, pu_len_seqN v.bytes.length rfl hnb, ?_⟩)
 | refine RunsL.step tabOk hn rfl ?_
 | refine RunsL.nil ?_
 | refine Runs.toRegion 30 rfl ?_
 | ((first | refine RunsL.pe hn rfl rfl rfl ?_ | refine RunsD.pe rfl rfl ?_); first
 | refine ⟨_, pu_build rfl rfl rfl rfl rfl rfl, ?_⟩)
 | (refine Runs.ctls 30 rfl ?_; first | refine Runs.cond_t rfl ?_ | ((first | refine Runs.cond_yes rfl ?_ ?_ | refine Runs.cond_nno rfl ?_ ?_); · first | omega | rfl | assumption | (simp only [List.length_map]; omega)) | ((first | refine Runs.cond_no rfl ?_ ?_ | refine Runs.cond_nyes rfl ?_ ?_); · first | omega | rfl | assumption | (simp only [List.length_map]; omega)) | refine Runs.ret (ends_ro hm rfl rfl ?_) | exact Runs.ret (ends_cellR hm rfl rfl rfl (Nat.le_of_ble_eq_true rfl) rfl rfl))
 | refine op_box rfl (tl hn rfl) ?_
 | refine op_alloc (tl hn rfl) ?_
 | refine op_storeN rfl rfl rfl rfl (Nat.le_of_ble_eq_true rfl) ?_
 | refine RunsD.step tabOk hn rfl rfl ?_
 | refine RunsD.nil ?_
 | refine Runs.toDraw 30 mixed hn rfl (by kernel_rfl) rfl ?_
 | ((first | refine RunsL.pe hn rfl rfl rfl ?_ | refine RunsD.pe rfl rfl ?_); first
 | refine ⟨_, pu_add rfl rfl (by omega), ?_⟩
 | refine ⟨_, pu_indexAddr_map rfl rfl (by omega) (by assumption), ?_⟩
 | refine ⟨_, pu_sub rfl rfl (by omega), ?_⟩
 | refine ⟨_, pu_pick_b rfl rfl rfl, ?_⟩
 | refine ⟨_, pu_mul rfl rfl (by omega), ?_⟩
 | refine ⟨_, pu_build rfl rfl rfl rfl rfl rfl, ?_⟩)
 | ((first | refine RunsL.guard_dec rfl rfl rfl ?_ ?_ | refine RunsL.guard_ndec rfl rfl rfl ?_ ?_ | refine RunsL.guard_nb rfl rfl rfl ?_ ?_ | refine RunsL.guard_b rfl rfl rfl ?_ ?_ | refine RunsD.guard_dec rfl rfl rfl ?_ ?_ | refine RunsD.guard_ndec rfl rfl rfl ?_ ?_ | refine RunsD.guard_nb rfl rfl rfl ?_ ?_ | refine RunsD.guard_b rfl rfl rfl ?_ ?_) <;> intro h <;> try (exfalso; first | omega | contradiction | (simp only [List.length_map] at h; omega))))
        refine Runs.ctls 30 rfl (Runs.ret (ends_ownR (i := 3) (els := (escN t0 v.bytes ++ [t0]).map fun z => [RV.u8 z]) hm rfl rfl rfl rfl ?_ fun x hx => by obtain ⟨y, _, rfl⟩ := List.mem_map.1 hx; rfl))
        show List.map AV.ro _ = List.map AV.ro _
        simp [u8_flats]
end Go.Proofs.Ytnecoghfhcimeaa
/- What is printed for a valid value begins as its rule says; PrintFile. -/
namespace Go.Proofs.Ytnecoghfhcimeaa
set_option linter.unusedSimpArgs false
set_option linter.unusedVariables false
open Go.RowKit
open AV (Mem Keeps)
theorem ends2e {P : Program} {C : Ctx} {fn : Func} {R : RR → Prop} {S : St} {t1 t2 : Nat} {r1 r2 : RV} (hm : ∀ b, ¬ C.mu b) (hr : fn.results = #[.tmp t1, .tmp t2]) (h1 : look S.env t1 = .ro r1) (h2 : look S.env t2 = .ro r2) (hR : R (.tup [.ro r1, .ro r2])) : ∀ a w, Sim C S a w → Ends P C fn R a w :=
  endsN hm (xs := [.tmp t1, .tmp t2]) hr (by simp) [.ro r1, .ro r2] ⟨_, _, rfl, h1.symm, _, _, rfl, h2.symm, rfl⟩ [.ro r1, .ro r2] [] ⟨_, _, [], [], rfl, rfl, ⟨rfl, rfl⟩, _, _, [], [], rfl, rfl, ⟨rfl, rfl⟩, rfl, rfl⟩ (by simp) hR
theorem acv_tup2e {P : Program} {f : FuncId} {args : List RV} {r1 r2 : RV} (h : AC P f args fun rr => rr = .tup [.ro r1, .ro r2]) : ACv P f args (.tup [r1, r2]) :=
  h.shut (by rintro _ rfl; simp only [Seals, SealsL]; exact ⟨_, rfl, _, _, rfl, rfl, _, _, rfl, rfl, rfl⟩)
theorem int_fit {d : Des} (hD : DrawD d) {z : Int} (hz : IsInt d z) : ∃ y, d[z.toNat]? = some y ∧ 0 ≤ z ∧ ∀ n : Int, 0 ≤ n → n ≤ lim d z → Fit n y.size := by
  obtain ⟨h0, h1, y, hy, k1⟩ := hz
  obtain ⟨k', _, _, hr, hk', _, _⟩ := hD.kinds hy
  have hs := hr.hsize.1 (by omega)
  refine ⟨y, hy, h0, fun n hn hl => ?_⟩
  rw [lim_yes hy ⟨h0, k1, hs.1, by omega⟩] at hl
  exact ⟨hs.1, by omega, hn, by omega⟩
theorem flat_head {ws : List (List UInt8)} {bs : List UInt8} (h : ws[0]? = some bs) (hb : 1 ≤ bs.length) : ws.flatten.headD 0 = bs.headD 0 ∧ bs.length ≤ ws.flatten.length := by
  cases ws with
  | nil => simp at h
  | cons c ws =>
    simp at h
    subst h
    cases c with
    | nil => simp at hb
    | cons x c => exact ⟨rfl, by simp⟩
theorem app_head {a b : List UInt8} (h : a ≠ []) : (a ++ b).headD 0 = a.headD 0 := by
  cases a with
  | nil => exact absurd rfl h
  | cons x a => rfl
set_option maxHeartbeats 8000000 in
theorem print_ac {d : Des} (hD : DrawD d) : ∀ v : Tre, v.Ok → v.total ≤ 16384 → ∀ (r : Nat) (x : Rul), d[r]? = some x → Vld d r v → ∃ bs, ACv Try.prog 139 [desR d, .int (r : Int), treR v] (bytesR bs) ∧ Prt d r v bs := by
  refine Tre.ind fun v ih hvo ht r x hx hv => ?_
  have hG := hD.good
  obtain ⟨hown, hit⟩ := (vld_iff hx).1 hv
  have hte := v.total_eq
  have hce := v.count_eq
  have hwe := v.weight_eq
  have hcl := v.count_le
  have hwl' := v.weight_le
  have hvi := hvo.out.2.2.2
  obtain ⟨ws, hwl, hws⟩ := pick_items (fun j y bs => ∃ q : Nat, itemR x v.number j = q ∧ q < r ∧ ACv Try.prog 139 [desR d, .int (itemR x v.number j), treR y] (bytesR bs) ∧ Prt d q y bs) v.items 0 (fun j y hj => by
    have hjl := (List.getElem?_eq_some_iff.1 hj).1
    have hm := List.mem_of_getElem? hj
    have hb := own_item hG hx hown hjl
    have hs := sum_mem_le (f := Tre.total) hm
    obtain ⟨q, hq⟩ : ∃ q : Nat, itemR x v.number j = q := ⟨(itemR x v.number j).toNat, by omega⟩
    have h1 := hit j y hj
    rw [hq] at h1 hb
    obtain ⟨bs, h2, h3⟩ := ih y hm (hvi y hm) (by omega) q _ (List.getElem?_eq_getElem (show q < d.length by have := (List.getElem?_eq_some_iff.1 hx).1; omega)) h1
    rw [Nat.zero_add]
    exact ⟨bs, q, hq, by omega, by rw [hq]; exact h2, h3⟩)
  have hfm := flat_most v.items ws hwl fun j y bs hj hj' => by
    obtain ⟨q, _, _, _, h⟩ := hws j y bs hj hj'
    exact h.most
  have hw : ∀ (j : Nat) y bs, v.items[j]? = some y → ws[j]? = some bs → ACv Try.prog 139 [desR d, .int (itemR x v.number j), treR y] (bytesR bs) := fun j y bs hj hj' => by
    obtain ⟨q, _, _, h, _⟩ := hws j y bs hj hj'
    rwa [Nat.zero_add] at h
  have hfl : ws.flatten.length ≤ 200000 := by omega
  have W := print_walk hD v hvo (by omega) r x hx hv ws hwl hfl hw
  obtain ⟨k', k1, k2, hr, hk', _, hrl⟩ := hD.kinds hx
  have hlen := hD.lens hx
  have hfirst : ∀ b : Nat, stB d (r + 1) r b = _ := fun b => stB_at hx
  have hdef : ∀ b : Nat, (x.kind = 1 ∨ x.kind = 3 ∨ x.kind = 4 ∨ x.kind = 5 ∨ x.kind = 10) → stB d (r + 1) r b = true := fun b e => by
    rw [hfirst, if_neg (by omega), if_neg (by omega), if_neg (by omega), if_neg (by omega)]
  have hne : ∀ {l : List UInt8}, 1 ≤ l.length → l ≠ [] := fun {l} h e => by subst e; simp at h
  -- the first item, of kinds 6 and 9
  have hone : (x.kind = 6 ∨ x.kind = 9) → 0 < v.items.length → 1 ≤ ws.flatten.length ∧ stB d (r + 1) r (ws.flatten.headD 0).toNat = true := fun e hpos => by
    obtain ⟨y, hy⟩ : ∃ y, v.items[0]? = some y := ⟨_, List.getElem?_eq_getElem hpos⟩
    obtain ⟨bs, hbs⟩ : ∃ bs, ws[0]? = some bs := ⟨_, List.getElem?_eq_getElem (by omega)⟩
    obtain ⟨q, hq, hqr, _, hp⟩ := hws 0 y bs hy hbs
    obtain ⟨h1, h2⟩ := flat_head hbs hp.pos
    have hpp := hp.pos
    refine ⟨by omega, ?_⟩
    rw [h1, hfirst, if_neg (by omega), if_pos e]
    have hk0 : x.kids.headD 0 = q := by
      have hkl : 0 < x.kids.length := by
        rcases e with e | e
        · have := hr.hkids.2.2.1 (by omega); have := hr.hnames.1 (by omega); omega
        · obtain ⟨z, _, hz⟩ := hr.hkids.2.2.2.2.1 (by omega); rw [hz]; simp
      have hh : x.kids[0]? = some (x.kids.headD 0) := by
        cases hxk : x.kids with
        | nil => rw [hxk] at hkl; simp at hkl
        | cons a l => rfl
      simp only [Nat.add_zero, Nat.zero_add] at hq
      unfold itemR at hq
      rw [if_neg (by omega)] at hq
      rcases e with e | e
      · rw [if_pos e] at hq
        rw [show ((0 : Nat) : Int).toNat = 0 from rfl, hh] at hq
        exact hq
      · rw [if_neg (by omega), if_neg (by omega), if_pos (.inr e), hh] at hq
        exact hq
    rw [hk0, Int.toNat_natCast, stB_deep hG q (by omega) r hqr]
    exact hp.first
  by_cases e1 : x.kind = 1
  · unfold OwnV at hown
    rw [if_pos e1] at hown
    have hs := hr.hsize.1 (by omega)
    have hf : Fit v.number x.size := ⟨hs.1, by omega, hown.1.1, by omega⟩
    have hl := encI_fit hf
    exact ⟨_, W _ (.inl ⟨e1, rfl, hne hl.1⟩), hl.1, by omega, hdef _ (.inl e1)⟩
  by_cases e2 : x.kind = 2
  · have hb := hr.hbytes.1 (by omega)
    refine ⟨_, W _ (.inr (.inl ⟨e2, rfl⟩)), hb.1, by omega, ?_⟩
    rw [hfirst, if_pos e2]
    exact decide_eq_true rfl
  by_cases e3 : x.kind = 3
  · have hs := hr.hsize.2.1 (by omega)
    unfold OwnV at hown
    rw [if_neg e1, if_neg e2, if_pos e3] at hown
    exact ⟨_, W _ (.inr (.inr (.inl ⟨e3, rfl⟩))), by omega, by omega, hdef _ (.inr (.inl e3))⟩
  by_cases e4 : x.kind = 4
  · obtain ⟨z, hz, hkd⟩ := hr.hkids.1 (by omega)
    obtain ⟨y, hy, hz0, hfit⟩ := int_fit hD hz.up.1
    unfold OwnV at hown
    rw [if_neg e1, if_neg e2, if_neg e3, if_pos e4, hkd] at hown
    have hml := (mn_le 400 (lim d z)).2.1
    have hm : (v.bytes.length : Int) ≤ mn 400 (lim d z) := hown.2.1
    have hf := hfit v.bytes.length (by omega) (by omega)
    have hl := encI_fit hf
    exact ⟨_, W _ (.inr (.inr (.inr (.inl ⟨z, y, e4, by rw [hkd]; rfl, hy, hz0, rfl, hne hl.1⟩)))), by rw [List.length_append]; omega, by rw [List.length_append]; omega, hdef _ (.inr (.inr (.inl e4)))⟩
  by_cases e5 : x.kind = 5
  · obtain ⟨z, z', hz, _, hkd⟩ := hr.hkids.2.1 (by omega)
    obtain ⟨y, hy, hz0, hfit⟩ := int_fit hD hz.up.1
    unfold OwnV at hown
    rw [if_neg e1, if_neg e2, if_neg e3, if_neg e4, if_neg (by omega), if_pos e5, hkd] at hown
    have hml := (mn_le 40 (lim d z)).2.1
    have hm : (v.items.length : Int) ≤ mn 40 (lim d z) := hown.2.2
    have hf := hfit v.items.length (by omega) (by omega)
    have hl := encI_fit hf
    exact ⟨_, W _ (.inr (.inr (.inr (.inr (.inl ⟨z, y, e5, by rw [hkd]; rfl, hy, hz0, rfl, hne hl.1⟩))))), by rw [List.length_append]; omega, by rw [List.length_append]; omega, hdef _ (.inr (.inr (.inr (.inl e5))))⟩
  by_cases e6 : x.kind = 6
  · have hil : v.items.length = x.kids.length := by
      unfold OwnV at hown
      rw [if_neg e1, if_neg e2, if_neg e3, if_neg e4, if_neg (by omega), if_neg e5, if_pos e6] at hown
      exact hown.2.2
    have hkk := (hr.hkids.2.2.1 (by omega)).1
    have hnn := hr.hnames.1 (by omega)
    obtain ⟨h1, h2⟩ := hone (.inl e6) (by omega)
    exact ⟨_, W _ (.inr (.inr (.inr (.inr (.inr (.inl ⟨e6, rfl⟩)))))), h1, by omega, h2⟩
  by_cases e7 : x.kind = 7
  · obtain ⟨z, kl, hz, hkl, _, hkd⟩ := hr.hkids.2.2.2.1 (by omega)
    obtain ⟨y, hy, hz0, hfit⟩ := int_fit hD hz.up.1
    have hTo := (item_fields (kind_at hG hx)).2.1 e7
    unfold OwnV at hown
    rw [if_neg e1, if_neg e2, if_neg e3, if_neg e4, if_neg (by omega), if_neg e5, if_neg e6, if_pos e7] at hown
    have hnb := itemR_choice hTo e7 hown.2.2
    have hk0 : x.kids.headD 0 = z := by rw [hkd]; rfl
    rw [hk0] at hnb
    have hf := hfit v.number hnb.1 hnb.2
    have hl := encI_fit hf
    refine ⟨_, W _ (.inr (.inr (.inr (.inr (.inr (.inr (.inl ⟨z, y, e7, by rw [hkd]; rfl, hy, hz0, rfl, hne hl.1⟩))))))), by rw [List.length_append]; omega, by rw [List.length_append]; omega, ?_⟩
    rw [app_head (hne hl.1), hfirst, if_neg e2, if_neg (by omega), if_pos e7, hk0, hy]
    have hmem : v.number ∈ x.tags := by
      have h0 := hown.2.2
      unfold itemR at h0
      rw [if_neg e5, if_neg e6, if_pos e7] at h0
      have : tagIx x.tags v.number < x.tags.length := by
        rcases Nat.lt_or_ge (tagIx x.tags v.number) x.tags.length with h | h
        · exact h
        · rw [getD_none (by rw [hkd]; simp; omega)] at h0; omega
      exact List.mem_of_getElem? (tagIx_at this)
    exact List.any_eq_true.2 ⟨_, hmem, decide_eq_true rfl⟩
  by_cases e8 : x.kind = 8
  · unfold OwnV at hown
    rw [if_neg e1, if_neg e2, if_neg e3, if_neg e4, if_neg (by omega), if_neg e5, if_neg e6, if_neg e7, if_pos e8] at hown
    refine ⟨_, W _ (.inr (.inr (.inr (.inr (.inr (.inr (.inr (.inl ⟨e8, rfl⟩)))))))), by simp, by rw [List.length_cons]; omega, ?_⟩
    rw [hfirst, if_neg e2, if_neg (by omega), if_neg e7, if_pos e8]
    refine decide_eq_true ?_
    show (u8i (v.items.length : Int)).toNat < 2
    have : v.items.length = 0 ∨ v.items.length = 1 := by omega
    rcases this with h | h <;> rw [h] <;> decide
  by_cases e9 : x.kind = 9
  · unfold OwnV at hown
    rw [if_neg e1, if_neg e2, if_neg e3, if_neg e4, if_neg (by omega), if_neg e5, if_neg e6, if_neg e7, if_neg e8] at hown
    obtain ⟨s, _, _, hs⟩ := sumOfBytes_ac ws.flatten (by omega)
    obtain ⟨h1, h2⟩ := hone (.inr e9) (by omega)
    refine ⟨_, W _ (.inr (.inr (.inr (.inr (.inr (.inr (.inr (.inr (.inl ⟨s, e9, hs, rfl⟩))))))))), by rw [List.length_append]; omega, by rw [List.length_append, List.length_singleton]; omega, ?_⟩
    rw [app_head (hne h1)]
    exact h2
  have e10 : x.kind = 10 := by omega
  unfold OwnV at hown
  rw [if_neg e1, if_neg e2, if_neg e3, if_neg e4, if_pos e10] at hown
  obtain ⟨y0, hy0, hbk⟩ := hr.hbytes.2.1 (by omega)
  have hw0 : ws.flatten = [] := by
    have : ws.length = 0 := by omega
    rw [List.length_eq_zero_iff.1 this]; rfl
  have hel := escN_len (u8i y0) v.bytes
  refine ⟨_, W _ (.inr (.inr (.inr (.inr (.inr (.inr (.inr (.inr (.inr ⟨u8i y0, e10, by rw [hbk]; rfl, hw0, rfl⟩))))))))), by rw [List.length_append, List.length_singleton]; omega, by rw [List.length_append, List.length_singleton]; omega, hdef _ (.inr (.inr (.inr (.inr e10))))⟩
theorem spec_RootOf' (d : Des) (h1 : 1 ≤ d.length) (h2 : d.length ≤ 1000) : ACv Try.prog 97 [desR d] (.int ((d.length : Int) - 1)) := by
  have hlm : (d.map rulR).length = d.length := List.length_map ..
  refine ac_enter Try.func97 rfl _ Try.ntmps97 (by simp) fun C hn hm => ?_
  repeat' (first
 | (refine RunsL.pe hn rfl rfl rfl ?_; first
 | refine ⟨_, pu_len_seqN d.length rfl hlm, ?_⟩)
 | refine RunsL.step tabOk hn rfl ?_
 | refine RunsL.nil ?_
 | refine Runs.toRegion 30 rfl ?_
 | (refine Runs.ctls 30 rfl ?_; first | ((first | refine Runs.cond_yes rfl ?_ ?_ | refine Runs.cond_nno rfl ?_ ?_); · first | omega | rfl | assumption | (simp only [List.length_map]; omega)) | ((first | refine Runs.cond_no rfl ?_ ?_ | refine Runs.cond_nyes rfl ?_ ?_); · first | omega | rfl | assumption | (simp only [List.length_map]; omega)) | refine Runs.ret (ends_ro hm rfl rfl ?_) | exact Runs.ret (ends_cellR hm rfl rfl rfl (Nat.le_of_ble_eq_true rfl) rfl rfl))
 | refine op_box rfl (tl hn rfl) ?_
 | (refine RunsL.pe hn rfl rfl rfl ?_; first
 | refine ⟨_, pu_sub rfl rfl (by omega), ?_⟩
      ))
  all_goals exact rr_int rfl
set_option maxHeartbeats 4000000 in
theorem printValue_ac {d : Des} (hD : DrawD d) (v : Tre) (hvo : v.Ok) (ht : v.total ≤ 16384) (r : Nat) (x : Rul) (hx : d[r]? = some x) (hv : Vld d r v) : ∃ bs ok, ACv Try.prog 96 [desR d, .int (r : Int), treR v] (.tup [bytesR bs, .bool ok]) ∧ (ok = true → Prt d r v bs) := by
  obtain ⟨bs, hP, hp⟩ := print_ac hD v hvo ht r x hx hv
  have hV := spec_IsValidValue d hD.desOk (by have := hD.total; omega) r v hvo
  rw [decide_eq_true ⟨⟨hD.good, by unfold HasR; have := (List.getElem?_eq_some_iff.1 hx).1; omega⟩, hv⟩] at hV
  have hbl : (bs.map fun z => [RV.u8 z]).length = bs.length := List.length_map ..
  have hpm := hp.most
  have hcl := v.count_le
  have hwl := v.weight_le
  by_cases hl : 400 < bs.length
  · refine ⟨[], false, acv_tup2e ?_, fun e => by cases e⟩
    refine ac_enter Try.func96 rfl _ Try.ntmps96 (by simp) fun C hn hm => ?_
    repeat' (first
 | (refine RunsL.pe hn rfl rfl rfl ?_; first
 | refine ⟨_, pu_len_seqN bs.length rfl hbl, ?_⟩)
 | refine RunsL.step tabOk hn rfl ?_
 | refine RunsL.nil ?_
 | refine Runs.toRegion 30 rfl ?_
 | (refine RunsL.pe hn rfl rfl rfl ?_; first
 | refine ⟨_, pu_callR hV rfl, ?_⟩
 | refine ⟨_, pu_callR hP rfl, ?_⟩
 | refine ⟨_, pu_build0, ?_⟩)
 | (refine Runs.ctls 30 rfl ?_; first | refine Runs.cond_f rfl ?_ | ((first | refine Runs.cond_yes rfl ?_ ?_ | refine Runs.cond_nno rfl ?_ ?_); · first | omega | rfl | assumption | (simp only [List.length_map]; omega)) | ((first | refine Runs.cond_no rfl ?_ ?_ | refine Runs.cond_nyes rfl ?_ ?_); · first | omega | rfl | assumption | (simp only [List.length_map]; omega)) | refine Runs.ret (ends_ro hm rfl rfl ?_) | exact Runs.ret (ends_cellR hm rfl rfl rfl (Nat.le_of_ble_eq_true rfl) rfl rfl))
 | refine op_box rfl (tl hn rfl) ?_
      )
    all_goals exact Runs.ctls 30 rfl (Runs.ret (ends2e hm rfl rfl rfl rfl))
  · refine ⟨bs, true, acv_tup2e ?_, fun _ => hp⟩
    refine ac_enter Try.func96 rfl _ Try.ntmps96 (by simp) fun C hn hm => ?_
    repeat' (first
 | (refine RunsL.pe hn rfl rfl rfl ?_; first
 | refine ⟨_, pu_len_seqN bs.length rfl hbl, ?_⟩)
 | refine RunsL.step tabOk hn rfl ?_
 | refine RunsL.nil ?_
 | refine Runs.toRegion 30 rfl ?_
 | (refine RunsL.pe hn rfl rfl rfl ?_; first
 | refine ⟨_, pu_callR hV rfl, ?_⟩
 | refine ⟨_, pu_callR hP rfl, ?_⟩
 | refine ⟨_, pu_build0, ?_⟩)
 | (refine Runs.ctls 30 rfl ?_; first | refine Runs.cond_f rfl ?_ | ((first | refine Runs.cond_yes rfl ?_ ?_ | refine Runs.cond_nno rfl ?_ ?_); · first | omega | rfl | assumption | (simp only [List.length_map]; omega)) | ((first | refine Runs.cond_no rfl ?_ ?_ | refine Runs.cond_nyes rfl ?_ ?_); · first | omega | rfl | assumption | (simp only [List.length_map]; omega)) | refine Runs.ret (ends_ro hm rfl rfl ?_) | exact Runs.ret (ends_cellR hm rfl rfl rfl (Nat.le_of_ble_eq_true rfl) rfl rfl))
 | refine op_box rfl (tl hn rfl) ?_
      )
    all_goals exact Runs.ctls 30 rfl (Runs.ret (ends2e hm rfl rfl rfl rfl))
set_option maxHeartbeats 4000000 in
theorem printFile_ac {d : Des} (hD : DrawD d) (v : Tre) (hvo : v.Ok) (ht : v.total ≤ 16384) (x : Rul) (hx : d[d.length - 1]? = some x) (hv : Vld d (d.length - 1) v) : ∃ bs ok, ACv Try.prog 37 [desR d, treR v] (.tup [bytesR bs, .bool ok]) ∧ (ok = true → Prt d (d.length - 1) v bs) := by
  obtain ⟨bs, ok, hP, hp⟩ := printValue_ac hD v hvo ht _ x hx hv
  have hR := spec_RootOf' d hD.pos (by have := hD.most; omega)
  have hpos := hD.pos
  rw [show ((d.length - 1 : Nat) : Int) = (d.length : Int) - 1 by omega] at hP
  refine ⟨bs, ok, acv_tup2e ?_, hp⟩
  refine ac_enter Try.func37 rfl _ Try.ntmps37 (by simp) fun C hn hm => ?_
  repeat' (first
 | refine RunsL.step tabOk hn rfl ?_
 | refine RunsL.nil ?_
 | refine Runs.toRegion 30 rfl ?_
 | ((first | refine RunsL.pe hn rfl rfl rfl ?_ | refine RunsD.pe rfl rfl ?_); first
 | refine ⟨_, pu_callR hR rfl, ?_⟩
 | refine ⟨_, pu_callR hP rfl, ?_⟩)
 | (refine Runs.ctls 30 rfl ?_; first | ((first | refine Runs.cond_yes rfl ?_ ?_ | refine Runs.cond_nno rfl ?_ ?_); · first | omega | rfl | assumption | (simp only [List.length_map]; omega)) | ((first | refine Runs.cond_no rfl ?_ ?_ | refine Runs.cond_nyes rfl ?_ ?_); · first | omega | rfl | assumption | (simp only [List.length_map]; omega)) | refine Runs.ret (ends_ro hm rfl rfl ?_) | exact Runs.ret (ends_cellR hm rfl rfl rfl (Nat.le_of_ble_eq_true rfl) rfl rfl))
 | refine op_box rfl (tl hn rfl) ?_
 | refine RunsD.step tabOk hn rfl rfl ?_
 | refine RunsD.nil ?_
 | refine Runs.toDraw 30 mixed hn rfl (by kernel_rfl) rfl ?_
 | ((first | refine RunsL.pe hn rfl rfl rfl ?_ | refine RunsD.pe rfl rfl ?_); first
 | refine ⟨_, pu_add rfl rfl (by omega), ?_⟩
 | refine ⟨_, pu_indexAddr_map rfl rfl (by omega) (by assumption), ?_⟩
 | refine ⟨_, pu_sub rfl rfl (by omega), ?_⟩
 | refine ⟨_, pu_pick_b rfl rfl rfl, ?_⟩
 | refine ⟨_, pu_mul rfl rfl (by omega), ?_⟩
 | refine ⟨_, pu_build rfl rfl rfl rfl rfl rfl, ?_⟩))
  all_goals exact Runs.ctls 30 rfl (Runs.ret (ends2e hm rfl rfl rfl rfl))
end Go.Proofs.Ytnecoghfhcimeaa
/- CanStart and what leans on it: both sides. -/
namespace Go.Proofs.Ytnecoghfhcimeaa
set_option linter.unusedSimpArgs false
set_option linter.unusedVariables false
open Go.RowKit
noncomputable def canB (d : Des) (rule b : Int) : Bool := decide (Kn d rule ∧ 0 ≤ b ∧ b ≤ 255) && stB d (rule.toNat + 1) rule.toNat b.toNat
theorem canB_no {d : Des} {rule b : Int} (h : ¬ (Kn d rule ∧ 0 ≤ b ∧ b ≤ 255)) : canB d rule b = false := by unfold canB; rw [decide_eq_false h]; rfl
theorem canB_yes {d : Des} {rule b : Int} (h : Kn d rule ∧ 0 ≤ b ∧ b ≤ 255) : canB d rule b = stB d (rule.toNat + 1) rule.toNat b.toNat := by unfold canB; rw [decide_eq_true h]; rfl
set_option maxHeartbeats 4000000 in
theorem impl_CanStart (d : Des) (ho : DesOk d) (hd : dtotal d ≤ 1048576) (rule b : Int) : ACv Try.prog 29 [desR d, .int rule, .int b] (.bool (canB d rule b)) := by
  have hk := known_ac d ho hd rule
  by_cases hK : Kn d rule
  · obtain ⟨r, rfl⟩ : ∃ r : Nat, rule = r := ⟨rule.toNat, by have := hK.2; omega⟩
    have hs := startBytes_ac d ho hK.1 r (by have := hK.2; omega)
    by_cases hb : 0 ≤ b ∧ b ≤ 255
    · rw [canB_yes ⟨hK, hb⟩]
      refine ac_enter Try.func29 rfl _ Try.ntmps29 (by simp) fun C hn hm => ?_
      repeat' (first
 | refine RunsL.step tabOk hn rfl ?_
 | refine RunsL.nil ?_
 | refine Runs.toRegion 30 rfl ?_
 | (refine RunsL.pe hn rfl rfl rfl ?_; first
 | refine ⟨_, pu_callR hk rfl, ?_⟩
 | refine ⟨_, pu_callR (inRange_ac _ _ _) rfl, ?_⟩
 | refine ⟨_, pu_callR hs rfl, ?_⟩
 | refine ⟨_, pu_indexA (n := 256) Try.underlying100 rfl rfl (by omega) (by omega) rfl, ?_⟩)
 | (refine Runs.ctls 30 rfl ?_; first | ((first | refine Runs.cond_yes rfl ?_ ?_ | refine Runs.cond_nno rfl ?_ ?_); · first | omega | rfl | assumption | (simp only [List.length_map]; omega)) | ((first | refine Runs.cond_no rfl ?_ ?_ | refine Runs.cond_nyes rfl ?_ ?_); · first | omega | rfl | assumption | (simp only [List.length_map]; omega)) | refine Runs.ret (ends_ro hm rfl rfl ?_) | exact Runs.ret (ends_cellR hm rfl rfl rfl (Nat.le_of_ble_eq_true rfl) rfl rfl))
 | refine op_box rfl (tl hn rfl) ?_
 | ((first | refine RunsL.guard_dec rfl rfl rfl ?_ ?_ | refine RunsL.guard_ndec rfl rfl rfl ?_ ?_ | refine RunsL.guard_nb rfl rfl rfl ?_ ?_ | refine RunsL.guard_b rfl rfl rfl ?_ ?_) <;> intro h <;> try (exfalso; first | omega | contradiction | (simp only [List.length_map] at h; omega))))
      all_goals exact rr_bool (by simp [*])
    · rw [canB_no fun h => hb h.2]
      refine ac_enter Try.func29 rfl _ Try.ntmps29 (by simp) fun C hn hm => ?_
      repeat' (first
 | refine RunsL.step tabOk hn rfl ?_
 | refine RunsL.nil ?_
 | refine Runs.toRegion 30 rfl ?_
 | (refine RunsL.pe hn rfl rfl rfl ?_; first
 | refine ⟨_, pu_callR hk rfl, ?_⟩
 | refine ⟨_, pu_callR (inRange_ac _ _ _) rfl, ?_⟩)
 | (refine Runs.ctls 30 rfl ?_; first | ((first | refine Runs.cond_yes rfl ?_ ?_ | refine Runs.cond_nno rfl ?_ ?_); · first | omega | rfl | assumption | (simp only [List.length_map]; omega)) | ((first | refine Runs.cond_no rfl ?_ ?_ | refine Runs.cond_nyes rfl ?_ ?_); · first | omega | rfl | assumption | (simp only [List.length_map]; omega)) | refine Runs.ret (ends_ro hm rfl rfl ?_) | exact Runs.ret (ends_cellR hm rfl rfl rfl (Nat.le_of_ble_eq_true rfl) rfl rfl))
 | refine op_box rfl (tl hn rfl) ?_
 | ((first | refine RunsL.guard_dec rfl rfl rfl ?_ ?_ | refine RunsL.guard_ndec rfl rfl rfl ?_ ?_ | refine RunsL.guard_nb rfl rfl rfl ?_ ?_ | refine RunsL.guard_b rfl rfl rfl ?_ ?_) <;> intro h <;> try (exfalso; first | omega | contradiction | (simp only [List.length_map] at h; omega))))
      all_goals first
        | exact rr_bool rfl
        | (exfalso; omega)
  · rw [canB_no fun h => hK h.1]
    refine ac_enter Try.func29 rfl _ Try.ntmps29 (by simp) fun C hn hm => ?_
    repeat' (first
 | refine RunsL.step tabOk hn rfl ?_
 | refine RunsL.nil ?_
 | refine Runs.toRegion 30 rfl ?_
 | (refine RunsL.pe hn rfl rfl rfl ?_; first
 | refine ⟨_, pu_callR hk rfl, ?_⟩
 | refine ⟨_, pu_callR (inRange_ac _ _ _) rfl, ?_⟩)
 | (refine Runs.ctls 30 rfl ?_; first | ((first | refine Runs.cond_yes rfl ?_ ?_ | refine Runs.cond_nno rfl ?_ ?_); · first | omega | rfl | assumption | (simp only [List.length_map]; omega)) | ((first | refine Runs.cond_no rfl ?_ ?_ | refine Runs.cond_nyes rfl ?_ ?_); · first | omega | rfl | assumption | (simp only [List.length_map]; omega)) | refine Runs.ret (ends_ro hm rfl rfl ?_) | exact Runs.ret (ends_cellR hm rfl rfl rfl (Nat.le_of_ble_eq_true rfl) rfl rfl))
 | refine op_box rfl (tl hn rfl) ?_
 | ((first | refine RunsL.guard_dec rfl rfl rfl ?_ ?_ | refine RunsL.guard_ndec rfl rfl rfl ?_ ?_ | refine RunsL.guard_nb rfl rfl rfl ?_ ?_ | refine RunsL.guard_b rfl rfl rfl ?_ ?_) <;> intro h <;> try (exfalso; first | omega | contradiction | (simp only [List.length_map] at h; omega))))
    all_goals exact rr_bool rfl
end Go.Proofs.Ytnecoghfhcimeaa
