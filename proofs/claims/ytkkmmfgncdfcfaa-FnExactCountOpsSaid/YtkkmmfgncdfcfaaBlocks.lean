/- BlockOf, CountOps of both packages. -/
import Derived.Test.YtkkmmfgncdfcfaaKindP
namespace Go.Proofs.Ytkkmmfgncdfcfaa
open Go.RowKit

/-- The greatest index below k of an entry that is not above idx, or -1. -/
def blkTo (es : List Int) (idx : Int) : Nat → Int
  | 0 => -1
  | k + 1 => if es.getD k 0 ≤ idx then (k : Int) else blkTo es idx k
def blockOf (es : List Int) (idx : Int) : Int := blkTo es idx es.length
def countOp (op : Int) (is : List Ins) : Nat := (is.filter fun i => i.op == op).length
theorem countOp_le (op : Int) (is : List Ins) : countOp op is ≤ is.length := List.length_filter_le _ _
theorem countOp_snoc (op : Int) (is : List Ins) (k : Nat) (h : k < is.length) : countOp op (is.take (k + 1)) = countOp op (is.take k) + if is[k].op == op then 1 else 0 := by
  rw [List.take_succ_eq_append_getElem h, countOp, List.filter_append, List.length_append]
  congr 1
  by_cases hh : is[k].op == op <;> simp [hh]
theorem blk_hit {es : List Int} {idx : Int} {k : Nat} (hk : k < es.length) (h : es[k] ≤ idx) : blkTo es idx (k + 1) = (k : Int) := by
  rw [blkTo, if_pos (by simpa [List.getD_eq_getElem?_getD, hk] using h)]
theorem blk_miss {es : List Int} {idx : Int} {k : Nat} (hk : k < es.length) (h : ¬ es[k] ≤ idx) : blkTo es idx (k + 1) = blkTo es idx k := by
  rw [blkTo, if_neg (by simpa [List.getD_eq_getElem?_getD, hk] using h)]
theorem blkTo_bd (es : List Int) (idx : Int) (k : Nat) : -1 ≤ blkTo es idx k ∧ blkTo es idx k < k := by
  induction k with
  | zero => simp [blkTo]
  | succ k ih => rw [blkTo]; split <;> omega

set_option maxHeartbeats 1000000 in
theorem impl_BlockOf (w : World) (v : Value) (p : Prg) (h : RawP w v p) (z : SzP p) (i : Int) (hi : I64 i) :
    Calls Try.prog 30 #[v, .int .i64 i] w fun e w' => e = .returned (.int .i64 (blockOf p.entries i)) ∧ Below w.heap.size w w' := by
  obtain ⟨vc, ve, rfl, hN, ⟨A, n, c, rfl, hR, hnc, hcm⟩⟩ := h
  have hlen := RdI.len hR
  have hn : n ≤ 1048576 := by have := z.len; omega
  have HR := Lib.hid hR; clear hR hN
  go_enter Try.func30, Try.ntmps30
  go_wp2
  go_loopg [5] (n + 1) (fun left iv wr => ∃ k : Nat, k + 1 = left ∧ k ≤ n ∧ iv = .int .i64 ((k : Int) - 1) ∧ Hid (blockOf p.entries i = blkTo p.entries i k) ∧ wr = w.alloc (.cells #[vc, .slice A n c] 49))
  case atStart => exact ⟨n, rfl, Nat.le_refl _, rfl, by unfold Hid blockOf; rw [hlen], rfl⟩
  case round =>
    obtain ⟨k, rfl, hkn, rfl, HK, rfl⟩ := hrel
    cases k with
    | zero =>
      go_wp2
      go_ret
      exact ⟨by rw [HK.out]; rfl, below_one _ _⟩
    | succ k =>
      obtain ⟨b, o, hl, rfl, hc0⟩ := RdI.at_ (HR.out.below (below_one w (.cells #[vc, .slice A n c] 49))) (show k < n by omega)
      obtain ⟨e, he⟩ : ∃ e, p.entries[k] = e := ⟨_, rfl⟩
      rw [he] at hc0
      have HE := Lib.hid he; clear he
      have ek : ((k + 1 : Nat) : Int) - 1 = (k : Int) := by omega
      rw [ek]; clear ek
      by_cases hle : e ≤ i
      · have HH := Lib.hid (blk_hit (idx := i) hl (by rw [HE.out]; exact hle))
        go_wp2
        go_ret
        exact ⟨ret_i (by rw [HK.out, HH.out]), below_one _ _⟩
      · have HH := Lib.hid (blk_miss (idx := i) hl (by rw [HE.out]; exact hle))
        go_wp2
        go_roundg (k + 1)
        case measure => omega
        case rel => exact ⟨k, rfl, by omega, rfl, HK.out.trans HH.out, rfl⟩
set_option maxHeartbeats 1000000 in
theorem spec_BlockOf (w : World) (v : Value) (p : Prg) (h : RawP w v p) (z : SzP p) (i : Int) (hi : I64 i) :
    Calls Try.prog 28 #[v, .int .i64 i] w fun e w' => e = .returned (.int .i64 (blockOf p.entries i)) ∧ Below w.heap.size w w' := by
  obtain ⟨vc, ve, rfl, hN, ⟨A, n, c, rfl, hR, hnc, hcm⟩⟩ := h
  have hlen := RdI.len hR
  have hn : n ≤ 1048576 := by have := z.len; omega
  have HR := Lib.hid hR; clear hR hN
  go_enter Try.func28, Try.ntmps28
  go_wp2
  go_loopg [5, 6] n (fun left ov iv wr => ∃ k : Nat, k + left = n ∧ iv = .int .i64 (k : Int) ∧ (∃ x, ov = .int .i64 x ∧ Hid (x = blkTo p.entries i k)) ∧ wr = w.alloc (.cells #[vc, .slice A n c] 49))
  case atStart => exact ⟨0, by omega, rfl, ⟨_, rfl, rfl⟩, rfl⟩
  case round =>
    obtain ⟨k, hk, rfl, ⟨x, rfl, HX⟩, rfl⟩ := hrel
    by_cases hlt : k < n
    · obtain ⟨b, o, hl, rfl, hc0⟩ := RdI.at_ (HR.out.below (below_one w (.cells #[vc, .slice A n c] 49))) hlt
      obtain ⟨e, he⟩ : ∃ e, p.entries[k] = e := ⟨_, rfl⟩
      rw [he] at hc0
      have HE := Lib.hid he; clear he
      by_cases hle : e ≤ i
      · have HH := Lib.hid (blk_hit (idx := i) hl (by rw [HE.out]; exact hle))
        go_wp2
        go_roundg (gk - 1)
        case measure => omega
        case rel => exact ⟨k + 1, by omega, by go_num, ⟨_, rfl, HH.out.symm⟩, rfl⟩
      · have HH := Lib.hid (blk_miss (idx := i) hl (by rw [HE.out]; exact hle))
        go_wp2
        go_roundg (gk - 1)
        case measure => omega
        case rel => exact ⟨k + 1, by omega, by go_num, ⟨_, rfl, HX.out.trans HH.out.symm⟩, rfl⟩
    · obtain rfl : k = n := by omega
      go_wp2
      go_ret
      exact ⟨ret_i (by rw [HX.out, blockOf, hlen]), below_one _ _⟩
set_option maxHeartbeats 1000000 in
theorem impl_CountOps (w : World) (v : Value) (p : Prg) (h : RawP w v p) (z : SzP p) (op : Int) (hop : I64 op) :
    Calls Try.prog 33 #[v, .int .i64 op] w fun e w' => e = .returned (.int .i64 (countOp op p.code)) ∧ Below w.heap.size w w' := by
  obtain ⟨vc, ve, rfl, ⟨A, n, c, rfl, hR, hnc, hcm⟩, hI⟩ := h
  have hlen := RdN.len hR
  have hn : n ≤ 1048576 := by have := z.len; omega
  have HR := Lib.hid hR; clear hR hI
  go_enter Try.func33, Try.ntmps33
  go_wp2
  go_loopg [5, 11] n (fun left ov iv wr => ∃ k : Nat, k + left = n ∧ iv = .int .i64 (k : Int) ∧ (∃ x : Nat, ov = .int .i64 (x : Int) ∧ x ≤ 1048576 ∧ Hid (x = countOp op (p.code.take k))) ∧ Below w.heap.size w wr)
  case atStart => exact ⟨0, by omega, rfl, ⟨0, rfl, by omega, rfl⟩, below_one _ _⟩
  case round =>
    obtain ⟨k, hk, rfl, ⟨x, rfl, hx, HX⟩, hbel⟩ := hrel
    have HB := Lib.hid hbel; clear hbel
    by_cases hlt : k < n
    · obtain ⟨b, o, hl, rfl, c0, c1, c2⟩ := RdN.at_ (HR.out.below HB.out) hlt
      have HS := Lib.hid (countOp_snoc op p.code k hl)
      have HL := Lib.hid (countOp_le op (p.code.take (k + 1)))
      obtain ⟨i, hi⟩ : ∃ i, p.code[k] = i := ⟨_, rfl⟩
      rw [hi] at c0 c1 c2 HS
      clear hi
      cases he : i.op == op with
      | true =>
        have HS2 : Hid (countOp op (p.code.take (k + 1)) = countOp op (p.code.take k) + 1) := Lib.hid (by have h := HS.out; simpa [he] using h)
        clear HS
        go_wp2
        go_roundg (gk - 1)
        case measure => omega
        case rel => exact ⟨k + 1, by omega, by go_num, ⟨x + 1, by go_num, by have h1 := HL.out; have h2 := HS2.out; have h3 := HX.out; rw [List.length_take] at h1; omega, by have h2 := HS2.out; have h3 := HX.out; unfold Hid; omega⟩, below_al HB.out _⟩
      | false =>
        have HS2 : Hid (countOp op (p.code.take (k + 1)) = countOp op (p.code.take k)) := Lib.hid (by have h := HS.out; simpa [he] using h)
        clear HS
        go_wp2
        go_roundg (gk - 1)
        case measure => omega
        case rel => exact ⟨k + 1, by omega, by go_num, ⟨x, rfl, hx, by have h2 := HS2.out; have h3 := HX.out; unfold Hid; omega⟩, below_al HB.out _⟩
    · obtain rfl : k = n := by omega
      go_wp2
      go_ret
      exact ⟨ret_i (by rw [HX.out, List.take_of_length_le (by omega)]), HB.out⟩
set_option maxHeartbeats 1000000 in
theorem spec_CountOps (w : World) (v : Value) (p : Prg) (h : RawP w v p) (z : SzP p) (op : Int) (hop : I64 op) :
    Calls Try.prog 32 #[v, .int .i64 op] w fun e w' => e = .returned (.int .i64 (countOp op p.code)) ∧ Below w.heap.size w w' := by
  obtain ⟨vc, ve, rfl, ⟨A, n, c, rfl, hR, hnc, hcm⟩, hI⟩ := h
  have hlen := RdN.len hR
  have hn : n ≤ 1048576 := by have := z.len; omega
  have HR := Lib.hid hR; clear hR hI
  go_enter Try.func32, Try.ntmps32
  go_wp2
  go_loopg [5, 6] n (fun left ov iv wr => ∃ k : Nat, k + left = n ∧ iv = .int .i64 (k : Int) ∧ (∃ x : Nat, ov = .int .i64 (x : Int) ∧ x ≤ 1048576 ∧ Hid (x = countOp op (p.code.take k))) ∧ wr = w.alloc (.cells #[.slice A n c, ve] 49))
  case atStart => exact ⟨0, by omega, rfl, ⟨0, rfl, by omega, rfl⟩, rfl⟩
  case round =>
    obtain ⟨k, hk, rfl, ⟨x, rfl, hx, HX⟩, rfl⟩ := hrel
    by_cases hlt : k < n
    · obtain ⟨b, o, hl, rfl, c0, c1, c2⟩ := RdN.at_ (HR.out.below (below_one w (.cells #[.slice A n c, ve] 49))) hlt
      have HS := Lib.hid (countOp_snoc op p.code k hl)
      have HL := Lib.hid (countOp_le op (p.code.take (k + 1)))
      obtain ⟨i, hi⟩ : ∃ i, p.code[k] = i := ⟨_, rfl⟩
      rw [hi] at c0 c1 c2 HS
      clear hi
      cases he : i.op == op with
      | true =>
        have HS2 : Hid (countOp op (p.code.take (k + 1)) = countOp op (p.code.take k) + 1) := Lib.hid (by have h := HS.out; simpa [he] using h)
        clear HS
        go_wp2
        go_roundg (gk - 1)
        case measure => omega
        case rel => exact ⟨k + 1, by omega, by go_num, ⟨x + 1, by go_num, by have h1 := HL.out; have h2 := HS2.out; have h3 := HX.out; rw [List.length_take] at h1; omega, by have h2 := HS2.out; have h3 := HX.out; unfold Hid; omega⟩, rfl⟩
      | false =>
        have HS2 : Hid (countOp op (p.code.take (k + 1)) = countOp op (p.code.take k)) := Lib.hid (by have h := HS.out; simpa [he] using h)
        clear HS
        go_wp2
        go_roundg (gk - 1)
        case measure => omega
        case rel => exact ⟨k + 1, by omega, by go_num, ⟨x, rfl, hx, by have h2 := HS2.out; have h3 := HX.out; unfold Hid; omega⟩, rfl⟩
    · obtain rfl : k = n := by omega
      go_wp2
      go_ret
      exact ⟨ret_i (by rw [HX.out, List.take_of_length_le (by omega)]), below_one _ _⟩
end Go.Proofs.Ytkkmmfgncdfcfaa
