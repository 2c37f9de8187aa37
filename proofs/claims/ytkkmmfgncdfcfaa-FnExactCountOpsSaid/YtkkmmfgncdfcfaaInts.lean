/- The laws' own helpers on integers: toIntS copies, eqIntS of equal ones is true, markIntS writes, heldIntS holds what was written. -/
import Derived.Test.YtkkmmfgncdfcfaaChecked
import Derived.Test.YtkkmmfgncdfcfaaMem
import Derived.BigQuiet
import Derived.Deep.QuietTactic
import Derived.Deep.LoopGhost
import Derived.Outline
namespace Go.Proofs.Ytkkmmfgncdfcfaa
open Go.RowKit

theorem elI : Elem Try.prog 34 3 (.int .i64 0) 1 8 := Elem.mk' Try.underlying34 (by kernel_rfl) rfl (by decide)
theorem i64_one (bs : List Int) : ∀ u ∈ bs.map i64v, u.oneCell' = true := by
  intro u hu; obtain ⟨c, _, rfl⟩ := List.mem_map.1 hu; rfl

/-- A fresh slice of bytes, all in block g. -/
abbrev OwnI (w : World) (base : Nat) (v : Value) (n : Nat) (bs : List Int) : Prop := w.ownsRow base 3 1 v n (bs.map i64v)
theorem OwnI.of {w : World} {base n : Nat} {v : Value} {xs : List Value} {bs : List Int} (h : w.ownsRow base 3 1 v n xs) (e : xs = bs.map i64v) : OwnI w base v n bs := by subst e; exact h
theorem OwnI.rd {w : World} {base n c : Nat} {A : Option Addr} {bs : List Int} (h : OwnI w base (.slice A n c) n bs) : RdI w A n bs := Rd.of_own h
theorem OwnI.len {w : World} {base n : Nat} {v : Value} {bs : List Int} (h : OwnI w base v n bs) : bs.length = n := by have := h.1; simpa using this

theorem zeros_i64 (n : Nat) : (madeCells (Value.int .i64 0).cells (n * 1)).toList = (List.replicate n (0 : Int)).map i64v := by
  rw [made_one _ _ rfl, List.map_replicate] <;> rfl

set_option maxHeartbeats 400000 in
theorem toIntS_any (A : Option Addr) (n c : Nat) (bs : List Int) (w : World) (hr : RdI w A n bs) (hn : n ≤ 4194304) :
    Calls Try.prog 58 #[.slice A n c] w fun e w' => e = .returned (slv w.heap.size n n) ∧ OwnI w' w.heap.size (slv w.heap.size n n) n bs ∧ Below w.heap.size w w' := by
  have hlen := hr.len
  go_enter Try.func58, Try.ntmps58
  go_wp2_with (at_make; refine wpList_mk rfl _ _ rfl elI _ _ _ _ n rfl rfl rfl rfl (by omega) (by unfold maxLen; omega) ?_; intro w1 hown1 hbel1 hsz1)
  rw [zeros_i64] at hown1
  generalize hW : w.heap.size = W at *
  go_loopg [4] n (fun left i wr => ∃ k : Nat, k + left = n ∧ i = .int .i64 k ∧ OwnI wr W (slv W n n) n (bs.take k ++ List.replicate (n - k) 0) ∧ Below W w wr)
  case atStart => exact ⟨0, by omega, rfl, hown1, hbel1⟩
  case round =>
    obtain ⟨k, hk, rfl, hown, hbel⟩ := hrel
    by_cases hlt : k < n
    · obtain ⟨b, o, hl, rfl, hc0⟩ := hr.at_ hlt
      have hc1 : wr.cell? ⟨b, o + k, none⟩ = some (i64v bs[k]) := below_cell (hW ▸ hbel) _ _ hc0
      obtain ⟨u, hu⟩ : ∃ u, wr.cell? ⟨W, k, none⟩ = some u := by
        have h := hown.cellAt k (by omega)
        rw [List.getElem?_eq_getElem (by simp; omega)] at h
        exact ⟨_, h⟩
      have hf := hown.frozenAt k
      have hst := hown.stored k (i64v bs[k])
      rw [← List.map_set] at hst
      rw [set_step bs 0 n k hlen hlt hl] at hst
      have HS := Lib.hid hst; clear hst
      have HB := Lib.hid hbel; clear hbel
      have HO := Lib.hid hown; clear hown
      clear hown1 hbel1 hc0
      go_wp2
      go_roundg (gk - 1)
      case measure => omega
      case rel => exact ⟨k + 1, by omega, by go_num, HS.out.1, HB.out.grown HS.out.2 (by have := HB.out.size; omega) (fun g hg => by injection hg; omega)⟩
    · clear hown1 hbel1
      obtain rfl : k = n := by omega
      have HB := Lib.hid hbel; clear hbel
      have HO := Lib.hid hown; clear hown
      go_wp2
      go_ret
      subst hW
      refine ⟨rfl, ?_, HB.out⟩
      have h := HO.out
      rw [Nat.sub_self, List.take_of_length_le (by omega)] at h
      simpa using h

set_option maxHeartbeats 400000 in
theorem eqIntS_same (A B : Option Addr) (n m c d : Nat) (bs : List Int) (w : World) (ha : RdI w A n bs) (hb : RdI w B m bs) (hn : n ≤ 4194304) :
    Calls Try.prog 60 #[.slice A n c, .slice B m d] w fun e w' => e = .returned (.bool true) ∧ Quiet w w' := by
  obtain rfl : n = m := ha.len.symm.trans hb.len
  go_enter Try.func60, Try.ntmps60
  go_wp2
  go_loopg [5] n (fun left i wr => ∃ k q : Nat, k + left = n ∧ i = .int .i64 k ∧ wr = w.drewN q)
  case atStart => exact ⟨0, 0, by omega, rfl, rfl⟩
  case round =>
    obtain ⟨k, q, hk, rfl, rfl⟩ := hrel
    by_cases hlt : k < n
    · obtain ⟨b, o, hl, rfl, hc0⟩ := ha.at_ hlt
      obtain ⟨b', o', hl', rfl, hc1⟩ := hb.at_ hlt
      have hb1 : (0 : Int) ≤ (k : Int) := by omega
      have hb2 : (k : Int) < (n : Int) := by omega
      clear ha hb
      go_wp2
      go_quiet (fail)
      go_wp2
      go_roundg (gk - 1)
      case measure => omega
      case rel => exact ⟨k + 1, _, by omega, by go_num, rfl⟩
    · go_wp2
      go_ret
      exact ⟨rfl, q, rfl⟩

/-- What markIntS writes from k on. -/
def marksI (k : Int) (n : Nat) : List Int := (List.range n).map fun (i : Nat) => k + (i : Int)
theorem marksI_len (k : Int) (n : Nat) : (marksI k n).length = n := by simp [marksI]
theorem marksI_at (k : Int) (n i : Nat) (h : i < n) : (marksI k n)[i]'(by simpa [marksI] using h) = k + (i : Int) := by simp [marksI]
end Go.Proofs.Ytkkmmfgncdfcfaa
