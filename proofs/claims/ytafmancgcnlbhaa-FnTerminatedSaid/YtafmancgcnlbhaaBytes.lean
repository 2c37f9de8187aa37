/- The laws' own helpers on bytes: toByteS copies, eqByteS of equal bytes is true, markByteS writes, heldByteS holds what was written. -/
import Derived.Test.YtafmancgcnlbhaaChecked
import Derived.Test.YtafmancgcnlbhaaMem
import Derived.BigQuiet
import Derived.Deep.QuietTactic
import Derived.Deep.LoopGhost
import Derived.Outline
namespace Go.Proofs.Ytafmancgcnlbhaa
open Go.RowKit

theorem elB : Elem Try.prog 27 5 (.int .u8 0) 1 1 := Elem.mk' Try.underlying27 (by kernel_rfl) rfl (by decide)
theorem u8_one (bs : List UInt8) : ∀ u ∈ bs.map u8v, u.oneCell' = true := by
  intro u hu; obtain ⟨c, _, rfl⟩ := List.mem_map.1 hu; rfl

/-- A fresh slice of bytes, all in block g. -/
abbrev OwnB (w : World) (base : Nat) (v : Value) (n : Nat) (bs : List UInt8) : Prop := w.ownsRow base 5 1 v n (bs.map u8v)
theorem OwnB.of {w : World} {base n : Nat} {v : Value} {xs : List Value} {bs : List UInt8} (h : w.ownsRow base 5 1 v n xs) (e : xs = bs.map u8v) : OwnB w base v n bs := by subst e; exact h
theorem OwnB.rd {w : World} {base n c : Nat} {A : Option Addr} {bs : List UInt8} (h : OwnB w base (.slice A n c) n bs) : RdB w A n bs := Rd.of_own h
theorem OwnB.len {w : World} {base n : Nat} {v : Value} {bs : List UInt8} (h : OwnB w base v n bs) : bs.length = n := by have := h.1; simpa using this

theorem zeros_u8 (n : Nat) : (madeCells (Value.int .u8 0).cells (n * 1)).toList = (List.replicate n (0 : UInt8)).map u8v := by
  rw [made_one _ _ rfl, List.map_replicate]; rfl

theorem set_step {α : Type} (l : List α) (z : α) (n k : Nat) (hn : l.length = n) (hk : k < n) (hl : k < l.length) :
    (l.take k ++ List.replicate (n - k) z).set k l[k] = l.take (k + 1) ++ List.replicate (n - (k + 1)) z := by
  obtain ⟨m, hm⟩ : ∃ m, n - k = m + 1 := ⟨n - k - 1, by omega⟩
  have e2 : n - (k + 1) = m := by omega
  rw [hm, e2, List.replicate_succ, List.set_append_right _ _ (by simp; omega), List.length_take_of_le (by omega), Nat.sub_self, List.set_cons_zero, List.take_succ_eq_append_getElem hl, List.append_assoc]
  rfl

set_option maxHeartbeats 400000 in
theorem toByteS_any (A : Option Addr) (n c : Nat) (bs : List UInt8) (w : World) (hr : RdB w A n bs) (hn : n ≤ 4194304) :
    Calls Try.prog 15 #[.slice A n c] w fun e w' => e = .returned (slv w.heap.size n n) ∧ OwnB w' w.heap.size (slv w.heap.size n n) n bs ∧ Below w.heap.size w w' := by
  have hlen := hr.len
  go_enter Try.func15, Try.ntmps15
  go_wp2_with (at_make; refine wpList_mk rfl _ _ rfl elB _ _ _ _ n rfl rfl rfl rfl (by omega) (by unfold maxLen; omega) ?_; intro w1 hown1 hbel1 hsz1)
  rw [zeros_u8] at hown1
  generalize hW : w.heap.size = W at *
  go_loopg [4] n (fun left i wr => ∃ k : Nat, k + left = n ∧ i = .int .i64 k ∧ OwnB wr W (slv W n n) n (bs.take k ++ List.replicate (n - k) 0) ∧ Below W w wr)
  case atStart => exact ⟨0, by omega, rfl, hown1, hbel1⟩
  case round =>
    obtain ⟨k, hk, rfl, hown, hbel⟩ := hrel
    by_cases hlt : k < n
    · obtain ⟨b, o, hl, rfl, hc0⟩ := hr.at_ hlt
      have hc1 : wr.cell? ⟨b, o + k, none⟩ = some (u8v bs[k]) := below_cell (hW ▸ hbel) _ _ hc0
      obtain ⟨u, hu⟩ : ∃ u, wr.cell? ⟨W, k, none⟩ = some u := by
        have h := hown.cellAt k (by omega)
        rw [List.getElem?_eq_getElem (by simp; omega)] at h
        exact ⟨_, h⟩
      have hf := hown.frozenAt k
      have hst := hown.stored k (u8v bs[k])
      rw [← List.map_set] at hst
      rw [set_step bs 0 n k hlen hlt hl] at hst
      have HS := Lib.hid hst; clear hst
      have HB := Lib.hid hbel; clear hbel
      have HO := Lib.hid hown; clear hown
      clear hown1 hbel1 hc0
      go_wp2
      go_roundg (gk - 1)
      case measure => omega
      case rel => exact ⟨k + 1, by omega, by go_num, HS.out.1, HB.out.grown HS.out.2 (by have := HB.out.size; omega) (fun g hg => by injection hg; omega)⟩
    · clear hown1 hbel1
      obtain rfl : k = n := by omega
      have HB := Lib.hid hbel; clear hbel
      have HO := Lib.hid hown; clear hown
      go_wp2
      go_ret
      subst hW
      refine ⟨rfl, ?_, HB.out⟩
      have h := HO.out
      rw [Nat.sub_self, List.take_of_length_le (by omega)] at h
      simpa using h

set_option maxHeartbeats 400000 in
theorem eqByteS_same (A B : Option Addr) (n m c d : Nat) (bs : List UInt8) (w : World) (ha : RdB w A n bs) (hb : RdB w B m bs) (hn : n ≤ 4194304) :
    Calls Try.prog 17 #[.slice A n c, .slice B m d] w fun e w' => e = .returned (.bool true) ∧ Quiet w w' := by
  obtain rfl : n = m := ha.len.symm.trans hb.len
  go_enter Try.func17, Try.ntmps17
  go_wp2
  go_loopg [5] n (fun left i wr => ∃ k q : Nat, k + left = n ∧ i = .int .i64 k ∧ wr = w.drewN q)
  case atStart => exact ⟨0, 0, by omega, rfl, rfl⟩
  case round =>
    obtain ⟨k, q, hk, rfl, rfl⟩ := hrel
    by_cases hlt : k < n
    · obtain ⟨b, o, hl, rfl, hc0⟩ := ha.at_ hlt
      obtain ⟨b', o', hl', rfl, hc1⟩ := hb.at_ hlt
      have hb1 : (0 : Int) ≤ (k : Int) := by omega
      have hb2 : (k : Int) < (n : Int) := by omega
      clear ha hb
      go_wp2
      go_quiet (fail)
      go_wp2
      go_roundg (gk - 1)
      case measure => omega
      case rel => exact ⟨k + 1, _, by omega, by go_num, rfl⟩
    · go_wp2
      go_ret
      exact ⟨rfl, q, rfl⟩

/-- What markByteS writes from k on. -/
def marksB (k : Int) (n : Nat) : List UInt8 := (List.range n).map fun (i : Nat) => UInt8.ofNat ((k + (i : Int)) % 256).toNat
theorem marksB_len (k : Int) (n : Nat) : (marksB k n).length = n := by simp [marksB]
theorem marksB_at (k : Int) (n i : Nat) (h : i < n) : (marksB k n)[i]'(by simpa [marksB] using h) = UInt8.ofNat ((k + (i : Int)) % 256).toNat := by simp [marksB]
theorem u8_mod (x : Int) : Value.int .u8 (x % 256) = u8v (UInt8.ofNat (x % 256).toNat) := by simp; omega
theorem over_step {α β : Type} (f : α → β) (ms bs : List α) (n k : Nat) (hm : ms.length = n) (hb : bs.length = n) (hk : k < n) (hl : k < ms.length) :
    ((ms.take k ++ bs.drop k).map f).set k (f ms[k]) = (ms.take (k + 1) ++ bs.drop (k + 1)).map f := by
  rw [← List.map_set, List.set_append_right _ _ (by simp; omega), List.length_take_of_le (by omega), Nat.sub_self, List.drop_eq_getElem_cons (by omega : k < bs.length), List.set_cons_zero, List.take_succ_eq_append_getElem hl, List.append_assoc]
  rfl
theorem own_set {w : World} {base g n c k : Nat} {e : TypeId} {xs ys : List Value} {u : Value} (h : w.ownsRow base e 1 (slv g n c) n xs) (hy : xs.set k u = ys) :
    (w.setCell ⟨g, k, none⟩ u).ownsRow base e 1 (slv g n c) n ys ∧ w.grownBy (w.setCell ⟨g, k, none⟩ u) (some g) := by
  subst hy; exact h.stored k u
theorem own_slot {w : World} {base g n c k : Nat} {e : TypeId} {xs : List Value} (h : w.ownsRow base e 1 (slv g n c) n xs) (hk : k < n) : (∃ u, w.cell? ⟨g, k, none⟩ = some u) ∧ w.frozen? ⟨g, k, none⟩ = false := by
  refine ⟨?_, h.frozenAt k⟩
  have h1 := h.cellAt k (by omega)
  rw [List.getElem?_eq_getElem (by have := h.1; omega)] at h1
  exact ⟨_, h1⟩

set_option maxHeartbeats 400000 in
theorem markByteS_any (g n c : Nat) (base : Nat) (bs : List UInt8) (k0 : Int) (w : World) (h : OwnB w base (slv g n c) n bs) (hn : n ≤ 4194304) (hk0 : 0 ≤ k0) (hk1 : k0 ≤ 4611686018427387904) :
    Calls Try.prog 18 #[slv g n c, .int .i64 k0] w fun e w' => e = .returned (.int .i64 (k0 + n)) ∧ OwnB w' base (slv g n c) n (marksB k0 n) ∧ w.grownBy w' (some g) := by
  have hlen := h.len
  go_enter Try.func18, Try.ntmps18
  go_wp2
  go_loopg [1, 5] n (fun left q i wr => ∃ k : Nat, k + left = n ∧ i = .int .i64 k ∧ q = .int .i64 (k0 + k) ∧ OwnB wr base (slv g n c) n ((marksB k0 n).take k ++ bs.drop k) ∧ w.grownBy wr (some g))
  case atStart => exact ⟨0, by omega, rfl, by simp, by simpa using h, World.grownBy.refl _ _⟩
  case round =>
    obtain ⟨k, hk, rfl, rfl, hown, hgr⟩ := hrel
    by_cases hlt : k < n
    · obtain ⟨⟨u, hu⟩, hf⟩ := own_slot hown hlt
      have hst := own_set (k := k) (u := .int .u8 ((k0 + k) % 256)) (ys := ((marksB k0 n).take (k + 1) ++ bs.drop (k + 1)).map u8v) hown (by rw [u8_mod, ← marksB_at k0 n k hlt]; exact over_step u8v _ bs n k (marksB_len _ _) hlen hlt (by simpa [marksB] using hlt))
      have HS := Lib.hid hst; clear hst
      have HG := Lib.hid hgr; clear hgr
      clear hown
      go_wp2
      go_roundg (gk - 1)
      case measure => omega
      case rel => exact ⟨k + 1, by omega, by go_num, by go_num, HS.out.1, HG.out.trans HS.out.2⟩
    · obtain rfl : k = n := by omega
      have HG := Lib.hid hgr; clear hgr
      have HO := Lib.hid hown; clear hown
      go_wp2
      go_ret
      refine ⟨rfl, ?_, HG.out⟩
      have h := HO.out
      rw [List.take_of_length_le (by simp [marksB_len]), List.drop_eq_nil_of_le (by omega)] at h
      simpa using h

theorem markByteS_own (A : Option Addr) (n c : Nat) (base : Nat) (bs : List UInt8) (k0 : Int) (w : World) (h : OwnB w base (.slice A n c) n bs) (hn : n ≤ 4194304) (hk0 : 0 ≤ k0) (hk1 : k0 ≤ 4611686018427387904) :
    Calls Try.prog 18 #[.slice A n c, .int .i64 k0] w fun e w' => e = .returned (.int .i64 (k0 + n)) ∧ OwnB w' base (.slice A n c) n (marksB k0 n) ∧ w.grownBy w' (Value.ownBlock (.slice A n c)) := by
  rcases h.2 with ⟨h', h0⟩ | ⟨g, cap, cur, h', _⟩
  · injection h' with e1 e2 e3
    subst e1; subst h0; subst e3
    go_enter Try.func18, Try.ntmps18
    go_wp2
    refine wp_loop_once ?_
    go_wp2
    go_ret
    exact ⟨by simp, by simpa [marksB, OwnB] using World.ownsRow_nil _ _ _ _, World.grownBy.refl _ _⟩
  · injection h' with e1 e2 e3
    subst e1; subst e3
    exact markByteS_any g n _ base bs k0 w h hn hk0 hk1

set_option maxHeartbeats 400000 in
theorem heldByteS_marks (A : Option Addr) (n c : Nat) (k0 : Int) (w : World) (h : RdB w A n (marksB k0 n)) (hn : n ≤ 4194304) (hk0 : 0 ≤ k0) (hk1 : k0 ≤ 4611686018427387904) :
    Calls Try.prog 19 #[.slice A n c, .int .i64 k0] w fun e w' => e = .returned (.int .i64 (k0 + n)) ∧ Quiet w w' := by
  go_enter Try.func19, Try.ntmps19
  go_wp2
  go_loopg [1, 5] n (fun left q i wr => ∃ k m : Nat, k + left = n ∧ i = .int .i64 k ∧ q = .int .i64 (k0 + k) ∧ wr = w.drewN m)
  case atStart => exact ⟨0, 0, by omega, rfl, by simp, rfl⟩
  case round =>
    obtain ⟨k, m, hk, rfl, rfl, rfl⟩ := hrel
    by_cases hlt : k < n
    · obtain ⟨b, o, hl, rfl, hc0⟩ := h.at_ hlt
      rw [marksB_at k0 n k hlt, ← u8_mod] at hc0
      clear h
      go_wp2
      go_roundg (gk - 1)
      case measure => omega
      case rel => exact ⟨k + 1, _, by omega, by go_num, by go_num, rfl⟩
    · go_wp2
      go_ret
      obtain rfl : k = n := by omega
      exact ⟨rfl, m, rfl⟩
end Go.Proofs.Ytafmancgcnlbhaa
