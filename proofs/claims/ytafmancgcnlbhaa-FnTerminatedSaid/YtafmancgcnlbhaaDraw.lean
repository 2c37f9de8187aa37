/- The reference's cursor for draws: what it is in memory, and that each number drawn lies in its bounds. -/
import Derived.Test.YtafmancgcnlbhaaChecked
import Derived.Test.YtafmancgcnlbhaaMem
import Derived.BigQuiet
import Derived.Deep.QuietTactic
import Derived.Deep.LoopGhost
import Derived.Outline
namespace Go.Proofs.Ytafmancgcnlbhaa
open Go.RowKit

abbrev ptr (g : Nat) : Value := .pointer (some ⟨g, 0, none⟩)
/-- The cursor in block g: the code's bytes (which lie elsewhere), an index into them, a number. -/
def Cur (w : World) (g : Nat) : Prop := ∃ A n c bs i h, w.heap[g]? = some (.cells #[.slice A n c, .int .i64 ((i : Nat) : Int), .int .i64 h] 56 (0, 0)) ∧ i ≤ n ∧ I64 h ∧ RdB w A n bs ∧ n ≤ 1048576 ∧ (0 < n → ∀ a, A = some a → a.block < g)
theorem Cur.lt {w : World} {g : Nat} (h : Cur w g) : g < w.heap.size := by
  obtain ⟨A, n, c, bs, i, hh, h1, _⟩ := h
  rcases Nat.lt_or_ge g w.heap.size with h | h
  · exact h
  · rw [Array.getElem?_eq_none h] at h1; cases h1
theorem Cur.keep {w w' : World} {g : Nat} (h : Cur w g) (hk : ∀ b, b ≤ g → w'.heap[b]? = w.heap[b]?) : Cur w' g := by
  obtain ⟨A, n, c, bs, i, hh, h1, h2, h3, h4, h5, h6⟩ := h
  refine ⟨A, n, c, bs, i, hh, (hk g (Nat.le_refl _)).trans h1, h2, h3, ⟨h4.1, fun hn => ?_⟩, h5, h6⟩
  obtain ⟨b, o, e, hc⟩ := h4.2 hn
  have hb : b < g := h6 hn _ e
  exact ⟨b, o, e, fun j u hu => (World.cell?_of_block (hk b (Nat.le_of_lt hb))).trans (hc j u hu)⟩
theorem Cur.below {w w' : World} {g : Nat} (h : Cur w g) (hb : Below w.heap.size w w') : Cur w' g := by
  have hl := h.lt
  exact h.keep fun b h1 => hb.block b (by omega)
theorem Cur.app {w w' : World} {base size n g : Nat} {e : TypeId} {v v' : Value} {xs xs' : List Value} {k : Nat} (h : Cur w g) (ha : App w base e size v n v' xs' w') (ho : w.ownsRow base e size v k xs) (hg : g < base) : Cur w' g := by
  have hl := h.lt
  exact h.keep fun b h1 => ha.grown.block b (by omega) (fun e => by have := (ho.lt b e.symm).1; omega)
theorem i64_wrap (n : Int) : I64 (wrap64 n) := by unfold wrap64; omega
theorem and_i64 (x y : Int) : I64 (bits .and .i64 x y) := by
  have h1 : bits .and .i64 x y = IntKind.i64.wrap ((BitVec.ofInt 64 x &&& BitVec.ofInt 64 y).toNat : Int) := rfl
  rw [h1, IntKind.wrap_i64]; constructor <;> omega
theorem and255 (x : Int) : 0 ≤ bits .and .i64 x 255 ∧ bits .and .i64 x 255 ≤ 255 := by
  have h1 : bits .and .i64 x 255 = IntKind.i64.wrap ((BitVec.ofInt 64 x &&& BitVec.ofInt 64 255).toNat : Int) := rfl
  have h2 : (BitVec.ofInt 64 x &&& BitVec.ofInt 64 255).toNat ≤ 255 := by
    rw [BitVec.toNat_and]
    exact Nat.le_trans Nat.and_le_right (by decide)
  rw [h1, IntKind.wrap_i64]; omega

set_option maxHeartbeats 1000000 in
theorem l1Byte_any (w : World) (g : Nat) (hc : Cur w g) :
    Calls Try.prog 39 #[ptr g] w fun e w' => ∃ x : Int, e = .returned (.int .i64 x) ∧ 0 ≤ x ∧ x ≤ 255 ∧ Cur w' g ∧ Chg g (g + 1) w w' := by
  obtain ⟨A, n, c, bs, i, h, hb, hi, hh, hr, hn, hA⟩ := hc
  have c0 : w.cell? ⟨g, 0, none⟩ = some (.slice A n c) := cell_of_row _ _ 0 _ _ _ hb
  have c1 : w.cell? ⟨g, 1, none⟩ = some (.int .i64 (i : Int)) := cell_of_row _ _ 1 _ _ _ hb
  have c2 : w.cell? ⟨g, 2, none⟩ = some (.int .i64 h) := cell_of_row _ _ 2 _ _ _ hb
  have f1 : w.frozen? ⟨g, 1, none⟩ = false := frozen_of_row _ _ 1 _ _ hb
  have f2 : w.frozen? ⟨g, 2, none⟩ = false := frozen_of_row _ _ 2 _ _ hb
  have HR := Lib.hid hr; have HA := Lib.hid hA; have HB := Lib.hid hb; clear hr hA hb
  go_enter Try.func39, Try.ntmps39
  go_wp2
  have hI := i64_wrap (wrap64 (h * 6364136223846793005) + 1442695040888963407)
  generalize hh2 : wrap64 (wrap64 (h * 6364136223846793005) + 1442695040888963407) = h2 at *
  have hb1 : (w.setCell ⟨g, 2, none⟩ (.int .i64 h2)).heap[g]? = some (.cells #[.slice A n c, .int .i64 (i : Int), .int .i64 h2] 56 (0, 0)) := heap_setCell_same w g 2 _ _ _ HB.out
  have g1 : w.grownBy (w.setCell ⟨g, 2, none⟩ (.int .i64 h2)) (some g) := ⟨rfl, rfl, rfl, by simp, fun k _ hk => heap_setCell_other w ⟨g, 2, none⟩ k _ (fun e => hk (by simp [e]))⟩
  generalize hw1 : w.setCell ⟨g, 2, none⟩ (.int .i64 h2) = w1 at *
  clear hw1 hh2 c0 c1 c2 f1 f2
  have c0 : w1.cell? ⟨g, 0, none⟩ = some (.slice A n c) := cell_of_row _ _ 0 _ _ _ hb1
  have c1 : w1.cell? ⟨g, 1, none⟩ = some (.int .i64 (i : Int)) := cell_of_row _ _ 1 _ _ _ hb1
  have c2 : w1.cell? ⟨g, 2, none⟩ = some (.int .i64 h2) := cell_of_row _ _ 2 _ _ _ hb1
  have f1 : w1.frozen? ⟨g, 1, none⟩ = false := frozen_of_row _ _ 1 _ _ hb1
  have HB1 := Lib.hid hb1; have G1 := Lib.hid g1; clear hb1 g1
  go_quiet (fail)
  go_wp2
  by_cases hlt : i < n
  · have b1 : (i : Int) < (n : Int) := by omega
    have b0 : (0 : Int) ≤ (i : Int) := by omega
    obtain ⟨b, o, hl, hAe, hcb⟩ := HR.out.at_ hlt
    have hbg : b ≠ g := Nat.ne_of_lt (HA.out (by omega) _ hAe)
    subst hAe
    have cb : w1.cell? ⟨b, o + i, none⟩ = some (u8v bs[i]) := G1.out.cell hcb (fun e => hbg (by injection e))
    clear hcb
    go_quiet (fail)
    go_wp2
    go_quiet (fail)
    go_wp2
    go_ret
    refine ⟨_, rfl, (and255 _).1, (and255 _).2, ?_, ?_⟩
    · refine ⟨some ⟨b, o, none⟩, n, c, bs, i + 1, h2, ?_, by omega, hI, ?_, hn, HA.out⟩
      · refine (heap_setCell_same (World.drewN _ _) g 1 _ _ _ HB1.out).trans ?_
        simp
      · exact (HR.out.grown G1.out (fun h a ha => Nat.ne_of_lt (HA.out h a ha))).grown (g := g) ⟨rfl, rfl, rfl, by simp, fun k _ hk => heap_setCell_other _ ⟨g, 1, none⟩ k _ (fun e => hk (by simp [e]))⟩ (fun h a ha => Nat.ne_of_lt (HA.out h a ha))
    · exact (Chg.of_grown G1.out (Nat.le_refl _) (Nat.lt_succ_self _)).trans (Chg.of_grown (g := g) ⟨rfl, rfl, rfl, by simp, fun k _ hk => heap_setCell_other _ ⟨g, 1, none⟩ k _ (fun e => hk (by simp [e]))⟩ (Nat.le_refl _) (Nat.lt_succ_self _))
  · have b1 : ¬ (i : Int) < (n : Int) := by omega
    go_quiet (fail)
    go_wp2
    go_ret
    refine ⟨_, rfl, (and255 _).1, (and255 _).2, ?_, ?_⟩
    · refine ⟨A, n, c, bs, i, h2, HB1.out, by omega, hI, ?_, hn, HA.out⟩
      exact Rd.drewN (HR.out.grown G1.out (fun h a ha => Nat.ne_of_lt (HA.out h a ha))) _
    · have h1 := Chg.of_grown G1.out (Nat.le_refl _) (Nat.lt_succ_self _)
      exact ⟨h1.os, h1.tape, h1.output, h1.size, h1.block⟩

/-- A number below n (0 if n is not above 0). -/
def BelowN (n x : Int) : Prop := 0 ≤ x ∧ (0 < n → x < n) ∧ (n ≤ 0 → x = 0)
set_option maxHeartbeats 1000000 in
theorem l1Below_any (w : World) (g : Nat) (n : Int) (hn : I64 n) (hc : Cur w g) :
    Calls Try.prog 37 #[ptr g, .int .i64 n] w fun e w' => ∃ x : Int, e = .returned (.int .i64 x) ∧ BelowN n x ∧ Cur w' g ∧ Chg g (g + 1) w w' := by
  have HC := Lib.hid hc; clear hc
  by_cases h0 : n ≤ 0
  · go_enter Try.func37, Try.ntmps37
    go_wp2
    go_ret
    exact ⟨0, rfl, ⟨by omega, by omega, by omega⟩, HC.out, Chg.refl _ _ _⟩
  · by_cases h1 : n ≤ 256
    · go_enter Try.func37, Try.ntmps37
      go_wp2_with fail
      refine (l1Byte_any w g HC.out).mono ?_
      rintro e w1 ⟨x, rfl, hx0, hx1, hc1, hg1⟩
      have HC1 := Lib.hid hc1; have HG1 := Lib.hid hg1; clear hc1 hg1
      go_wp2
      go_ret
      exact ⟨x % n, rfl, ⟨by apply Int.emod_nonneg; omega, fun _ => by apply Int.emod_lt_of_pos; omega, by omega⟩, HC1.out, HG1.out⟩
    · go_enter Try.func37, Try.ntmps37
      go_wp2_with fail
      refine (l1Byte_any w g HC.out).mono ?_
      rintro e w1 ⟨x, rfl, hx0, hx1, hc1, hg1⟩
      have HC1 := Lib.hid hc1; have HG1 := Lib.hid hg1; clear hc1 hg1
      go_wp2_with fail
      refine (l1Byte_any w1 g HC1.out).mono ?_
      rintro e w2 ⟨y, rfl, hy0, hy1, hc2, hg2⟩
      have HC2 := Lib.hid hc2; have HG2 := Lib.hid (HG1.out.trans hg2); clear hc2 hg2
      go_wp2_with fail
      refine (l1Byte_any w2 g HC2.out).mono ?_
      rintro e w3 ⟨z, rfl, hz0, hz1, hc3, hg3⟩
      have HC3 := Lib.hid hc3; have HG3 := Lib.hid (HG2.out.trans hg3); clear hc3 hg3
      go_wp2
      go_ret
      exact ⟨(x * 65536 + y * 256 + z) % n, rfl, ⟨by apply Int.emod_nonneg; omega, fun _ => by apply Int.emod_lt_of_pos; omega, by omega⟩, HC3.out, HG3.out⟩
set_option maxHeartbeats 1000000 in
theorem l1New_any (w : World) (A : Option Addr) (n c : Nat) (bs : List UInt8) (hr : RdB w A n bs) (hn : n ≤ 1048576) :
    Calls Try.prog 36 #[.slice A n c] w fun e w' => e = .returned (ptr w.heap.size) ∧ Cur w' w.heap.size ∧ Below w.heap.size w w' := by
  have HR := Lib.hid hr; clear hr
  go_enter Try.func36, Try.ntmps36
  go_wp2
  go_loopg [3, 4] n (fun left h i wr => ∃ k : Nat, ∃ z : Int, k + left = n ∧ i = .int .i64 k ∧ h = .int .i64 z ∧ I64 z ∧ w = wr)
  case atStart => exact ⟨0, _, by omega, rfl, rfl, by omega, rfl⟩
  case round =>
    obtain ⟨k, z, hk, rfl, rfl, hz, rfl⟩ := hrel
    by_cases hlt : k < n
    · by_cases h4 : (k : Int) < 4000
      · obtain ⟨b, o, hl, rfl, hc0⟩ := HR.out.at_ hlt
        go_wp2
        go_roundg (gk - 1)
        case measure => omega
        case rel => exact ⟨k + 1, _, by omega, by go_num, rfl, and_i64 _ _, rfl⟩
      · go_wp2
        go_ret
        exact ⟨rfl, ⟨A, n, c, bs, 0, z, heap_alloc_new w _, Nat.zero_le _, hz, HR.out.below (below_one w _), hn, fun h a ha => by obtain ⟨b, o, e, hc⟩ := HR.out.2 h; have := World.block_lt_of_cell? w _ (hc 0 _ (List.getElem?_eq_getElem (by rw [HR.out.len1]; exact h))); rw [e] at ha; injection ha with ha; subst ha; exact this⟩, below_one w _⟩
    · go_wp2
      go_ret
      exact ⟨rfl, ⟨A, n, c, bs, 0, z, heap_alloc_new w _, Nat.zero_le _, hz, HR.out.below (below_one w _), hn, fun h a ha => by obtain ⟨b, o, e, hc⟩ := HR.out.2 h; have := World.block_lt_of_cell? w _ (hc 0 _ (List.getElem?_eq_getElem (by rw [HR.out.len1]; exact h))); rw [e] at ha; injection ha with ha; subst ha; exact this⟩, below_one w _⟩

set_option maxHeartbeats 1000000 in
theorem l1Int_any (w : World) (g : Nat) (A : Option Addr) (n c : Nat) (zs : List Int) (hc : Cur w g) (hr : RdI w A n zs) (h0 : 0 < n) (hn : n ≤ 256) (hA : ∀ a, A = some a → a.block ≠ g) :
    Calls Try.prog 38 #[ptr g, .slice A n c] w fun e w' => ∃ x : Int, e = .returned (.int .i64 x) ∧ x ∈ zs ∧ Cur w' g ∧ Chg g (g + 1) w w' := by
  have HC := Lib.hid hc; have HR := Lib.hid hr; have HA := Lib.hid hA; clear hc hr hA
  go_enter Try.func38, Try.ntmps38
  go_wp2_with fail
  refine (l1Below_any w g n (by omega) HC.out).mono ?_
  rintro e w1 ⟨x, rfl, hx, hc1, hg1⟩
  obtain ⟨k, rfl⟩ := Int.eq_ofNat_of_zero_le hx.1
  have hk : k < n := by have := hx.2.1 (by omega); omega
  have HC1 := Lib.hid hc1; have HG1 := Lib.hid hg1; clear hc1 hg1
  obtain ⟨b, o, hl, hAe, hcb⟩ := RdI.at_ (HR.out.chg HG1.out (fun _ a ha => by have := HA.out a ha; omega)) hk
  subst hAe
  clear hx
  go_wp2
  go_ret
  exact ⟨_, rfl, List.getElem_mem hl, HC1.out, HG1.out⟩
end Go.Proofs.Ytafmancgcnlbhaa
