/- DrawReadTerminated, DrawEscapeBytes: some bytes, an index, a terminator. -/
import Derived.Test.YtafmancgcnlbhaaDraw
import Derived.Test.YtafmancgcnlbhaaKindB
namespace Go.Proofs.Ytafmancgcnlbhaa
open Go.RowKit

set_option maxHeartbeats 2000000 in
theorem drawReadTerminated (w : World) (A : Option Addr) (n c : Nat) (bs : List UInt8) (hr : RdB w A n bs) (hn : n ≤ 1048576) :
    Calls Try.prog 35 #[.slice A n c] w fun e w' => ∃ v' ds i t, e = .returned (.tuple #[v', .int .i64 i, u8v t]) ∧ OkB w' w.heap.size w'.heap.size v' ds ∧ ds.length ≤ 8 ∧ Below w.heap.size w w' := by
  have HR := Lib.hid hr; clear hr
  go_enter Try.func35, Try.ntmps35
  go_wp2_with fail
  refine (l1New_any w A n c bs HR.out hn).mono ?_
  rintro e w1 ⟨rfl, hc1, hb1⟩
  have HC1 := Lib.hid hc1; have HB1 := Lib.hid hb1; have hs1 := hc1.lt; clear hc1 hb1
  go_wp2_with fail
  refine (l1Below_any _ w.heap.size 9 (by omega) (HC1.out.below (below_one _ _))).mono ?_
  rintro e w2 ⟨x, rfl, hx, hc2, hg2⟩
  obtain ⟨k0, rfl⟩ := Int.eq_ofNat_of_zero_le hx.1
  have hk0 : k0 ≤ 8 := by have := hx.2.1 (by omega); omega
  have hs2 := hg2.size
  simp only [World.size_alloc] at hs2
  have HC2 := Lib.hid hc2
  have HB2 := Lib.hid (hg2.below (HB1.out.alloc (by omega) _) (Nat.le_refl _) (by simp; omega))
  have HO2 := Lib.hid (own_chg (World.ownsRow_made w1 #[] 0 (e := 5) (size := 1) (base := w.heap.size + 1) (by omega) (Nat.zero_le _) rfl) hg2 (Nat.le_refl _))
  clear hc2 hg2 hx
  go_wp2
  go_loopg [6, 7] k0 (fun left v i wr => ∃ A' m c' ds, i = .int .i64 (left : Int) ∧ m + left = k0 ∧ v = .slice A' m c' ∧ OwnB wr (w.heap.size + 1) (.slice A' m c') m ds ∧ Cur wr w.heap.size ∧ Below w.heap.size w wr ∧ w.heap.size < wr.heap.size)
  case atStart => exact ⟨_, 0, _, [], rfl, by omega, rfl, HO2.out, HC2.out, HB2.out, by omega⟩
  case round =>
    obtain ⟨A', m, c', ds, rfl, hm, rfl, hown, hcur, hbel, hsz⟩ := hrel
    have hlen := hown.len
    have HO := Lib.hid hown; have HC := Lib.hid hcur; have HB := Lib.hid hbel; clear hown hcur hbel
    by_cases hlt : 0 < gk
    · go_wp2_with fail
      refine (l1Int_any _ w.heap.size _ 5 5 [7, 65, 92, 10, 0] (HC.out.below (below_one _ _)) (Rd.fresh _ _ _ _ _ rfl) (by omega) (by omega) (fun a ha => by injection ha with ha; subst ha; simp; omega)).mono ?_
      rintro e w3 ⟨x, rfl, hx, hc3, hg3⟩
      have hs3 := hg3.size
      simp only [World.size_alloc] at hs3
      have HC3 := Lib.hid hc3
      have HB3 := Lib.hid (hg3.below (HB.out.alloc (by omega) _) (Nat.le_refl _) (by simp; omega))
      have HO3 := Lib.hid (own_chg (HO.out.alloc _) hg3 (Nat.le_refl _))
      have hx0 : 0 ≤ x ∧ x ≤ 255 := by simp at hx; omega
      clear hc3 hg3 hx
      go_wp2_with (at_builtin; refine wpList_appL rfl _ _ rfl elB (w.heap.size + 1) A' m c' _ rfl HO3.out 1 [.int .u8 x] rfl rfl (by simp [Value.oneCell']) (by unfold maxLen; omega) (by omega) _ _ HB3.out (by omega) (by omega) ?_; intro A1 c1 w4 ap4 HB4 hz4)
      go_roundg (gk - 1)
      case measure => omega
      case rel =>
        refine ⟨A1, m + 1, c1, ds ++ [UInt8.ofNat x.toNat], int_eq (by omega), by omega, rfl, OwnB.of ap4.own ?_, HC3.out.app ap4 HO3.out (by omega), HB4.out, by omega⟩
        rw [List.map_append, List.map_cons, List.map_nil]; simp; omega
    · obtain rfl : gk = 0 := by omega
      go_wp2_with fail
      refine (l1Below_any _ w.heap.size (m + 3) (by omega) HC.out).mono ?_
      rintro e w3 ⟨x, rfl, hx, hc3, hg3⟩
      have hs3 := hg3.size
      have hx0 : 0 ≤ x ∧ x ≤ 300 := by have h1 := hx.1; have h2 := hx.2.1 (by omega); omega
      have HC3 := Lib.hid hc3
      have HB3 := Lib.hid (hg3.below HB.out (Nat.le_refl _) (by omega))
      have HO3 := Lib.hid (own_chg HO.out hg3 (Nat.le_refl _))
      clear hc3 hg3 hx
      go_wp2_with fail
      refine (l1Int_any _ w.heap.size _ 4 4 [10, 0, 65, 92] (HC3.out.below (below_one _ _)) (Rd.fresh _ _ _ _ _ rfl) (by omega) (by omega) (fun a ha => by injection ha with ha; subst ha; simp; omega)).mono ?_
      rintro e w4 ⟨y, rfl, hy, hc4, hg4⟩
      have hs4 := hg4.size
      simp only [World.size_alloc] at hs4
      have HB4 := Lib.hid (hg4.below (HB3.out.alloc (by omega) _) (Nat.le_refl _) (by simp; omega))
      have HO4 := Lib.hid (own_chg (HO3.out.alloc _) hg4 (Nat.le_refl _))
      have hy0 : 0 ≤ y ∧ y ≤ 255 := by simp at hy; omega
      clear hc4 hg4 hy
      go_wp2
      go_ret3
      exact ⟨_, ds, _, UInt8.ofNat y.toNat, ret_t3 rfl rfl (by simp; omega), ⟨_, _, _, rfl, (OwnIn.of HO4.out).wider (by omega) (Nat.le_refl _)⟩, by omega, HB4.out⟩
set_option maxHeartbeats 1000000 in
theorem drawEscapeBytes (w : World) (A : Option Addr) (n c : Nat) (bs : List UInt8) (hr : RdB w A n bs) (hn : n ≤ 1048576) :
    Calls Try.prog 27 #[.slice A n c] w fun e w' => ∃ v' ds t, e = .returned (.tuple #[v', u8v t]) ∧ OkB w' w.heap.size w'.heap.size v' ds ∧ ds.length ≤ 8 ∧ Below w.heap.size w w' := by
  have HR := Lib.hid hr; clear hr
  go_enter Try.func27, Try.ntmps27
  go_wp2_with fail
  refine (drawReadTerminated w A n c bs HR.out hn).mono ?_
  rintro e w1 ⟨v', ds, i, t, rfl, h1, h2, h3⟩
  have H1 := Lib.hid h1; have H2 := Lib.hid h2; have H3 := Lib.hid h3; clear h1 h2 h3
  go_wp2
  go_ret2
  exact ⟨_, ds, t, rfl, H1.out, H2.out, H3.out⟩
end Go.Proofs.Ytafmancgcnlbhaa
