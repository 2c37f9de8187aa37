/- ReadHexDigits of both packages: the bytes of the hexadecimal digits from an index on. -/
import Derived.Test.YtafmancgcnlbhaaKindB
import Derived.Test.YtafmancgcnlbhaaHex
import Derived.Test.YtafmancgcnlbhaaRd
import Derived.StillTailTactics
import Derived.Deep.RegionHeld3
import Derived.Deep.DrawnRows
namespace Go.Proofs.Ytafmancgcnlbhaa
open Go.RowKit
attribute [local go_sem ↓] Go.wp_at_zero Go.wp_at_succ

def hexB (a b : UInt8) : UInt8 := UInt8.ofNat (16 * hexV a + hexV b).toNat
def rhGo : List UInt8 → List UInt8
  | a :: b :: cs => if 0 ≤ hexV a ∧ 0 ≤ hexV b then hexB a b :: rhGo cs else []
  | _ => []
theorem rhGo_hit {a b : UInt8} (cs : List UInt8) (h1 : 0 ≤ hexV a) (h2 : 0 ≤ hexV b) : rhGo (a :: b :: cs) = hexB a b :: rhGo cs := by rw [rhGo, if_pos ⟨h1, h2⟩]
theorem rhGo_miss {a b : UInt8} (cs : List UInt8) (h : hexV a < 0 ∨ hexV b < 0) : rhGo (a :: b :: cs) = [] := by rw [rhGo, if_neg (by omega)]
theorem rhGo_short {l : List UInt8} (h : l.length < 2) : rhGo l = [] := by
  match l, h with
  | [], _ => rfl
  | [_], _ => rfl
theorem rhGo_len : ∀ (n : Nat) (l : List UInt8), l.length ≤ n → 2 * (rhGo l).length ≤ l.length ∧ rhGo (l.take (2 * (rhGo l).length)) = rhGo l := by
  intro n
  induction n with
  | zero => intro l hl; have : l = [] := List.eq_nil_of_length_eq_zero (by omega); subst this; simp [rhGo]
  | succ n ih =>
    intro l hl
    match l, hl with
    | [], _ => simp [rhGo]
    | [_], _ => simp [rhGo]
    | a :: b :: cs, hl =>
      by_cases h : 0 ≤ hexV a ∧ 0 ≤ hexV b
      · have := ih cs (by simp at hl; omega)
        rw [rhGo_hit cs h.1 h.2]
        refine ⟨by simp; omega, ?_⟩
        have e : 2 * (hexB a b :: rhGo cs).length = 2 * (rhGo cs).length + 1 + 1 := by simp; omega
        rw [e, List.take_succ_cons, List.take_succ_cons, rhGo_hit _ h.1 h.2, this.2]
      · rw [rhGo_miss cs (by omega)]; simp [rhGo]
def rhC (s : ByteArray) (a : Int) : List UInt8 := if 0 ≤ a ∧ a ≤ s.size then rhGo (s.data.toList.drop a.toNat) else []
def rhE (s : ByteArray) (a : Int) : Int := if 0 ≤ a ∧ a ≤ s.size then a + 2 * (rhGo (s.data.toList.drop a.toNat)).length else a
theorem lg_rhC (s : ByteArray) (a : Int) (h : s.size ≤ 1048576) : LgB (rhC s a) := by
  unfold rhC LgB
  split
  · have := (rhGo_len _ (s.data.toList.drop a.toNat) (Nat.le_refl _)).1
    simp only [List.length_drop, Array.length_toList] at this
    have : s.data.size = s.size := rfl
    omega
  · simp
theorem drop2_at (s : ByteArray) (i : Nat) (h : i + 1 < s.size) : s.data.toList.drop i = s[i] :: s[i + 1] :: s.data.toList.drop (i + 2) := by
  rw [drop_at s i (by omega), drop_at s (i + 1) h]
/-- From index i on, with the bytes acc read since index a. -/
def RhRel (s : ByteArray) (a j : Nat) (acc : List UInt8) : Prop :=
  a + 2 * j ≤ s.size ∧ acc.length = j ∧ rhGo (s.data.toList.drop a) = acc ++ rhGo (s.data.toList.drop (a + 2 * j))
theorem RhRel.start {s : ByteArray} {a : Nat} (h : a ≤ s.size) : RhRel s a 0 [] := ⟨h, rfl, rfl⟩
theorem RhRel.step {s : ByteArray} {a j : Nat} {acc : List UInt8} (h : RhRel s a j acc) (hi : a + 2 * j + 1 < s.size) (h1 : 0 ≤ hexV s[a + 2 * j]) (h2 : 0 ≤ hexV s[a + 2 * j + 1]) : RhRel s a (j + 1) (acc ++ [hexB s[a + 2 * j] s[a + 2 * j + 1]]) := by
  obtain ⟨g1, g2, g3⟩ := h
  refine ⟨by omega, by simp [g2], ?_⟩
  rw [g3, drop2_at s _ hi, rhGo_hit _ h1 h2, List.append_assoc]; rfl
theorem RhRel.done {s : ByteArray} {a j : Nat} {acc : List UInt8} (h : RhRel s a j acc) (hm : s.size ≤ a + 2 * j + 1 ∨ ∃ hi : a + 2 * j + 1 < s.size, hexV s[a + 2 * j] < 0 ∨ hexV s[a + 2 * j + 1] < 0) : rhC s a = acc ∧ rhE s a = (a : Int) + 2 * (j : Int) := by
  obtain ⟨g1, g2, g3⟩ := h
  have e : rhGo (s.data.toList.drop (a + 2 * j)) = [] := by
    rcases hm with h | ⟨hi, h⟩
    · apply rhGo_short; simp only [List.length_drop, Array.length_toList]; have : s.data.size = s.size := rfl; omega
    · rw [drop2_at s _ hi, rhGo_miss _ h]
  rw [e, List.append_nil] at g3
  constructor
  · rw [rhC, if_pos (by omega), Int.toNat_natCast, g3]
  · rw [rhE, if_pos (by omega), Int.toNat_natCast, g3, g2]

theorem or_hex_fin : ∀ a b : Fin 16, IntKind.u8.wrap (bits .or .i64 (IntKind.i64.wrap (((a : Nat) : Int) * 16)) ((b : Nat) : Int)) = 16 * ((a : Nat) : Int) + ((b : Nat) : Int) := by decide +kernel
theorem or_hex {x y : Int} (hx : 0 ≤ x ∧ x ≤ 15) (hy : 0 ≤ y ∧ y ≤ 15) : IntKind.u8.wrap (bits .or .i64 (IntKind.i64.wrap (x * 16)) y) = 16 * x + y := by
  have h := or_hex_fin ⟨x.toNat, by omega⟩ ⟨y.toNat, by omega⟩
  simp only [Int.toNat_of_nonneg hx.1, Int.toNat_of_nonneg hy.1] at h
  exact h
theorem hexB_val {a b : UInt8} {x y : Int} (hx : hexV a = x) (hy : hexV b = y) (h1 : 0 ≤ x) (h2 : 0 ≤ y) : u8v (hexB a b) = .int .u8 (IntKind.u8.wrap (bits .or .i64 (IntKind.i64.wrap (x * 16)) y)) := by
  have b1 := hexV_bd a; have b2 := hexV_bd b
  rw [or_hex (by omega) (by omega), ← hx, ← hy]
  simp [hexB]; omega
theorem hexV_still (c : UInt8) (w : World) : Calls Try.prog 34 #[u8v c] w fun e w' => e = .returned (.int .i64 (hexV c)) ∧ w' = w := (hexValue_any c w).mono fun _ _ h => ⟨h.1, h.2.symm⟩
set_option maxHeartbeats 1000000 in
theorem impl_rh (w : World) (s : ByteArray) (hs : s.size ≤ 1048576) (a : Nat) (ha : a ≤ s.size) :
    Calls Try.prog 25 #[.string s, .int .i64 a] w fun e w' => ∃ v', e = .returned (.tuple #[v', .int .i64 (rhE s a)]) ∧ OkB w' w.heap.size w'.heap.size v' (rhC s a) ∧ Below w.heap.size w w' := by
  have d1 : decide ((a : Int) < 0) = false := by simp
  have d2 : decide (s.size < a) = false := by simp; omega
  go_enter Try.func25, Try.ntmps25
  go_wp2
  go_loopg [1, 6] (s.size + 1 - a) (fun left iv v wr => ∃ j : Nat, 2 * j + left = s.size + 1 - a ∧ iv = .int .i64 ((a : Int) + 2 * (j : Int)) ∧ ∃ A' m c' acc, v = .slice A' m c' ∧ OwnB wr w.heap.size (.slice A' m c') m acc ∧ Below w.heap.size w wr ∧ RhRel s a j acc)
  case atStart => exact ⟨0, by omega, by simp, _, _, _, [], rfl, World.ownsRow_made w #[] 0 (Nat.le_refl _) (Nat.zero_le _) rfl, (Below.refl _ _).alloc (Nat.le_refl _) _, RhRel.start (by omega)⟩
  case round =>
    obtain ⟨j, hj, rfl, A', m, c', acc, rfl, hown, hbel, hrt⟩ := hrel
    have hja : a + 2 * j ≤ s.size := hrt.1
    have hm : m ≤ 1048576 := by have h1 := hown.len; have h2 := hrt.2.1; omega
    have HRT := Lib.hid hrt; clear hrt
    have hsz := hbel.size
    have HB := Lib.hid hbel; clear hbel
    have HO := Lib.hid hown; clear hown
    by_cases hlt : a + 2 * j + 1 < s.size
    · obtain ⟨x, hx⟩ : ∃ x, hexV s[a + 2 * j] = x := ⟨_, rfl⟩
      obtain ⟨y, hy⟩ : ∃ y, hexV s[a + 2 * j + 1] = y := ⟨_, rfl⟩
      have bx := hexV_bd s[a + 2 * j]; have by_ := hexV_bd s[a + 2 * j + 1]
      rw [hx] at bx; rw [hy] at by_
      have HX := Lib.hid hx; have HY := Lib.hid hy; clear hx hy
      by_cases h1 : 0 ≤ x
      · by_cases h2 : 0 ≤ y
        · go_wp2_with (first | (go_at_call 34; refine (hexValue_any _ _).mono ?_; rintro e w' ⟨rfl, rfl⟩; first | rw [HX.out] | rw [HY.out]))
          have b1 : (0 : Int) ≤ (a : Int) + 2 * (j : Int) := by omega
          have b2 : (a : Int) + 2 * (j : Int) < (s.size : Int) := by omega
          have b3 : (0 : Int) ≤ (a : Int) + 2 * (j : Int) + 1 := by omega
          have b4 : (a : Int) + 2 * (j : Int) + 1 < (s.size : Int) := by omega
          have z1 : IntKind.i64.wrap ((a : Int) + 2 * (j : Int) + 1) = (a : Int) + 2 * (j : Int) + 1 := IntWalk.i64_in _ (by omega)
          have z2 : ((a : Int) + 2 * (j : Int)).toNat = a + 2 * j := by omega
          have z3 : ((a : Int) + 2 * (j : Int) + 1).toNat = a + 2 * j + 1 := by omega
          go_region_held3 (fun _ => True) (trivial)
            (first
              | (refine step_appL (w0 := wr.drew) rfl _ _ (by rfl) elB w.heap.size A' m c' (acc.map u8v) (by rfl) HO.out 1 [_] (by rfl) rfl (by simp [Value.oneCell']) (by unfold maxLen; omega) (by omega) _ _ HB.out.drew (Nat.le_refl _) hsz ?_; intro A1 c1 w1 ap1 HB1 hz1)
              | (go_simp; go_at_call 34; refine (hexValue_any _ _).mono ?_; rintro e w' ⟨rfl, rfl⟩; first | rw [HX.out] | rw [HY.out]))
          all_goals
            go_wp2
            go_roundg (gk - 2)
            case measure => omega
            case rel => exact ⟨j + 1, by omega, by go_num, _, _, _, _, rfl, OwnB.of ap1.own (by rw [List.map_append, List.map_cons, List.map_nil, hexB_val HX.out HY.out h1 h2]), HB1.out, HRT.out.step hlt (by rw [HX.out]; exact h1) (by rw [HY.out]; exact h2)⟩
        · have HD := Lib.hid (HRT.out.done (.inr ⟨hlt, .inr (by rw [HY.out]; omega)⟩))
          go_wp2_with (first | (go_at_call 34; refine (hexValue_any _ _).mono ?_; rintro e w' ⟨rfl, rfl⟩; first | rw [HX.out] | rw [HY.out]))
          go_ret2
          exact ⟨_, ret_t2 rfl (int_eq HD.out.2.symm), by rw [HD.out.1]; exact OkB.of HO.out, HB.out⟩
      · have HD := Lib.hid (HRT.out.done (.inr ⟨hlt, .inl (by rw [HX.out]; omega)⟩))
        go_wp2_with (first | (go_at_call 34; refine (hexValue_any _ _).mono ?_; rintro e w' ⟨rfl, rfl⟩; first | rw [HX.out] | rw [HY.out]))
        go_ret2
        exact ⟨_, ret_t2 rfl (int_eq HD.out.2.symm), by rw [HD.out.1]; exact OkB.of HO.out, HB.out⟩
    · have HD := Lib.hid (HRT.out.done (.inl (by omega)))
      go_wp2
      go_ret2
      exact ⟨_, ret_t2 rfl (int_eq HD.out.2.symm), by rw [HD.out.1]; exact OkB.of HO.out, HB.out⟩
theorem rh_out {s : ByteArray} {a : Int} (h : ¬ (0 ≤ a ∧ a ≤ s.size)) : rhC s a = [] ∧ rhE s a = a := ⟨if_neg h, if_neg h⟩
theorem impl_ReadHexDigits (w : World) (s : ByteArray) (hs : s.size ≤ 1048576) (a : Int) (ha : I64 a) :
    Calls Try.prog 25 #[.string s, .int .i64 a] w fun e w' => ∃ v', e = .returned (.tuple #[v', .int .i64 (rhE s a)]) ∧ OkB w' w.heap.size w'.heap.size v' (rhC s a) ∧ Below w.heap.size w w' := by
  by_cases h : 0 ≤ a ∧ a ≤ s.size
  · obtain ⟨k, rfl⟩ := Int.eq_ofNat_of_zero_le h.1
    exact impl_rh w s hs k (by omega)
  · have HO := Lib.hid (rh_out h)
    by_cases h0 : a < 0
    all_goals
      go_enter Try.func25, Try.ntmps25
      go_wp2
      go_ret2
      exact ⟨_, ret_t2 rfl (int_eq HO.out.2.symm), by rw [HO.out.1]; simpa using okB_empty w _ rfl, (Below.refl _ _).alloc (Nat.le_refl _) _⟩
end Go.Proofs.Ytafmancgcnlbhaa
