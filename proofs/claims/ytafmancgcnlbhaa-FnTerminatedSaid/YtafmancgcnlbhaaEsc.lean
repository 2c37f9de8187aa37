/- EscapeBytes, EscapeAll, ReadTerminated of both packages: what they return. -/
import Derived.Test.YtafmancgcnlbhaaBytes
namespace Go.Proofs.Ytafmancgcnlbhaa
open Go.RowKit

def escB (t : UInt8) (bs : List UInt8) : List UInt8 := bs.flatMap fun c => if c = t ∨ c = 92 then [92, c] else [c]
theorem escB_snoc (t : UInt8) (bs : List UInt8) (k : Nat) (h : k < bs.length) : escB t (bs.take (k + 1)) = escB t (bs.take k) ++ (if bs[k] = t ∨ bs[k] = 92 then [92, bs[k]] else [bs[k]]) := by
  rw [List.take_succ_eq_append_getElem h]; simp only [escB, List.flatMap_append, List.flatMap_cons, List.flatMap_nil, List.append_nil]
theorem escB_len (t : UInt8) (bs : List UInt8) : (escB t bs).length ≤ 2 * bs.length := by
  induction bs with
  | nil => simp [escB]
  | cons c cs ih => simp only [escB, List.flatMap_cons, List.length_append, List.length_cons] at ih ⊢; split <;> simp only [List.length_cons, List.length_nil] <;> omega

set_option maxHeartbeats 400000 in
theorem implEscapeBytes_any (A : Option Addr) (n c : Nat) (bs : List UInt8) (t : UInt8) (w : World) (hr : RdB w A n bs) (hn : n ≤ 1048576) :
    Calls Try.prog 21 #[.slice A n c, u8v t] w fun e w' =>
      ∃ A' m c', e = .returned (.slice A' m c') ∧ OwnB w' w.heap.size (.slice A' m c') m (escB t bs ++ [t]) ∧ Below w.heap.size w w' := by
  have hlen := hr.len
  go_enter Try.func21, Try.ntmps21
  go_wp2_with (at_make; refine wpList_mk0 rfl _ _ rfl elB _ _ _ (n + 1) rfl rfl (by omega) (by omega) (by unfold maxLen; omega) ?_; intro w1 hown1 hbel1 hsz1)
  go_loopg [5, 14] n (fun left v i wr => ∃ k : Nat, k + left = n ∧ i = .int .i64 k ∧ ∃ A' m c', v = .slice A' m c' ∧ OwnB wr w.heap.size (.slice A' m c') m (escB t (bs.take k)) ∧ Below w.heap.size w wr)
  case atStart => exact ⟨0, by omega, rfl, _, _, _, rfl, hown1, hbel1⟩
  case round =>
    obtain ⟨k, hk, rfl, A', m, c', rfl, hown, hbel⟩ := hrel
    have hm : m ≤ 2097152 := by
      have h1 := hown.len; have h2 := escB_len t (bs.take k); simp only [List.length_take] at h2; omega
    have hsz := hbel.size
    by_cases hlt : k < n
    · obtain ⟨b, o, hl, rfl, hc0⟩ := hr.at_ hlt
      have hc1 : wr.cell? ⟨b, o + k, none⟩ = some (u8v bs[k]) := below_cell hbel _ _ hc0
      have HS := Lib.hid (escB_snoc t bs k hl)
      have HB := Lib.hid hbel; clear hbel
      clear hown1 hbel1 hc0 hr
      by_cases h1 : bs[k] = t ∨ bs[k] = 92
      · have HS' := HS.out; rw [if_pos h1] at HS'; have HS2 := Lib.hid HS'; clear HS' HS
        have hsplit : (((bs[k].toNat : Int) == (t.toNat : Int)) = true) ∨ ((((bs[k].toNat : Int) == (t.toNat : Int)) = false) ∧ (((bs[k].toNat : Int) == 92) = true)) := by
          by_cases h2 : bs[k] = t
          · exact .inl (by simp [h2])
          · refine .inr ⟨by simp [u8_eq, h2], ?_⟩
            have h3 := h1.resolve_left h2
            rw [h3]; rfl
        clear h1
        rcases hsplit with e1 | ⟨e1, e2⟩
        all_goals
          go_wp2_with (first
            | (at_builtin; refine wpList_appL rfl _ _ rfl elB w.heap.size A' m c' _ rfl hown 1 [.int .u8 92] rfl rfl (by simp [Value.oneCell']) (by unfold maxLen; omega) (by omega) _ _ HB.out (Nat.le_refl _) hsz ?_; intro A1 c1 w1 ap1 HB1 hz1; clear hown)
            | (at_builtin; refine wpList_appL rfl _ _ rfl elB w.heap.size A1 (m + 1) c1 _ rfl ap1.own 1 [u8v bs[k]] rfl rfl (by simp [Value.oneCell']) (by unfold maxLen; omega) (by omega) _ _ HB1.out (Nat.le_refl _) (by omega) ?_; intro A2 c2 w2 ap2 HB2 hz2))
          go_roundg (gk - 1)
          case measure => omega
          case rel => exact ⟨k + 1, by omega, by go_num, _, _, _, rfl, OwnB.of ap2.own (by rw [HS2.out]; simp), HB2.out⟩
      · have HS' := HS.out; rw [if_neg h1] at HS'; have HS2 := Lib.hid HS'; clear HS' HS
        have e1 : ((bs[k].toNat : Int) == (t.toNat : Int)) = false := by simp only [beq_eq_false_iff_ne, ne_eq, u8_eq]; exact fun h => h1 (.inl h)
        have e2 : ((bs[k].toNat : Int) == 92) = false := by
          have h := u8_eq bs[k] 92
          simp only [beq_eq_false_iff_ne, ne_eq]
          exact fun h' => h1 (.inr (h.1 h'))
        clear h1
        go_wp2_with (at_builtin; refine wpList_appL rfl _ _ rfl elB w.heap.size A' m c' _ rfl hown 1 [u8v bs[k]] rfl rfl (by simp [Value.oneCell']) (by unfold maxLen; omega) (by omega) _ _ HB.out (Nat.le_refl _) hsz ?_; intro A1 c1 w1 ap1 HB1 hz1; clear hown)
        go_roundg (gk - 1)
        case measure => omega
        case rel => exact ⟨k + 1, by omega, by go_num, _, _, _, rfl, OwnB.of ap1.own (by rw [HS2.out]; simp), HB1.out⟩
    · obtain rfl : k = n := by omega
      have HB := Lib.hid hbel; clear hbel
      clear hown1 hbel1 hr
      go_wp2_with (at_builtin; refine wpList_appL rfl _ _ rfl elB w.heap.size A' m c' _ rfl hown 1 [u8v t] rfl rfl (by simp [Value.oneCell']) (by unfold maxLen; omega) (by omega) _ _ HB.out (Nat.le_refl _) hsz ?_; intro A1 c1 w1 ap1 HB1 hz1; clear hown)
      go_ret
      refine ⟨_, _, _, rfl, ?_, HB1.out⟩
      have h := ap1.own
      rw [List.take_of_length_le (by omega)] at h
      exact OwnB.of h (by simp)
end Go.Proofs.Ytafmancgcnlbhaa
