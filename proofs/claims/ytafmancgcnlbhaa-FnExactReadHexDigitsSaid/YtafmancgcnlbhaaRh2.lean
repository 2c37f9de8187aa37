/- ReadHexDigits and ParseHex of the reference. -/
import Derived.Test.YtafmancgcnlbhaaRh
import Derived.Lib.Strings
namespace Go.Proofs.Ytafmancgcnlbhaa
open Go.RowKit

theorem rhGo_pos {l : List UInt8} {a b : UInt8} {cs : List UInt8} (h : l = a :: b :: cs) (hp : 0 < (rhGo l).length) : 0 ≤ hexV a ∧ 0 ≤ hexV b := by
  subst h
  rcases Int.lt_or_le (hexV a) 0 with h1 | h1
  · rw [rhGo_miss cs (.inl h1)] at hp; simp at hp
  · rcases Int.lt_or_le (hexV b) 0 with h2 | h2
    · rw [rhGo_miss cs (.inr h2)] at hp; simp at hp
    · exact ⟨h1, h2⟩
theorem hexB_val' {a b : UInt8} {x y : Int} (hx : hexV a = x) (hy : hexV b = y) (h1 : 0 ≤ x) (h2 : 0 ≤ y) : u8v (hexB a b) = .int .u8 (x * 16 + y) := by
  have b1 := hexV_bd a; have b2 := hexV_bd b
  rw [← hx, ← hy]; simp [hexB]; omega

set_option maxHeartbeats 1000000 in
theorem parseHex_ok (w : World) (s : ByteArray) (k : Nat) (hs : s.size = 2 * k) (hk : (rhGo s.data.toList).length = k) (hb : s.size ≤ 1048576) :
    Calls Try.prog 33 #[.string s] w fun e w' => ∃ v', e = .returned (.tuple #[v', .bool true]) ∧ OkB w' w.heap.size w'.heap.size v' (rhGo s.data.toList) ∧ Below w.heap.size w w' := by
  have HS := Lib.hid hs
  have hb' : s.size ≤ 2 * k := by omega
  have hb'' : 2 * k ≤ s.size := by omega
  have HK := Lib.hid hk
  have e0 : ((s.size : Int) % 2 == 0) = true := by simp; omega
  have e1 : (!((s.size : Int) % 2 == 0)) = false := by rw [e0]; rfl
  have e2 : ((s.size : Int) % 2 != 0) = false := by simp; omega
  clear hs hk
  go_enter Try.func33, Try.ntmps33
  go_wp2
  go_loopg [4, 5] (k + 1) (fun left v iv wr => ∃ j : Nat, j + left = k + 1 ∧ iv = .int .i64 (2 * (j : Int)) ∧ ∃ A' m c' acc, v = .slice A' m c' ∧ OwnB wr w.heap.size (.slice A' m c') m acc ∧ Below w.heap.size w wr ∧ RhRel s 0 j acc)
  case atStart => exact ⟨0, by omega, by simp, _, _, _, [], rfl, World.ownsRow_made w #[] 0 (Nat.le_refl _) (Nat.zero_le _) rfl, (Below.refl _ _).alloc (Nat.le_refl _) _, RhRel.start (by omega)⟩
  case round =>
    obtain ⟨j, hj, rfl, A', m, c', acc, rfl, hown, hbel, hrt⟩ := hrel
    have hja : 2 * j ≤ s.size := by have := hrt.1; omega
    have hm : m ≤ 1048576 := by have h1 := hown.len; have h2 := hrt.2.1; omega
    have hsz := hbel.size
    have HB := Lib.hid hbel; clear hbel
    have HO := Lib.hid hown; clear hown
    by_cases hlt : 2 * j + 1 < s.size
    · obtain ⟨x, hx⟩ : ∃ x, hexV s[2 * j] = x := ⟨_, rfl⟩
      obtain ⟨y, hy⟩ : ∃ y, hexV s[2 * j + 1] = y := ⟨_, rfl⟩
      have bx := hexV_bd s[2 * j]; have by_ := hexV_bd s[2 * j + 1]
      rw [hx] at bx; rw [hy] at by_
      have hpos : 0 ≤ x ∧ 0 ≤ y := by
        rw [← hx, ← hy]
        refine rhGo_pos (drop2_at s (2 * j) hlt) ?_
        have h1 := hrt.2.2; have h2 := hrt.2.1
        simp only [List.drop_zero, Nat.zero_add] at h1
        have h3 := HK.out
        rw [h1, List.length_append] at h3
        omega
      have HN := Lib.hid (hrt.step (by omega) (by simp only [Nat.zero_add]; rw [hx]; exact hpos.1) (by simp only [Nat.zero_add]; rw [hy]; exact hpos.2))
      have HX := Lib.hid hx; have HY := Lib.hid hy; clear hx hy hrt
      obtain ⟨h1, h2⟩ := hpos
      go_wp2_with (first
        | (go_at_call 32; refine (l2Digit_any _ _).mono ?_; rintro e w' ⟨rfl, rfl⟩; first | rw [HX.out] | rw [HY.out])
        | (at_builtin; refine wpList_appL rfl _ _ rfl elB w.heap.size A' m c' _ rfl HO.out 1 [.int .u8 (x * 16 + y)] rfl rfl (by simp [Value.oneCell']) (by unfold maxLen; omega) (by omega) _ _ HB.out (Nat.le_refl _) hsz ?_; intro A1 c1 w1 ap1 HB1 hz1))
      go_roundg (gk - 1)
      case measure => omega
      case rel => exact ⟨j + 1, by omega, by go_num, _, _, _, _, rfl, OwnB.of ap1.own (by rw [List.map_append, List.map_cons, List.map_nil, hexB_val' (by simpa using HX.out) (by simpa using HY.out) h1 h2]), HB1.out, HN.out⟩
    · have hd : rhGo s.data.toList = acc := by
        have h1 := hrt.2.2
        simp only [List.drop_zero, Nat.zero_add] at h1
        rw [h1, List.drop_eq_nil_of_le (by simp only [Array.length_toList]; have : s.data.size = s.size := rfl; omega)]; simp [rhGo]
      have HD := Lib.hid hd; clear hd hrt
      have hjk : ¬ 2 * j < s.size := by omega
      go_wp2
      go_ret2
      exact ⟨_, rfl, by rw [HD.out]; exact OkB.of HO.out, HB.out⟩

theorem extract_list (s : ByteArray) (a b : Nat) : (s.extract a b).data.toList = (s.data.toList.drop a).take (b - a) := by
  exact Lib.extract_data s a b

set_option maxHeartbeats 1000000 in
theorem spec_rh (w : World) (s : ByteArray) (hs : s.size ≤ 1048576) (a : Nat) (ha : a ≤ s.size) :
    Calls Try.prog 24 #[.string s, .int .i64 a] w fun e w' => ∃ v', e = .returned (.tuple #[v', .int .i64 (rhE s a)]) ∧ OkB w' w.heap.size w'.heap.size v' (rhC s a) ∧ Below w.heap.size w w' := by
  have HI : Hid (inR (a : Int) 0 (s.size : Int) = true) := Lib.hid (inR_t (by omega))
  go_enter Try.func24, Try.ntmps24
  go_wp2_with (go_at_call 30; refine (l1In_any _ _ _ _).mono ?_; rintro e w' ⟨rfl, rfl⟩; rw [HI.out])
  go_loopg [6] (s.size + 1 - a) (fun left iv wr => ∃ j : Nat, 2 * j + left = s.size + 1 - a ∧ iv = .int .i64 ((a : Int) + 2 * (j : Int)) ∧ w = wr ∧ ∃ acc, RhRel s a j acc)
  case atStart => exact ⟨0, by omega, by simp, rfl, [], RhRel.start (by omega)⟩
  case round =>
    obtain ⟨j, hj, rfl, rfl, acc, hrt⟩ := hrel
    have hja : a + 2 * j ≤ s.size := hrt.1
    by_cases hgo : ∃ hlt : a + 2 * j + 1 < s.size, 0 ≤ hexV s[a + 2 * j] ∧ 0 ≤ hexV s[a + 2 * j + 1]
    · obtain ⟨hlt, h1, h2⟩ := hgo
      have HN := Lib.hid (hrt.step hlt h1 h2); clear hrt
      obtain ⟨x, hx⟩ : ∃ x, hexV s[a + 2 * j] = x := ⟨_, rfl⟩
      obtain ⟨y, hy⟩ : ∃ y, hexV s[a + 2 * j + 1] = y := ⟨_, rfl⟩
      rw [hx] at h1; rw [hy] at h2
      have HX := Lib.hid hx; have HY := Lib.hid hy; clear hx hy
      go_wp2_with (first | (go_at_call 32; refine (l2Digit_any _ _).mono ?_; rintro e w' ⟨rfl, rfl⟩; first | rw [HX.out] | rw [HY.out]))
      go_roundg (gk - 2)
      case measure => omega
      case rel => exact ⟨j + 1, by omega, by go_num, rfl, _, HN.out⟩
    · have hd := hrt.done (by
        by_cases hlt : a + 2 * j + 1 < s.size
        · exact .inr ⟨hlt, by
            have : ¬ (0 ≤ hexV s[a + 2 * j] ∧ 0 ≤ hexV s[a + 2 * j + 1]) := fun h => hgo ⟨hlt, h⟩
            omega⟩
        · exact .inl (by omega))
      have hlen : (rhGo (s.data.toList.drop a)).length = j := by
        have h1 := hd.1; have h2 := hrt.2.1
        rw [rhC, if_pos (by omega), Int.toNat_natCast] at h1
        rw [h1, h2]
      have hex : rhGo (s.extract a (a + 2 * j)).data.toList = rhGo (s.data.toList.drop a) := by
        have h := (rhGo_len _ (s.data.toList.drop a) (Nat.le_refl _)).2
        rw [hlen] at h
        rw [extract_list, Nat.add_sub_cancel_left, h]
      have hcc : rhC s a = rhGo (s.data.toList.drop a) := by rw [rhC, if_pos (by omega), Int.toNat_natCast]
      have hsz : (s.extract a (a + 2 * j)).size = 2 * j := by simp [ByteArray.size_extract]; omega
      have HP := Lib.hid (parseHex_ok w (s.extract a (a + 2 * j)) j hsz (by rw [hex, hlen]) (by omega))
      have HD := Lib.hid hd; have HEX := Lib.hid (hex.trans hcc.symm)
      clear hd hlen hex hcc hsz hrt
      have i0 : (0 : Int) ≤ (a : Int) := by omega
      have i1 : (a : Int) ≤ (a : Int) + 2 * (j : Int) := by omega
      have i2 : (a : Int) + 2 * (j : Int) ≤ (s.size : Int) := by omega
      have i3 : ((a : Int) + 2 * (j : Int)).toNat = a + 2 * j := by omega
      by_cases hlt : a + 2 * j + 1 < s.size
      · obtain ⟨x, hx⟩ : ∃ x, hexV s[a + 2 * j] = x := ⟨_, rfl⟩
        obtain ⟨y, hy⟩ : ∃ y, hexV s[a + 2 * j + 1] = y := ⟨_, rfl⟩
        have hno : ¬ (0 ≤ x ∧ 0 ≤ y) := by rw [← hx, ← hy]; exact fun h => hgo ⟨hlt, h⟩
        have HX := Lib.hid hx; have HY := Lib.hid hy; clear hx hy hgo
        by_cases h1 : 0 ≤ x
        · have h2 : y < 0 := by omega
          clear hno
          go_wp2_with (first | (go_at_call 32; refine (l2Digit_any _ _).mono ?_; rintro e w' ⟨rfl, rfl⟩; first | rw [HX.out] | rw [HY.out]) | (go_at_call 33; refine HP.out.mono ?_; rintro e w' ⟨v', rfl, h3, h4⟩; have H3 := Lib.hid h3; have H4 := Lib.hid h4; clear h3 h4))
          go_ret2
          exact ⟨_, ret_t2 rfl (int_eq HD.out.2.symm), by rw [← HEX.out]; exact H3.out, H4.out⟩
        · have h1' : x < 0 := by omega
          clear hno
          go_wp2_with (first | (go_at_call 32; refine (l2Digit_any _ _).mono ?_; rintro e w' ⟨rfl, rfl⟩; first | rw [HX.out] | rw [HY.out]) | (go_at_call 33; refine HP.out.mono ?_; rintro e w' ⟨v', rfl, h3, h4⟩; have H3 := Lib.hid h3; have H4 := Lib.hid h4; clear h3 h4))
          go_ret2
          exact ⟨_, ret_t2 rfl (int_eq HD.out.2.symm), by rw [← HEX.out]; exact H3.out, H4.out⟩
      · clear hgo
        go_wp2_with (first | (go_at_call 33; refine HP.out.mono ?_; rintro e w' ⟨v', rfl, h3, h4⟩; have H3 := Lib.hid h3; have H4 := Lib.hid h4; clear h3 h4))
        go_ret2
        exact ⟨_, ret_t2 rfl (int_eq HD.out.2.symm), by rw [← HEX.out]; exact H3.out, H4.out⟩
theorem spec_ReadHexDigits (w : World) (s : ByteArray) (hs : s.size ≤ 1048576) (a : Int) (ha : I64 a) :
    Calls Try.prog 24 #[.string s, .int .i64 a] w fun e w' => ∃ v', e = .returned (.tuple #[v', .int .i64 (rhE s a)]) ∧ OkB w' w.heap.size w'.heap.size v' (rhC s a) ∧ Below w.heap.size w w' := by
  by_cases h : 0 ≤ a ∧ a ≤ s.size
  · obtain ⟨k, rfl⟩ := Int.eq_ofNat_of_zero_le h.1
    exact spec_rh w s hs k (by omega)
  · have HO := Lib.hid (rh_out h)
    have HI : Hid (inR a 0 (s.size : Int) = false) := Lib.hid (inR_f h)
    go_enter Try.func24, Try.ntmps24
    go_wp2_with (go_at_call 30; refine (l1In_any _ _ _ _).mono ?_; rintro e w' ⟨rfl, rfl⟩; rw [HI.out])
    go_ret2
    exact ⟨_, ret_t2 rfl (int_eq HO.out.2.symm), by rw [HO.out.1]; simpa using okB_empty w _ rfl, (Below.refl _ _).alloc (Nat.le_refl _) _⟩
end Go.Proofs.Ytafmancgcnlbhaa
