/- ReadDigits of both packages: at most ten digits from an index on. -/
import Derived.Test.YtafmancgcnlbhaaBase
namespace Go.Proofs.Ytafmancgcnlbhaa
open Go.RowKit

def isDig (c : UInt8) : Bool := decide (48 ≤ (c.toNat : Int)) && decide ((c.toNat : Int) ≤ 57)
def rd : Nat → List UInt8 → Int → Int × Nat
  | 0, _, n => (n, 0)
  | _ + 1, [], n => (n, 0)
  | f + 1, c :: cs, n => if isDig c then ((rd f cs (10 * n + ((c.toNat : Int) - 48))).1, (rd f cs (10 * n + ((c.toNat : Int) - 48))).2 + 1) else (n, 0)
/-- The number, and the index behind it. -/
def rdN (s : ByteArray) (a : Int) : Int := if 0 ≤ a ∧ a < s.size then (rd 10 (s.data.toList.drop a.toNat) 0).1 else 0
def rdE (s : ByteArray) (a : Int) : Int := if 0 ≤ a ∧ a < s.size then a + (rd 10 (s.data.toList.drop a.toNat) 0).2 else a

def RdRel (s : ByteArray) (a k : Nat) (n : Int) : Prop :=
  k ≤ 10 ∧ a + k ≤ s.size ∧ 0 ≤ n ∧ n < 10 ^ k ∧ (rd 10 (s.data.toList.drop a) 0).1 = (rd (10 - k) (s.data.toList.drop (a + k)) n).1 ∧ (rd 10 (s.data.toList.drop a) 0).2 = (rd (10 - k) (s.data.toList.drop (a + k)) n).2 + k
theorem pow10_le {k : Nat} {m : Int} (hk : k < 10) (h : m < 10 ^ k) : m ≤ 1000000000 := by
  have h1 : (10 : Nat) ^ k ≤ 10 ^ 9 := Nat.pow_le_pow_right (by omega) (by omega)
  have h2 : ((10 ^ k : Nat) : Int) ≤ ((10 ^ 9 : Nat) : Int) := by exact_mod_cast h1
  simp at h2; omega
theorem drop_at (s : ByteArray) (i : Nat) (h : i < s.size) : s.data.toList.drop i = s[i] :: s.data.toList.drop (i + 1) := by
  rw [List.drop_eq_getElem_cons (by simpa using h)]; rfl
theorem isDig_t {c : UInt8} (h1 : 48 ≤ (c.toNat : Int)) (h2 : (c.toNat : Int) ≤ 57) : isDig c = true := by simp [isDig]; omega
theorem isDig_f {c : UInt8} (h : (c.toNat : Int) < 48 ∨ 57 < (c.toNat : Int)) : isDig c = false := by
  cases hc : isDig c with
  | false => rfl
  | true => simp [isDig] at hc; omega
theorem RdRel.start {s : ByteArray} {a : Nat} (ha : a ≤ s.size) : RdRel s a 0 0 := by simp [RdRel]; exact ha
theorem rd_hit {s : ByteArray} {i f : Nat} {n : Int} (hs : i < s.size) (h1 : 48 ≤ (s[i].toNat : Int)) (h2 : (s[i].toNat : Int) ≤ 57) :
    rd (f + 1) (s.data.toList.drop i) n = ((rd f (s.data.toList.drop (i + 1)) (10 * n + ((s[i].toNat : Int) - 48))).1, (rd f (s.data.toList.drop (i + 1)) (10 * n + ((s[i].toNat : Int) - 48))).2 + 1) := by
  rw [drop_at s i hs, rd, if_pos (isDig_t h1 h2)]
theorem rd_miss {s : ByteArray} {i f : Nat} {n : Int} (h : f = 0 ∨ s.size ≤ i ∨ ∃ hs : i < s.size, (s[i].toNat : Int) < 48 ∨ 57 < (s[i].toNat : Int)) :
    rd f (s.data.toList.drop i) n = (n, 0) := by
  rcases h with rfl | h | ⟨hs, h⟩
  · rfl
  · rw [List.drop_eq_nil_of_le (by simpa using h)]; cases f <;> rfl
  · rw [drop_at s i hs]; cases f with
    | zero => rfl
    | succ f => rw [rd, if_neg (by simp [isDig_f h])]
theorem RdRel.step {s : ByteArray} {a k : Nat} {n : Int} (h : RdRel s a k n) (hk : k < 10) (hs : a + k < s.size) (h1 : 48 ≤ (s[a + k].toNat : Int)) (h2 : (s[a + k].toNat : Int) ≤ 57) :
    RdRel s a (k + 1) (10 * n + ((s[a + k].toNat : Int) - 48)) := by
  obtain ⟨g1, g2, g3, g4, g5, g6⟩ := h
  have e : 10 - k = (10 - (k + 1)) + 1 := by omega
  rw [e, rd_hit hs h1 h2] at g5 g6
  refine ⟨by omega, by omega, by omega, ?_, g5, by rw [g6]; simp only [Nat.add_assoc, Nat.add_comm, Nat.add_left_comm]⟩
  rw [Int.pow_succ]; omega
theorem RdRel.done {s : ByteArray} {a k : Nat} {n : Int} (h : RdRel s a k n) (ha : a < s.size) (hm : 10 ≤ k ∨ s.size ≤ a + k ∨ ∃ hs : a + k < s.size, (s[a + k].toNat : Int) < 48 ∨ 57 < (s[a + k].toNat : Int)) :
    Ending.returned (.tuple #[.int .i64 n, .int .i64 ((a : Int) + (k : Int))]) = .returned (.tuple #[.int .i64 (rdN s a), .int .i64 (rdE s a)]) := by
  obtain ⟨g1, g2, g3, g4, g5, g6⟩ := h
  have e : rd (10 - k) (s.data.toList.drop (a + k)) n = (n, 0) := rd_miss (by rcases hm with h | h | h; exact .inl (by omega); exact .inr (.inl h); exact .inr (.inr h))
  rw [e] at g5 g6
  rw [rdN, rdE, if_pos (by omega), if_pos (by omega), Int.toNat_natCast, g5, g6]; simp

set_option maxHeartbeats 400000 in
theorem impl_rd (s : ByteArray) (a : Nat) (w : World) (hs : s.size ≤ 1048576) (ha : a < s.size) :
    Calls Try.prog 13 #[.string s, .int .i64 a] w fun e w' => e = .returned (.tuple #[.int .i64 (rdN s a), .int .i64 (rdE s a)]) ∧ Below w.heap.size w w' := by
  have d1 : decide ((a : Int) < 0) = false := by simp
  have d2 : decide (s.size ≤ a) = false := by simp; omega
  go_enter Try.func13, Try.ntmps13
  go_wp2
  go_loop [6, 7] (fun n e => ∃ k : Nat, ∃ m : Int, e = .int .i64 ((a : Int) + (k : Int)) ∧ n = .int .i64 m ∧ RdRel s a k m) (fun _ e => s.size - (intOf e).toNat)
  case atStart => exact ⟨0, 0, by simp, rfl, RdRel.start (by omega)⟩
  case round =>
    obtain ⟨k, m, rfl, rfl, hr⟩ := hrel
    have hk : k ≤ 10 := hr.1
    have hak : a + k ≤ s.size := hr.2.1
    have hm0 : 0 ≤ m := hr.2.2.1
    by_cases h1 : a + k < s.size
    · by_cases h2 : k < 10
      · have hm := pow10_le h2 hr.2.2.2.1
        go_wp2
        · go_round
          case rel => exact ⟨k + 1, _, by go_num, rfl, hr.step h2 h1 ‹_› ‹_›⟩
          case measure => simp [intOf]; omega
        · go_ret2; exact ⟨hr.done ha (.inr (.inr ⟨h1, .inr ‹_›⟩)), Below.refl _ _⟩
        · go_ret2; exact ⟨hr.done ha (.inr (.inr ⟨h1, .inl ‹_›⟩)), Below.refl _ _⟩
      · go_wp2
        go_ret2; exact ⟨hr.done ha (.inl (by omega)), Below.refl _ _⟩
    · go_wp2
      go_ret2; exact ⟨hr.done ha (.inr (.inl (by omega))), Below.refl _ _⟩
theorem impl_ReadDigits (w : World) (s : ByteArray) (hs : s.size ≤ 1048576) (a : Int) (ha : I64 a) :
    Calls Try.prog 13 #[.string s, .int .i64 a] w fun e w' => e = .returned (.tuple #[.int .i64 (rdN s a), .int .i64 (rdE s a)]) ∧ Below w.heap.size w w' := by
  by_cases h : 0 ≤ a ∧ a < s.size
  · obtain ⟨n, rfl⟩ := Int.eq_ofNat_of_zero_le h.1
    exact impl_rd s n w hs (by omega)
  · have e1 : rdN s a = 0 := if_neg h
    have e2 : rdE s a = a := if_neg h
    rw [e1, e2]; clear e1 e2
    by_cases h0 : a < 0
    all_goals
      go_enter Try.func13, Try.ntmps13
      go_wp2
      go_ret2
      exact ⟨rfl, Below.refl _ _⟩
set_option maxHeartbeats 400000 in
theorem spec_rd (s : ByteArray) (a : Nat) (w : World) (hs : s.size ≤ 1048576) (ha : a < s.size) :
    Calls Try.prog 12 #[.string s, .int .i64 a] w fun e w' => e = .returned (.tuple #[.int .i64 (rdN s a), .int .i64 (rdE s a)]) ∧ Below w.heap.size w w' := by
  go_enter Try.func12, Try.ntmps12
  go_wp2
  go_loop [6, 7] (fun n e => ∃ k : Nat, ∃ m : Int, e = .int .i64 ((a : Int) + (k : Int)) ∧ n = .int .i64 m ∧ RdRel s a k m) (fun _ e => s.size - (intOf e).toNat)
  case atStart => exact ⟨0, 0, by simp, rfl, RdRel.start (by omega)⟩
  case round =>
    obtain ⟨k, m, rfl, rfl, hr⟩ := hrel
    have hk : k ≤ 10 := hr.1
    have hak : a + k ≤ s.size := hr.2.1
    have hm0 : 0 ≤ m := hr.2.2.1
    by_cases h1 : a + k < s.size
    · have HI : Hid (inR ((a : Int) + (k : Int)) 0 ((s.size : Int) - 1) = true) := Lib.hid (inR_t (by omega))
      by_cases h2 : k < 10
      · have hm := pow10_le h2 hr.2.2.2.1
        go_wp2_with (go_at_call 30; refine (l1In_any _ _ _ _).mono ?_; rintro e w' ⟨rfl, rfl⟩; rw [HI.out])
        · go_round
          case rel => exact ⟨k + 1, m * 10 + (↑s[a + k].toNat - 48), by go_num, rfl, by rw [Int.mul_comm]; exact hr.step h2 h1 ‹_› ‹_›⟩
          case measure => simp [intOf]; omega
        · go_ret2; exact ⟨hr.done ha (.inr (.inr ⟨h1, .inr ‹_›⟩)), Below.refl _ _⟩
        · go_ret2; exact ⟨hr.done ha (.inr (.inr ⟨h1, .inl ‹_›⟩)), Below.refl _ _⟩
      · go_wp2_with (go_at_call 30; refine (l1In_any _ _ _ _).mono ?_; rintro e w' ⟨rfl, rfl⟩; rw [HI.out])
        go_ret2; exact ⟨hr.done ha (.inl (by omega)), Below.refl _ _⟩
    · have HI : Hid (inR ((a : Int) + (k : Int)) 0 ((s.size : Int) - 1) = false) := Lib.hid (inR_f (by omega))
      go_wp2_with (go_at_call 30; refine (l1In_any _ _ _ _).mono ?_; rintro e w' ⟨rfl, rfl⟩; rw [HI.out])
      go_ret2; exact ⟨hr.done ha (.inr (.inl (by omega))), Below.refl _ _⟩
theorem spec_ReadDigits (w : World) (s : ByteArray) (hs : s.size ≤ 1048576) (a : Int) (ha : I64 a) :
    Calls Try.prog 12 #[.string s, .int .i64 a] w fun e w' => e = .returned (.tuple #[.int .i64 (rdN s a), .int .i64 (rdE s a)]) ∧ Below w.heap.size w w' := by
  by_cases h : 0 ≤ a ∧ a < s.size
  · obtain ⟨n, rfl⟩ := Int.eq_ofNat_of_zero_le h.1
    exact spec_rd s n w hs (by omega)
  · have e1 : rdN s a = 0 := if_neg h
    have e2 : rdE s a = a := if_neg h
    rw [e1, e2]; clear e1 e2
    have HI : Hid (inR a 0 ((s.size : Int) - 1) = false) := Lib.hid (inR_f (by omega))
    go_enter Try.func12, Try.ntmps12
    go_wp2
    refine wp_loop_once ?_
    go_wp2_with (go_at_call 30; refine (l1In_any _ _ _ _).mono ?_; rintro e w' ⟨rfl, rfl⟩; rw [HI.out])
    go_ret2
    exact ⟨rfl, Below.refl _ _⟩
end Go.Proofs.Ytafmancgcnlbhaa
