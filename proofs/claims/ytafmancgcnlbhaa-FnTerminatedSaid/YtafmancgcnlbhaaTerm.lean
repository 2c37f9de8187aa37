/- ReadTerminated of both packages: the content in front of a terminator, what comes behind it, whether there is one. -/
import Derived.Test.YtafmancgcnlbhaaKindB
import Derived.Test.YtafmancgcnlbhaaBase
namespace Go.Proofs.Ytafmancgcnlbhaa
open Go.RowKit

/-- What is read of the bytes that are left: the content, and how many bytes it takes. -/
def rtGo (t : UInt8) : List UInt8 → Option (List UInt8 × Nat)
  | [] => none
  | c :: cs => if c = t then some ([], 1) else if c = 92 then
      match cs with
      | [] => none
      | d :: ds => (rtGo t ds).map fun p => (d :: p.1, p.2 + 2)
    else (rtGo t cs).map fun p => (c :: p.1, p.2 + 1)
theorem rtGo_hit {t c : UInt8} (cs : List UInt8) (h : c = t) : rtGo t (c :: cs) = some ([], 1) := by cases cs <;> simp [rtGo, h]
theorem rtGo_plain {t c : UInt8} (cs : List UInt8) (h : ¬ c = t) (h2 : ¬ c = 92) : rtGo t (c :: cs) = (rtGo t cs).map fun p => (c :: p.1, p.2 + 1) := by cases cs <;> simp [rtGo, h, h2]
theorem rtGo_esc {t c d : UInt8} (ds : List UInt8) (h : ¬ c = t) (h2 : c = 92) : rtGo t (c :: d :: ds) = (rtGo t ds).map fun p => (d :: p.1, p.2 + 2) := by subst h2; simp [rtGo, h]
theorem rtGo_esc0 {t c : UInt8} (h : ¬ c = t) (h2 : c = 92) : rtGo t [c] = none := by subst h2; simp [rtGo, h]
def rtOf (t : UInt8) (bs : List UInt8) (a : Int) : Option (List UInt8 × Nat) := if 0 ≤ a ∧ a ≤ bs.length then rtGo t (bs.drop a.toNat) else none
def rtC (t : UInt8) (bs : List UInt8) (a : Int) : List UInt8 := match rtOf t bs a with | some p => p.1 | none => []
def rtE (t : UInt8) (bs : List UInt8) (a : Int) : Int := match rtOf t bs a with | some p => a + p.2 | none => a
def rtB (t : UInt8) (bs : List UInt8) (a : Int) : Bool := (rtOf t bs a).isSome
theorem rtGo_len (t : UInt8) : ∀ (n : Nat) (l : List UInt8), l.length ≤ n → ∀ p, rtGo t l = some p → p.1.length ≤ l.length ∧ p.2 ≤ l.length := by
  intro n
  induction n with
  | zero => intro l hl p hp; cases l with
    | nil => simp [rtGo] at hp
    | cons c cs => simp at hl
  | succ n ih =>
    intro l hl p hp
    cases l with
    | nil => simp [rtGo] at hp
    | cons c cs =>
      by_cases h1 : c = t
      · rw [rtGo_hit _ h1] at hp; injection hp with hp; subst hp; simp
      · by_cases h2 : c = 92
        · cases cs with
          | nil => rw [rtGo_esc0 h1 h2] at hp; cases hp
          | cons d ds =>
            rw [rtGo_esc _ h1 h2, Option.map_eq_some_iff] at hp
            obtain ⟨q, hq, rfl⟩ := hp
            have := ih ds (by simp at hl; omega) q hq
            simp; omega
        · rw [rtGo_plain _ h1 h2, Option.map_eq_some_iff] at hp
          obtain ⟨q, hq, rfl⟩ := hp
          have := ih cs (by simp at hl; omega) q hq
          simp; omega
theorem lg_rtC (t : UInt8) (bs : List UInt8) (a : Int) (h : bs.length ≤ 1048576) : LgB (rtC t bs a) := by
  unfold rtC rtOf LgB
  split
  · rename_i p hp
    split at hp
    · have := rtGo_len t _ _ (Nat.le_refl _) p hp
      simp only [List.length_drop] at this; omega
    · cases hp
  · simp
/-- From index i on, with the content acc read since index a. -/
def RtRel (t : UInt8) (bs : List UInt8) (a i : Nat) (acc : List UInt8) : Prop :=
  a ≤ i ∧ i ≤ bs.length ∧ acc.length + a ≤ i ∧ rtGo t (bs.drop a) = (rtGo t (bs.drop i)).map fun p => (acc ++ p.1, p.2 + (i - a))
theorem RtRel.start {t : UInt8} {bs : List UInt8} {a : Nat} (h : a ≤ bs.length) : RtRel t bs a a [] := by
  refine ⟨Nat.le_refl _, h, by simp, ?_⟩
  cases rtGo t (bs.drop a) <;> simp
theorem RtRel.plain {t : UInt8} {bs : List UInt8} {a i : Nat} {acc : List UInt8} (h : RtRel t bs a i acc) (hi : i < bs.length) (h1 : ¬ bs[i] = t) (h2 : ¬ bs[i] = 92) : RtRel t bs a (i + 1) (acc ++ [bs[i]]) := by
  obtain ⟨g1, g2, g3, g4⟩ := h
  refine ⟨by omega, by omega, by simp; omega, ?_⟩
  rw [g4, List.drop_eq_getElem_cons hi, rtGo_plain _ h1 h2]
  cases rtGo t (bs.drop (i + 1)) with
  | none => rfl
  | some p => simp; omega
theorem RtRel.esc {t : UInt8} {bs : List UInt8} {a i : Nat} {acc : List UInt8} (h : RtRel t bs a i acc) (hi : i < bs.length) (h1 : ¬ bs[i] = t) (h2 : bs[i] = 92) (hi' : i + 1 < bs.length) : RtRel t bs a (i + 2) (acc ++ [bs[i + 1]]) := by
  obtain ⟨g1, g2, g3, g4⟩ := h
  refine ⟨by omega, by omega, by simp; omega, ?_⟩
  rw [g4, List.drop_eq_getElem_cons hi, List.drop_eq_getElem_cons hi', rtGo_esc _ h1 h2]
  cases hr : rtGo t (bs.drop (i + 2)) with
  | none => simp [hr]
  | some p => simp [hr]; omega
theorem RtRel.hit {t : UInt8} {bs : List UInt8} {a i : Nat} {acc : List UInt8} (h : RtRel t bs a i acc) (hi : i < bs.length) (h1 : bs[i] = t) :
    rtC t bs a = acc ∧ rtE t bs a = (i : Int) + 1 ∧ rtB t bs a = true := by
  obtain ⟨g1, g2, g3, g4⟩ := h
  have e : rtOf t bs a = some (acc, 1 + (i - a)) := by
    rw [rtOf, if_pos (by omega), Int.toNat_natCast, g4, List.drop_eq_getElem_cons hi, rtGo_hit _ h1]; simp
  refine ⟨by rw [rtC, e], ?_, by rw [rtB, e]; rfl⟩
  rw [rtE, e]; simp; omega
theorem RtRel.miss {t : UInt8} {bs : List UInt8} {a i : Nat} {acc : List UInt8} (h : RtRel t bs a i acc) (hm : i = bs.length ∨ ∃ hi : i < bs.length, ¬ bs[i] = t ∧ bs[i] = 92 ∧ i + 1 = bs.length) :
    rtC t bs a = [] ∧ rtE t bs a = (a : Int) ∧ rtB t bs a = false := by
  obtain ⟨g1, g2, g3, g4⟩ := h
  have e0 : rtGo t (bs.drop i) = none := by
    rcases hm with rfl | ⟨hi, h1, h2, h3⟩
    · rw [List.drop_eq_nil_of_le (Nat.le_refl _)]; rfl
    · rw [List.drop_eq_getElem_cons hi, List.drop_eq_nil_of_le (by omega : bs.length ≤ i + 1), rtGo_esc0 h1 h2]
  have e : rtOf t bs a = none := by rw [rtOf, if_pos (by omega), Int.toNat_natCast, g4, e0]; rfl
  exact ⟨by rw [rtC, e], by rw [rtE, e], by rw [rtB, e]; rfl⟩
theorem rt_out {t : UInt8} {bs : List UInt8} {a : Int} (h : ¬ (0 ≤ a ∧ a ≤ bs.length)) : rtC t bs a = [] ∧ rtE t bs a = a ∧ rtB t bs a = false := by
  have e : rtOf t bs a = none := if_neg h
  exact ⟨by rw [rtC, e], by rw [rtE, e], by rw [rtB, e]; rfl⟩

set_option maxHeartbeats 1000000 in
theorem impl_rt (w : World) (A : Option Addr) (n c : Nat) (bs : List UInt8) (hr : RdB w A n bs) (hb : n ≤ 1048576) (a : Nat) (ha : a ≤ n) (t : UInt8) :
    Calls Try.prog 23 #[.slice A n c, .int .i64 a, u8v t] w fun e w' => ∃ v', e = .returned (.tuple #[v', .int .i64 (rtE t bs a), .bool (rtB t bs a)]) ∧ OkB w' w.heap.size w'.heap.size v' (rtC t bs a) ∧ Below w.heap.size w w' := by
  have hlen := hr.len
  have d1 : decide ((a : Int) < 0) = false := by simp
  have d2 : decide (n < a) = false := by simp; omega
  go_enter Try.func23, Try.ntmps23
  go_wp2
  go_loopg [9, 10] (n + 1 - a) (fun left v iv wr => ∃ i : Nat, i + left = n + 1 ∧ iv = .int .i64 i ∧ ∃ A' m c' acc, v = .slice A' m c' ∧ OwnB wr w.heap.size (.slice A' m c') m acc ∧ Below w.heap.size w wr ∧ RtRel t bs a i acc)
  case atStart => exact ⟨a, by omega, rfl, _, _, _, [], rfl, World.ownsRow_made w #[] 0 (Nat.le_refl _) (Nat.zero_le _) rfl, (Below.refl _ _).alloc (Nat.le_refl _) _, RtRel.start (by omega)⟩
  case round =>
    obtain ⟨i, hi, rfl, A', m, c', acc, rfl, hown, hbel, hrt⟩ := hrel
    have hm : m ≤ 2097152 := by have h1 := hown.len; have h2 := hrt.2.2.1; have h3 := hrt.2.1; omega
    have hin : i ≤ n := by have := hrt.2.1; omega
    have HRT := Lib.hid hrt; clear hrt
    have hsz := hbel.size
    have HB := Lib.hid hbel; clear hbel
    by_cases hlt : i < n
    · obtain ⟨b, o, hl, rfl, hc0⟩ := hr.at_ hlt
      have hc1 : wr.cell? ⟨b, o + i, none⟩ = some (u8v bs[i]) := below_cell HB.out _ _ hc0
      by_cases h1 : bs[i] = t
      · have HH := Lib.hid (HRT.out.hit hl h1)
        have e1 : ((bs[i].toNat : Int) == (t.toNat : Int)) = true := by rw [h1]; simp
        have HO := Lib.hid hown
        clear hc0 hr hown h1
        go_wp2
        go_ret3
        exact ⟨_, ret_t3 rfl (int_eq HH.out.2.1.symm) (bool_eq HH.out.2.2.symm), by rw [HH.out.1]; exact OkB.of HO.out, HB.out⟩
      · have e1 : ((bs[i].toNat : Int) == (t.toNat : Int)) = false := by simp only [beq_eq_false_iff_ne, ne_eq, u8_eq]; exact h1
        by_cases h2 : bs[i] = 92
        · have e2 : ((bs[i].toNat : Int) == 92) = true := by rw [h2]; rfl
          by_cases h3 : i + 1 = n
          · have HM := Lib.hid (HRT.out.miss (.inr ⟨hl, h1, h2, by omega⟩))
            have e3 : ((i : Int) + 1 == (n : Int)) = true := by simp; omega
            clear hc0 hr hown h1 h2 h3
            go_wp2
            go_ret3
            exact ⟨_, ret_t3 rfl (int_eq HM.out.2.1.symm) (bool_eq HM.out.2.2.symm), by rw [HM.out.1]; simpa using OkB.wider (okB_empty wr _ rfl) hsz (Nat.le_refl _), HB.out.alloc hsz _⟩
          · obtain ⟨b', o', hl', e', hc0'⟩ := hr.at_ (show i + 1 < n by omega)
            injection e' with e'; injection e' with eb eo; subst eb; subst eo
            have hc2 : wr.cell? ⟨b, o + (i + 1), none⟩ = some (u8v bs[i + 1]) := below_cell HB.out _ _ hc0'
            have HN := Lib.hid (HRT.out.esc hl h1 h2 hl')
            have e3 : ((i : Int) + 1 == (n : Int)) = false := by simp; omega
            clear hc0 hc0' hr h1 h2 h3
            go_wp2_with (at_builtin; refine wpList_appL rfl _ _ rfl elB w.heap.size A' m c' _ rfl hown 1 [u8v bs[i + 1]] rfl rfl (by simp [Value.oneCell']) (by unfold maxLen; omega) (by omega) _ _ HB.out (Nat.le_refl _) hsz ?_; intro A1 c1 w1 ap1 HB1 hz1; clear hown)
            go_roundg (gk - 2)
            case measure => omega
            case rel => exact ⟨i + 2, by omega, by go_num, _, _, _, _, rfl, OwnB.of ap1.own (by simp), HB1.out, HN.out⟩
        · have e2 : ((bs[i].toNat : Int) == 92) = false := by
            have h := u8_eq bs[i] 92
            simp only [beq_eq_false_iff_ne, ne_eq]
            exact fun h' => h2 (h.1 h')
          have HN := Lib.hid (HRT.out.plain hl h1 h2)
          clear hc0 hr h1 h2
          go_wp2_with (at_builtin; refine wpList_appL rfl _ _ rfl elB w.heap.size A' m c' _ rfl hown 1 [u8v bs[i]] rfl rfl (by simp [Value.oneCell']) (by unfold maxLen; omega) (by omega) _ _ HB.out (Nat.le_refl _) hsz ?_; intro A1 c1 w1 ap1 HB1 hz1; clear hown)
          go_roundg (gk - 1)
          case measure => omega
          case rel => exact ⟨i + 1, by omega, by go_num, _, _, _, _, rfl, OwnB.of ap1.own (by simp), HB1.out, HN.out⟩
    · have HM := Lib.hid (HRT.out.miss (.inl (by omega)))
      clear hr hown
      go_wp2
      go_ret3
      exact ⟨_, ret_t3 rfl (int_eq HM.out.2.1.symm) (bool_eq HM.out.2.2.symm), by rw [HM.out.1]; simpa using OkB.wider (okB_empty wr _ rfl) hsz (Nat.le_refl _), HB.out.alloc hsz _⟩
theorem impl_ReadTerminated (w : World) (v : Value) (bs : List UInt8) (h : RawB w v bs) (hb : bs.length ≤ 1048576) (a : Int) (ha : I64 a) (t : UInt8) :
    Calls Try.prog 23 #[v, .int .i64 a, u8v t] w fun e w' => ∃ v', e = .returned (.tuple #[v', .int .i64 (rtE t bs a), .bool (rtB t bs a)]) ∧ OkB w' w.heap.size w'.heap.size v' (rtC t bs a) ∧ Below w.heap.size w w' := by
  obtain ⟨A, n, c, rfl, hr, hc⟩ := h
  have hlen := hr.len
  by_cases h : 0 ≤ a ∧ a ≤ n
  · obtain ⟨k, rfl⟩ := Int.eq_ofNat_of_zero_le h.1
    exact impl_rt w A n c bs hr (by omega) k (by omega) t
  · have HO := Lib.hid (rt_out (t := t) (bs := bs) (a := a) (by omega))
    by_cases h0 : a < 0
    all_goals
      go_enter Try.func23, Try.ntmps23
      go_wp2
      go_ret3
      exact ⟨_, ret_t3 rfl (int_eq HO.out.2.1.symm) (bool_eq HO.out.2.2.symm), by rw [HO.out.1]; simpa using okB_empty w _ rfl, (Below.refl _ _).alloc (Nat.le_refl _) _⟩
set_option maxHeartbeats 1000000 in
theorem spec_rt (w : World) (A : Option Addr) (n c : Nat) (bs : List UInt8) (hr : RdB w A n bs) (hb : n ≤ 1048576) (a : Nat) (ha : a ≤ n) (t : UInt8) :
    Calls Try.prog 22 #[.slice A n c, .int .i64 a, u8v t] w fun e w' => ∃ v', e = .returned (.tuple #[v', .int .i64 (rtE t bs a), .bool (rtB t bs a)]) ∧ OkB w' w.heap.size w'.heap.size v' (rtC t bs a) ∧ Below w.heap.size w w' := by
  have hlen := hr.len
  have HI : Hid (inR (a : Int) 0 (n : Int) = true) := Lib.hid (inR_t (by omega))
  go_enter Try.func22, Try.ntmps22
  go_wp2
  go_loopg [9, 10] (n + 1 - a) (fun left v iv wr => ∃ i : Nat, i + left = n + 1 ∧ iv = .int .i64 i ∧ ∃ A' m c' acc, v = .slice A' m c' ∧ OwnB wr w.heap.size (.slice A' m c') m acc ∧ Below w.heap.size w wr ∧ RtRel t bs a i acc)
  case atStart => exact ⟨a, by omega, rfl, _, _, _, [], rfl, World.ownsRow_made w #[] 0 (Nat.le_refl _) (Nat.zero_le _) rfl, (Below.refl _ _).alloc (Nat.le_refl _) _, RtRel.start (by omega)⟩
  case round =>
    obtain ⟨i, hi, rfl, A', m, c', acc, rfl, hown, hbel, hrt⟩ := hrel
    have hm : m ≤ 2097152 := by have h1 := hown.len; have h2 := hrt.2.2.1; have h3 := hrt.2.1; omega
    have hin : i ≤ n := by have := hrt.2.1; omega
    have HRT := Lib.hid hrt; clear hrt
    have hsz := hbel.size
    have HB := Lib.hid hbel; clear hbel
    by_cases hlt : i < n
    · obtain ⟨b, o, hl, rfl, hc0⟩ := hr.at_ hlt
      have hc1 : wr.cell? ⟨b, o + i, none⟩ = some (u8v bs[i]) := below_cell HB.out _ _ hc0
      by_cases h1 : bs[i] = t
      · have HH := Lib.hid (HRT.out.hit hl h1)
        have e1 : ((bs[i].toNat : Int) == (t.toNat : Int)) = true := by rw [h1]; simp
        have HO := Lib.hid hown
        clear hc0 hr hown h1
        go_wp2_with (go_at_call 30; refine (l1In_any _ _ _ _).mono ?_; rintro e w' ⟨rfl, rfl⟩; rw [HI.out])
        go_ret3
        exact ⟨_, ret_t3 rfl (int_eq HH.out.2.1.symm) (bool_eq HH.out.2.2.symm), by rw [HH.out.1]; exact OkB.of HO.out, HB.out⟩
      · have e1 : ((bs[i].toNat : Int) == (t.toNat : Int)) = false := by simp only [beq_eq_false_iff_ne, ne_eq, u8_eq]; exact h1
        by_cases h2 : bs[i] = 92
        · have e2 : ((bs[i].toNat : Int) == 92) = true := by rw [h2]; rfl
          by_cases h3 : i + 1 = n
          · have HM := Lib.hid (HRT.out.miss (.inr ⟨hl, h1, h2, by omega⟩))
            have e3 : ((i : Int) + 1 == (n : Int)) = true := by simp; omega
            clear hc0 hr hown h1 h2 h3
            go_wp2_with (go_at_call 30; refine (l1In_any _ _ _ _).mono ?_; rintro e w' ⟨rfl, rfl⟩; rw [HI.out])
            go_ret3
            exact ⟨_, ret_t3 rfl (int_eq HM.out.2.1.symm) (bool_eq HM.out.2.2.symm), by rw [HM.out.1]; simpa using OkB.wider (okB_empty wr _ rfl) hsz (Nat.le_refl _), HB.out.alloc hsz _⟩
          · obtain ⟨b', o', hl', e', hc0'⟩ := hr.at_ (show i + 1 < n by omega)
            injection e' with e'; injection e' with eb eo; subst eb; subst eo
            have hc2 : wr.cell? ⟨b, o + (i + 1), none⟩ = some (u8v bs[i + 1]) := below_cell HB.out _ _ hc0'
            have HN := Lib.hid (HRT.out.esc hl h1 h2 hl')
            have e3 : ((i : Int) + 1 == (n : Int)) = false := by simp; omega
            clear hc0 hc0' hr h1 h2 h3
            go_wp2_with (first | (go_at_call 30; refine (l1In_any _ _ _ _).mono ?_; rintro e w' ⟨rfl, rfl⟩; rw [HI.out]) | (at_builtin; refine wpList_appL rfl _ _ rfl elB w.heap.size A' m c' _ rfl hown 1 [u8v bs[i + 1]] rfl rfl (by simp [Value.oneCell']) (by unfold maxLen; omega) (by omega) _ _ HB.out (Nat.le_refl _) hsz ?_; intro A1 c1 w1 ap1 HB1 hz1; clear hown))
            go_roundg (gk - 2)
            case measure => omega
            case rel => exact ⟨i + 2, by omega, by go_num, _, _, _, _, rfl, OwnB.of ap1.own (by simp), HB1.out, HN.out⟩
        · have e2 : ((bs[i].toNat : Int) == 92) = false := by
            have h := u8_eq bs[i] 92
            simp only [beq_eq_false_iff_ne, ne_eq]
            exact fun h' => h2 (h.1 h')
          have HN := Lib.hid (HRT.out.plain hl h1 h2)
          clear hc0 hr h1 h2
          go_wp2_with (first | (go_at_call 30; refine (l1In_any _ _ _ _).mono ?_; rintro e w' ⟨rfl, rfl⟩; rw [HI.out]) | (at_builtin; refine wpList_appL rfl _ _ rfl elB w.heap.size A' m c' _ rfl hown 1 [u8v bs[i]] rfl rfl (by simp [Value.oneCell']) (by unfold maxLen; omega) (by omega) _ _ HB.out (Nat.le_refl _) hsz ?_; intro A1 c1 w1 ap1 HB1 hz1; clear hown))
          go_roundg (gk - 1)
          case measure => omega
          case rel => exact ⟨i + 1, by omega, by go_num, _, _, _, _, rfl, OwnB.of ap1.own (by simp), HB1.out, HN.out⟩
    · have HM := Lib.hid (HRT.out.miss (.inl (by omega)))
      clear hr hown
      go_wp2_with (go_at_call 30; refine (l1In_any _ _ _ _).mono ?_; rintro e w' ⟨rfl, rfl⟩; rw [HI.out])
      go_ret3
      exact ⟨_, ret_t3 rfl (int_eq HM.out.2.1.symm) (bool_eq HM.out.2.2.symm), by rw [HM.out.1]; simpa using OkB.wider (okB_empty wr _ rfl) hsz (Nat.le_refl _), HB.out.alloc hsz _⟩
theorem spec_ReadTerminated (w : World) (v : Value) (bs : List UInt8) (h : RawB w v bs) (hb : bs.length ≤ 1048576) (a : Int) (ha : I64 a) (t : UInt8) :
    Calls Try.prog 22 #[v, .int .i64 a, u8v t] w fun e w' => ∃ v', e = .returned (.tuple #[v', .int .i64 (rtE t bs a), .bool (rtB t bs a)]) ∧ OkB w' w.heap.size w'.heap.size v' (rtC t bs a) ∧ Below w.heap.size w w' := by
  obtain ⟨A, n, c, rfl, hr, hc⟩ := h
  have hlen := hr.len
  by_cases h : 0 ≤ a ∧ a ≤ n
  · obtain ⟨k, rfl⟩ := Int.eq_ofNat_of_zero_le h.1
    exact spec_rt w A n c bs hr (by omega) k (by omega) t
  · have HO := Lib.hid (rt_out (t := t) (bs := bs) (a := a) (by omega))
    have HI : Hid (inR a 0 (n : Int) = false) := Lib.hid (inR_f (by omega))
    by_cases h0 : a < 0
    all_goals
      go_enter Try.func22, Try.ntmps22
      go_wp2
      refine wp_loop_once ?_
      go_wp2_with (go_at_call 30; refine (l1In_any _ _ _ _).mono ?_; rintro e w' ⟨rfl, rfl⟩; rw [HI.out])
      go_ret3
      exact ⟨_, ret_t3 rfl (int_eq HO.out.2.1.symm) (bool_eq HO.out.2.2.symm), by rw [HO.out.1]; simpa using OkB.wider (okB_empty (w.alloc _) _ rfl) (by simp) (Nat.le_refl _), ((Below.refl _ _).alloc (Nat.le_refl _) _).alloc (by simp) _⟩
end Go.Proofs.Ytafmancgcnlbhaa
