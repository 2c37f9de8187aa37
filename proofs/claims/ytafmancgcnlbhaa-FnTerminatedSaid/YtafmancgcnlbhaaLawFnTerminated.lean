/- The law FnTerminated holds: for every input the Go function returns true, and each argument reads as before. No condition. -/
import Derived.Test.YtafmancgcnlbhaaRows
import Derived.Test.YtafmancgcnlbhaaKit
import Derived.Test.YtafmancgcnlbhaaEscAll
import Derived.Test.YtafmancgcnlbhaaTerm
import Derived.Test.YtafmancgcnlbhaaDrawT
import Derived.WalkKit
import Derived.ProofKit
import Derived.OpenShut
import Derived.ShutString
import Derived.ChangeOld
import Derived.Below
namespace Go.Proofs.Ytafmancgcnlbhaa.fnTerminated
open Go.ChangeShapes Go.WideShapes Go.ChangeAt Go.RowKit
open Go.ChangeMaps (open_string shut_string)
theorem own : ownKnob Try.prog.godebug = none := by kernel_rfl
theorem laidOut : laidOutB Try.prog = true := by kernel_rfl
theorem rt_escB {t : UInt8} (ht : t ≠ 92) (bs : List UInt8) : rtGo t (escB t bs ++ [t]) = some (bs, (escB t bs).length + 1) ∧ rtGo t (escB t bs) = none := by
  induction bs with
  | nil => exact ⟨rtGo_hit [] rfl, rfl⟩
  | cons c cs ih =>
    have h92 : ¬ (92 : UInt8) = t := fun h => ht h.symm
    by_cases h : c = t ∨ c = 92
    · have e : escB t (c :: cs) = 92 :: c :: escB t cs := by simp [escB, h]
      rw [e]
      refine ⟨?_, by rw [rtGo_esc _ h92 rfl, ih.2]; rfl⟩
      rw [List.cons_append, List.cons_append, rtGo_esc _ h92 rfl, ih.1]; simp
    · have e : escB t (c :: cs) = c :: escB t cs := by simp [escB, h]
      have h1 : ¬ c = t := fun hh => h (.inl hh)
      have h2 : ¬ c = 92 := fun hh => h (.inr hh)
      rw [e]
      refine ⟨?_, by rw [rtGo_plain _ h1 h2, ih.2]; rfl⟩
      rw [List.cons_append, rtGo_plain _ h1 h2, ih.1]; simp
theorem rt_escA {t : UInt8} (ht : t ≠ 92) (bs : List UInt8) : rtGo t (escA bs ++ [t]) = some (bs, 2 * bs.length + 1) := by
  induction bs with
  | nil => exact rtGo_hit [] rfl
  | cons c cs ih =>
    have h92 : ¬ (92 : UInt8) = t := fun h => ht h.symm
    have e : escA (c :: cs) = 92 :: c :: escA cs := by simp [escA]
    rw [e, List.cons_append, List.cons_append, rtGo_esc _ h92 rfl, ih]; simp; omega
theorem rt_some {t : UInt8} {bs l : List UInt8} {k : Nat} (h : rtGo t bs = some (l, k)) : rtC t bs 0 = l ∧ rtE t bs 0 = (k : Int) ∧ rtB t bs 0 = true := by
  have e : rtOf t bs 0 = some (l, k) := by rw [rtOf, if_pos (by omega)]; exact h
  exact ⟨by rw [rtC, e], by rw [rtE, e]; simp, by rw [rtB, e]; rfl⟩
theorem rt_none {t : UInt8} {bs : List UInt8} (h : rtGo t bs = none) : rtB t bs 0 = false := by
  have e : rtOf t bs 0 = none := by rw [rtOf, if_pos (by omega)]; exact h
  rw [rtB, e]; rfl
theorem bool_ret {a b : Bool} (h : a = b) : Ending.returned (.bool a) = .returned (.bool b) := by rw [h]
set_option maxHeartbeats 400000 in
theorem big_any (w : World) (A : Option Addr) (n c : Nat) : Calls Try.prog 26 #[.slice A n c] w fun e w' => e = .returned (.bool (decide (1048576 < n))) ∧ w = w' := by
  go_enter Try.func26, Try.ntmps26
  go_wp2
  go_ret
  exact ⟨bool_ret (by rw [Bool.eq_iff_iff]; simp; omega), rfl⟩
theorem max0_any (w : World) (n : Int) (h : 0 ≤ n) : Calls Try.prog 28 #[.int .i64 0, .int .i64 n] w fun e w' => e = .returned (.int .i64 n) ∧ w = w' := by
  by_cases h0 : 0 < n
  · go_enter Try.func28, Try.ntmps28
    go_wp2
    go_ret
    exact ⟨rfl, rfl⟩
  · obtain rfl : n = 0 := by omega
    go_enter Try.func28, Try.ntmps28
    go_wp2
    go_ret
    exact ⟨rfl, rfl⟩
set_option maxHeartbeats 400000 in
theorem sameBytes_same (A B : Option Addr) (n m c d : Nat) (bs : List UInt8) (w : World) (ha : RdB w A n bs) (hb : RdB w B m bs) (hn : n ≤ 4194304) :
    Calls Try.prog 29 #[.slice A n c, .slice B m d] w fun e w' => e = .returned (.bool true) ∧ Quiet w w' := by
  obtain rfl : n = m := ha.len.symm.trans hb.len
  go_enter Try.func29, Try.ntmps29
  go_wp2
  go_loopg [5] n (fun left i wr => ∃ k q : Nat, k + left = n ∧ i = .int .i64 k ∧ wr = w.drewN q)
  case atStart => exact ⟨0, 0, by omega, rfl, rfl⟩
  case round =>
    obtain ⟨k, q, hk, rfl, rfl⟩ := hrel
    by_cases hlt : k < n
    · obtain ⟨b, o, hl, rfl, hc0⟩ := ha.at_ hlt
      obtain ⟨b', o', hl', rfl, hc1⟩ := hb.at_ hlt
      have hb1 : (0 : Int) ≤ (k : Int) := by omega
      have hb2 : (k : Int) < (n : Int) := by omega
      clear ha hb
      go_wp2
      go_quiet (fail)
      go_wp2
      go_roundg (gk - 1)
      case measure => omega
      case rel => exact ⟨k + 1, _, by omega, by go_num, rfl⟩
    · go_wp2
      go_ret
      exact ⟨rfl, q, rfl⟩
theorem Rd.take {w : World} {n k : Nat} {A : Option Addr} {xs : List Value} (h : Rd w 1 A n xs) (hk : k ≤ n) : Rd w 1 A k (xs.take k) := by
  refine ⟨by rw [List.length_take, h.len1]; omega, fun h0 => ?_⟩
  obtain ⟨b, o, e, hc⟩ := h.2 (by omega)
  exact ⟨b, o, e, fun j u hu => hc j u (by rw [List.getElem?_take] at hu; split at hu; exact hu; cases hu)⟩

theorem escB_z (w : World) (v : Value) (bs : List UInt8) (h : RawB w v bs) (hb : bs.length ≤ 1048576) (t : UInt8) (z : Int) (hz : z = (t.toNat : Int)) :
    Calls Try.prog 21 #[v, .int .u8 z] w fun e w' => ∃ v', e = .returned v' ∧ OkB w' w.heap.size w'.heap.size v' (escB t bs ++ [t]) ∧ Below w.heap.size w w' := by
  subst hz; exact impl_EscapeBytes w v bs h hb t
theorem escA_z (w : World) (v : Value) (bs : List UInt8) (h : RawB w v bs) (hb : bs.length ≤ 1048576) (t : UInt8) (z : Int) (hz : z = (t.toNat : Int)) :
    Calls Try.prog 16 #[v, .int .u8 z] w fun e w' => ∃ v', e = .returned v' ∧ OkB w' w.heap.size w'.heap.size v' (escA bs ++ [t]) ∧ Below w.heap.size w w' := by
  subst hz; exact impl_EscapeAll w v bs h hb t
theorem rt_z (w : World) (v : Value) (bs : List UInt8) (h : RawB w v bs) (hb : bs.length ≤ 1048576) (t : UInt8) (z : Int) (hz : z = (t.toNat : Int)) :
    Calls Try.prog 23 #[v, .int .i64 0, .int .u8 z] w fun e w' => ∃ A m c, e = .returned (.tuple #[.slice A m c, .int .i64 (rtE t bs 0), .bool (rtB t bs 0)]) ∧ OkB w' w.heap.size w'.heap.size (.slice A m c) (rtC t bs 0) ∧ Below w.heap.size w w' := by
  subst hz
  refine (impl_ReadTerminated w v bs h hb 0 (by omega) t).mono ?_
  rintro e w' ⟨v', rfl, h1, h2⟩
  obtain ⟨A, m, c, rfl, _⟩ := h1.raw
  exact ⟨A, m, c, rfl, h1, h2⟩
theorem raw_rd {w : World} {A : Option Addr} {n c : Nat} {bs : List UInt8} (h : RawB w (.slice A n c) bs) : RdB w A n bs := by
  obtain ⟨A', n', c', e, hr, _⟩ := h
  injection e with e1 e2 e3; subst e1; subst e2; exact hr
set_option maxRecDepth 20000 in
set_option maxHeartbeats 4000000 in
theorem walk (w : World) (A : Option Addr) (n c : Nat) (code : List UInt8) (hr : RawB w (.slice A n c) code) :
    Calls Try.prog 9 #[.slice A n c] w fun e w' => e = .returned (.bool true) ∧ Below w.heap.size w w' := by
  obtain ⟨A', n', c', e, hr, _⟩ := hr
  injection e with e1 e2 e3; subst e1; subst e2; subst e3
  by_cases hbig : 1048576 < n
  · go_enter Try.func9, Try.ntmps9
    go_wp2_with fail
    refine (big_any w A n c).mono ?_
    rintro e w' ⟨rfl, rfl⟩
    go_wp2
    go_ret
    exact ⟨rfl, Below.refl _ _⟩
  · have hn : n ≤ 1048576 := by omega
    have HR := Lib.hid hr; clear hr
    go_enter Try.func9, Try.ntmps9
    go_wp2_with fail
    refine (big_any w A n c).mono ?_
    rintro e w' ⟨rfl, rfl⟩
    go_wp2_with fail
    refine (drawEscapeBytes w A n c code HR.out hn).mono ?_
    rintro e w1 ⟨v', bs, t0, rfl, h1, h2, b1⟩
    obtain ⟨Ab, mb, cb, rfl, hRb, hmc, hcm⟩ := h1.raw
    have hlb := hRb.len
    have H1 := Lib.hid h1; have B1 := Lib.hid b1; have HRb := Lib.hid hRb; clear h1 b1 hRb
    have e92 : (t0 = 92 ∧ ((t0.toNat : Int) == 92) = true) ∨ (t0 ≠ 92 ∧ ((t0.toNat : Int) == 92) = false) := by
      by_cases h : t0 = 92
      · subst h; exact .inl ⟨rfl, rfl⟩
      · refine .inr ⟨h, ?_⟩
        have h' := u8_eq t0 92
        simp only [beq_eq_false_iff_ne, ne_eq]
        exact fun hh => h (h'.1 hh)
    obtain ⟨t, ht, hT⟩ : ∃ t : UInt8, t ≠ 92 ∧ ((t0 = 92 ∧ t = 10 ∧ ((t0.toNat : Int) == 92) = true) ∨ (t = t0 ∧ ((t0.toNat : Int) == 92) = false)) := by
      rcases e92 with ⟨h, h'⟩ | ⟨h, h'⟩
      · exact ⟨10, by decide, .inl ⟨h, rfl, h'⟩⟩
      · exact ⟨t0, h, .inr ⟨rfl, h'⟩⟩
    have PA := Lib.hid (rt_some (rt_escB ht bs).1); have PB := Lib.hid (rt_some (rt_escA ht bs)); have PC := Lib.hid (rt_none (rt_escB ht bs).2)
    have hL := escB_len t bs
    have HT := Lib.hid ht; clear ht e92
    rcases hT with ⟨hT1, hT2, hT3⟩ | ⟨hT2, hT3⟩
    all_goals
      have HT2 := Lib.hid hT2; clear hT2
      try clear hT1
      go_wp2_with fail
      refine (escB_z w1 _ bs H1.out.raw (by omega) t _ (by simp [HT2.out])).mono ?_
      rintro e w2 ⟨v2, rfl, h2, b2⟩
      have s2 := b2.size
      have B2 := Lib.hid (B1.out.trans (b2.mono B1.out.size)); have H2 := Lib.hid h2; have H12 := Lib.hid ((OkB.stays _ _ _ _).below b2 (Nat.le_refl _) H1.out); clear h2 b2
      go_wp2_with fail
      refine (rt_z w2 _ _ H2.out.raw (by simp; omega) t _ (by simp [HT2.out])).mono ?_
      rintro e w3 ⟨A3, m3, c3, rfl, h3, b3⟩
      have s3 := b3.size
      rw [PA.out.1] at h3
      have B3 := Lib.hid (B2.out.trans (b3.mono B2.out.size)); have H3 := Lib.hid h3; have H13 := Lib.hid ((OkB.stays _ _ _ _).below b3 (by omega) H12.out); clear h3 b3
      rw [PA.out.2.1, PA.out.2.2]
      go_wp2_with fail
      refine (escA_z w3 _ bs H13.out.raw (by omega) t _ (by simp [HT2.out])).mono ?_
      rintro e w4 ⟨v4, rfl, h4, b4⟩
      have s4 := b4.size
      have B4 := Lib.hid (B3.out.trans (b4.mono B3.out.size)); have H4 := Lib.hid h4; have H14 := Lib.hid ((OkB.stays _ _ _ _).below b4 (by omega) H13.out); have H34 := Lib.hid ((OkB.stays _ _ _ _).below b4 (by omega) H3.out); clear h4 b4
      go_wp2_with fail
      refine (rt_z w4 _ _ H4.out.raw (by simp [escA_len]; omega) t _ (by simp [HT2.out])).mono ?_
      rintro e w5 ⟨A5, m5, c5, rfl, h5, b5⟩
      have s5 := b5.size
      rw [PB.out.1] at h5
      have B5 := Lib.hid (B4.out.trans (b5.mono B4.out.size)); have H5 := Lib.hid h5; have H15 := Lib.hid ((OkB.stays _ _ _ _).below b5 (by omega) H14.out); have H35 := Lib.hid ((OkB.stays _ _ _ _).below b5 (by omega) H34.out); clear h5 b5
      rw [PB.out.2.1, PB.out.2.2]
      go_wp2_with fail
      refine (escB_z w5 _ bs H15.out.raw (by omega) t _ (by simp [HT2.out])).mono ?_
      rintro e w6 ⟨v6, rfl, h6, b6⟩
      have s6 := b6.size
      have B6 := Lib.hid (B5.out.trans (b6.mono B5.out.size)); have H16 := Lib.hid ((OkB.stays _ _ _ _).below b6 (by omega) H15.out); have H36 := Lib.hid ((OkB.stays _ _ _ _).below b6 (by omega) H35.out); have H56 := Lib.hid ((OkB.stays _ _ _ _).below b6 (by omega) H5.out)
      obtain ⟨A6, m6, c6, rfl, hR6, hmc6, hcm6⟩ := h6.raw
      have hl6 : m6 = (escB t bs).length + 1 := by have := hR6.len; simp at this; omega
      have HR6 := Lib.hid hR6; clear h6 b6 hR6
      have HL6 := Lib.hid hl6
      have hm6 : m6 ≤ 17 := by omega
      have hm6' : 1 ≤ m6 := by omega
      clear hl6
      go_wp2_with fail
      refine (max0_any w6 _ (by omega)).mono ?_
      rintro e w7 ⟨rfl, rfl⟩
      have i1 : (0 : Int) ≤ (m6 : Int) - 1 := by omega
      have i2 : (m6 : Int) - 1 ≤ (c6 : Int) := by omega
      have i3 : ((m6 : Int) - 1).toNat = m6 - 1 := by omega
      have hle : (m6 : Int) ≤ 2 * (mb : Int) + 1 := by have := HL6.out; omega
      have heq : (((escB t bs).length : Int) + 1 == (m6 : Int)) = true := by have := HL6.out; simp; omega
      have HE := Lib.hid heq; clear heq
      have hR7 : RawB w6 (.slice A6 (m6 - 1) c6) (escB t bs) := by
        have h := Rd.take (k := m6 - 1) HR6.out (by omega)
        rw [← List.map_take, List.take_append_of_le_length (by have := HL6.out; omega), List.take_of_length_le (by have := HL6.out; omega)] at h
        exact ⟨_, _, _, rfl, h, by omega, hcm6⟩
      have HR7 := Lib.hid hR7; clear hR7
      go_wp2_with fail
      refine (rt_z w6 _ _ HR7.out (by omega) t _ (by simp [HT2.out])).mono ?_
      rintro e w8 ⟨A8, m8, c8, rfl, h8, b8⟩
      have s8 := b8.size
      have B8 := Lib.hid (B6.out.trans (b8.mono B6.out.size)); have H18 := Lib.hid ((OkB.stays _ _ _ _).below b8 (by omega) H16.out); have H38 := Lib.hid ((OkB.stays _ _ _ _).below b8 (by omega) H36.out); have H58 := Lib.hid ((OkB.stays _ _ _ _).below b8 (by omega) H56.out); clear h8 b8
      rw [PC.out]
      go_wp2_with fail
      refine (sameBytes_same _ _ _ _ _ _ bs w8 (raw_rd H38.out.raw) (raw_rd H18.out.raw) (by have := (raw_rd H38.out.raw).len; omega)).mono ?_
      rintro e w9 ⟨rfl, q9⟩
      have b9 := q9.below w8.heap.size
      have s9 := b9.size
      have B9 := Lib.hid (B8.out.trans (b9.mono B8.out.size)); have H19 := Lib.hid ((OkB.stays _ _ _ _).below b9 (by omega) H18.out); have H59 := Lib.hid ((OkB.stays _ _ _ _).below b9 (by omega) H58.out); clear b9 q9
      go_wp2_with fail
      refine (sameBytes_same _ _ _ _ _ _ bs w9 (raw_rd H59.out.raw) (raw_rd H19.out.raw) (by have := (raw_rd H59.out.raw).len; omega)).mono ?_
      rintro e w10 ⟨rfl, q10⟩
      have b10 := q10.below w9.heap.size
      have B10 := Lib.hid (B9.out.trans (b10.mono B9.out.size)); clear b10 q10
      have heq := HE.out
      go_wp2_with fail
      go_ret
      exact ⟨rfl, B10.out⟩
set_option maxRecDepth 100000 in
theorem lifted (os : Os) (started : os.Started) (H : Type) (enc : TypeId × Value → H) :
    ReturnsInHanded {} Try.checked os 9 .any (Rows.fnTerminatedSpec.pre6 enc Try.prog Try.f9 Rows.fnTerminatedRow.domain false) (Rows.fnTerminatedSpec.post enc Try.prog Try.f9 false true false false) := by
  refine returnsInHanded_of_change (C := Try.checked) own started (by kernel_rfl) Try.func9
    (ChangeSpec.witness6 (enc := enc) (C := Try.checked) false ⟨#[], #[.slice none 0 0], []⟩ 8 (by kernel_rfl) (by kernel_rfl) (by kernel_rfl) (by kernel_rfl)) ?_
  intro W base args ds gs before hval0 hW hcnd _
  have hval : ∀ (j : Nat) t v, Try.f9.params[j]? = some t → args[j]? = some v → Value.okWide Try.prog W .any base t v := hval0
  have hW' := hW
  obtain ⟨p, q, hA0, hV, rfl, hfz, hnd⟩ := hW
  have hA : DataW.TrodAll enc Try.prog W 0 (fun _ => true) true Try.f9.params.toList args.toList ds p := hA0
  rw [Try.params9] at hA hval
  obtain ⟨v0, vs0, d0, ds0, p0, q0, hargs, rfl, rfl, h0, r0⟩ := trodAll_cons hA
  obtain ⟨rfl, rfl, rfl⟩ := trodAll_nil r0
  obtain rfl : args = #[v0] := by cases args; simp_all
  obtain ⟨rfl, rfl⟩ := trodVars_none hV
  have k0 := h0
  have lt0 : ∀ x ∈ p0, x.block < W.heap.size := by obtain ⟨m, hm⟩ := k0; exact DataW.trod_lt m _ _ _ hm
  obtain ⟨A0, n0, c0, b0, rfl, w0⟩ := open_bytes Try.underlying27 Try.underlying5 (by kernel_rfl) (hval 0 27 v0 rfl rfl) h0
  clear hA0 hval0
  refine (walk W A0 n0 c0 b0 ⟨_, _, _, rfl, w0⟩).mono fun e W' ⟨he, bel⟩ => ?_
  subst he
  exact ⟨_, rfl, _, _, _, [], _, [], hW', trodAll_mk1 (shut_bool Try.underlying4 _), (trodAll_cons_mk (Below.trod laidOut (by kernel_rfl) (of_decide_eq_true (by kernel_rfl)) k0 bel lt0) trodAll_mk0), rfl, bel.frame _, fun h => by cases h⟩
theorem over : Rows.fnTerminatedRow.holds Try.pinned (OpenSpec.ofChange Rows.fnTerminatedSpec) :=
  OpenClaim.holds_of_wide 9 Try.f9 rfl rfl rfl rfl rfl rfl rfl ⟨rfl, rfl, rfl, rfl, rfl⟩ rfl rfl rfl rfl rfl (by kernel_rfl) Try.func9 (by kernel_rfl)
    (of_decide_eq_true (by kernel_rfl)) (by unfold Func.isWrapper; rw [if_neg (of_decide_eq_false (by kernel_rfl))]; exact ⟨rfl, rfl⟩)
    (fun os started H enc _ => lifted os started H enc)
/-- The statement. -/
theorem proved : Rows.FnTerminatedSaid := over
#print axioms proved
end Go.Proofs.Ytafmancgcnlbhaa.fnTerminated
