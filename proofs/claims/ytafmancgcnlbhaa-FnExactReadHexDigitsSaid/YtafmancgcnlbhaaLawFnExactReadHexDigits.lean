/- The law FnExactReadHexDigits holds: for every input the Go function returns true, and each argument reads as before. No condition. -/
import Derived.Test.YtafmancgcnlbhaaRows
import Derived.Test.YtafmancgcnlbhaaKit
import Derived.Test.YtafmancgcnlbhaaRh2
import Derived.WalkKit
import Derived.ProofKit
import Derived.OpenShut
import Derived.ShutString
import Derived.ChangeOld
import Derived.Below
namespace Go.Proofs.Ytafmancgcnlbhaa.fnExactReadHexDigits
open Go.ChangeShapes Go.WideShapes Go.ChangeAt Go.RowKit
open Go.ChangeMaps (open_string shut_string)
theorem own : ownKnob Try.prog.godebug = none := by kernel_rfl
theorem laidOut : laidOutB Try.prog = true := by kernel_rfl
set_option maxRecDepth 20000 in
set_option maxHeartbeats 4000000 in
theorem walk (w : World) (s : ByteArray) (hs : s.size ≤ maxLen) (a : Int) (ha : I64 a) :
    Calls Try.prog 8 #[.string s, .int .i64 a] w fun e w' => e = .returned (.bool true) ∧ Below w.heap.size w w' := by
  by_cases gs : 1048576 < s.size
  · go_enter Try.func8, Try.ntmps8
    go_wp2
    go_ret
    exact ⟨rfl, Below.refl _ _⟩
  have ms : s.size ≤ 1048576 := by omega
  clear gs
  have L0 : LgB (rhC s a) := lg_rhC s a (by omega)
  have HL0 := Lib.hid L0; clear L0
  go_enter Try.func8, Try.ntmps8
  go_wp2_with fail
  refine (spec_ReadHexDigits w s ms a ha).mono ?_
  rintro e w1 ⟨vw0, rfl, h1_0, b1⟩
  have s1 := b1.size
  have B1 := Lib.hid (b1)
  have w0_1 := Lib.hid h1_0
  clear b1 h1_0
  go_wp2_with fail
  refine (impl_ReadHexDigits w1 s ms a ha).mono ?_
  rintro e w2 ⟨vg0, rfl, h2_0, b2⟩
  have s2 := b2.size
  have B2 := Lib.hid (B1.out.trans (b2.mono (by omega)))
  have w0_2 := Lib.hid ((OkB.stays w.heap.size w1.heap.size vw0 (rhC s a)).below b2 (by omega) w0_1.out)
  have g0_2 := Lib.hid h2_0
  clear b2 h2_0
  go_wp2_with fail
  refine (B_eq w2 _ _ (rhC s a) g0_2.out.raw w0_2.out.raw HL0.out).mono ?_
  rintro e w3 ⟨rfl, b3⟩
  have s3 := b3.size
  have B3 := Lib.hid (B2.out.trans (b3.mono (by omega)))
  have w0_3 := Lib.hid ((OkB.stays w.heap.size w1.heap.size vw0 (rhC s a)).below b3 (by omega) w0_2.out)
  have g0_3 := Lib.hid ((OkB.stays w1.heap.size w2.heap.size vg0 (rhC s a)).below b3 (by omega) g0_2.out)
  clear b3
  go_wp2_with fail
  refine (B_mark w3 _ _ _ (rhC s a) 1 g0_3.out HL0.out (by omega) (by omega)).mono ?_
  rintro e w4 ⟨m0, rfl, ml0, mh0, h4, b4⟩
  have s4 := b4.size
  have B4 := Lib.hid (b4.below B3.out (by omega) (by omega))
  have w0_4 := Lib.hid ((OkB.stays w.heap.size w1.heap.size vw0 (rhC s a)).chg b4 (by omega) (by omega) w0_3.out)
  have g0_4 := Lib.hid h4
  clear b4 h4
  go_wp2_with fail
  refine (B_held w4 _ _ _ 1 m0 g0_4.out (by omega) (by omega)).mono ?_
  rintro e w5 ⟨rfl, b5⟩
  have s5 := b5.size
  have B5 := Lib.hid (B4.out.trans (b5.mono (by omega)))
  have w0_5 := Lib.hid ((OkB.stays w.heap.size w1.heap.size vw0 (rhC s a)).below b5 (by omega) w0_4.out)
  have g0_5 := Lib.hid ((MkB.stays w1.heap.size w2.heap.size vg0 1 m0).below b5 (by omega) g0_4.out)
  clear b5
  go_wp2_with fail
  refine (impl_ReadHexDigits w5 s ms a ha).mono ?_
  rintro e w6 ⟨vh0, rfl, h6_0, b6⟩
  have s6 := b6.size
  have B6 := Lib.hid (B5.out.trans (b6.mono (by omega)))
  have w0_6 := Lib.hid ((OkB.stays w.heap.size w1.heap.size vw0 (rhC s a)).below b6 (by omega) w0_5.out)
  have g0_6 := Lib.hid ((MkB.stays w1.heap.size w2.heap.size vg0 1 m0).below b6 (by omega) g0_5.out)
  have h0_6 := Lib.hid h6_0
  clear b6 h6_0
  go_wp2_with fail
  refine (B_eq w6 _ _ (rhC s a) h0_6.out.raw w0_6.out.raw HL0.out).mono ?_
  rintro e w7 ⟨rfl, b7⟩
  have s7 := b7.size
  have B7 := Lib.hid (B6.out.trans (b7.mono (by omega)))
  have w0_7 := Lib.hid ((OkB.stays w.heap.size w1.heap.size vw0 (rhC s a)).below b7 (by omega) w0_6.out)
  have g0_7 := Lib.hid ((MkB.stays w1.heap.size w2.heap.size vg0 1 m0).below b7 (by omega) g0_6.out)
  have h0_7 := Lib.hid ((OkB.stays w5.heap.size w6.heap.size vh0 (rhC s a)).below b7 (by omega) h0_6.out)
  clear b7
  go_wp2_with fail
  refine (B_held w7 _ _ _ 1 m0 g0_7.out (by omega) (by omega)).mono ?_
  rintro e w8 ⟨rfl, b8⟩
  have s8 := b8.size
  have B8 := Lib.hid (B7.out.trans (b8.mono (by omega)))
  have w0_8 := Lib.hid ((OkB.stays w.heap.size w1.heap.size vw0 (rhC s a)).below b8 (by omega) w0_7.out)
  have g0_8 := Lib.hid ((MkB.stays w1.heap.size w2.heap.size vg0 1 m0).below b8 (by omega) g0_7.out)
  have h0_8 := Lib.hid ((OkB.stays w5.heap.size w6.heap.size vh0 (rhC s a)).below b8 (by omega) h0_7.out)
  clear b8
  go_wp2_with fail
  go_ret
  exact ⟨rfl, B8.out⟩
set_option maxRecDepth 100000 in
theorem lifted (os : Os) (started : os.Started) (H : Type) (enc : TypeId × Value → H) :
    ReturnsInHanded {} Try.checked os 8 .any (Rows.fnExactReadHexDigitsSpec.pre6 enc Try.prog Try.f8 Rows.fnExactReadHexDigitsRow.domain false) (Rows.fnExactReadHexDigitsSpec.post enc Try.prog Try.f8 false true false false) := by
  refine returnsInHanded_of_change (C := Try.checked) own started (by kernel_rfl) Try.func8
    (ChangeSpec.witness6 (enc := enc) (C := Try.checked) false ⟨#[], #[.string ByteArray.empty, .int .i64 0], []⟩ 8 (by kernel_rfl) (by kernel_rfl) (by kernel_rfl) (by kernel_rfl)) ?_
  intro W base args ds gs before hval0 hW hcnd _
  have hval : ∀ (j : Nat) t v, Try.f8.params[j]? = some t → args[j]? = some v → Value.okWide Try.prog W .any base t v := hval0
  have hW' := hW
  obtain ⟨p, q, hA0, hV, rfl, hfz, hnd⟩ := hW
  have hA : DataW.TrodAll enc Try.prog W 0 (fun _ => true) true Try.f8.params.toList args.toList ds p := hA0
  rw [Try.params8] at hA hval
  obtain ⟨v0, vs0, d0, ds0, p0, q0, hargs, rfl, rfl, h0, r0⟩ := trodAll_cons hA
  obtain ⟨v1, vs1, d1, ds1, p1, q1, rfl, rfl, rfl, h1, r1⟩ := trodAll_cons r0
  obtain ⟨rfl, rfl, rfl⟩ := trodAll_nil r1
  obtain rfl : args = #[v0, v1] := by cases args; simp_all
  obtain ⟨rfl, rfl⟩ := trodVars_none hV
  have k0 := h0
  have lt0 : ∀ x ∈ p0, x.block < W.heap.size := by obtain ⟨m, hm⟩ := k0; exact DataW.trod_lt m _ _ _ hm
  obtain ⟨a0, rfl, hd0, hp0, w0⟩ := open_string Try.underlying9 (hval 0 9 v0 rfl rfl) h0
  have k1 := h1
  have lt1 : ∀ x ∈ p1, x.block < W.heap.size := by obtain ⟨m, hm⟩ := k1; exact DataW.trod_lt m _ _ _ hm
  obtain ⟨a1, rfl, hd1, hp1, w1⟩ := open_int Try.underlying3 (hval 1 3 v1 rfl rfl) h1
  clear hA0 hval0
  refine (walk W a0 w0 a1 (bounds_i64 w1)).mono fun e W' ⟨he, bel⟩ => ?_
  subst he
  exact ⟨_, rfl, _, _, _, [], _, [], hW', trodAll_mk1 (shut_bool Try.underlying4 _), (trodAll_cons_mk (Below.trod laidOut (by kernel_rfl) (of_decide_eq_true (by kernel_rfl)) k0 bel lt0) (trodAll_cons_mk (Below.trod laidOut (by kernel_rfl) (of_decide_eq_true (by kernel_rfl)) k1 bel lt1) trodAll_mk0)), rfl, bel.frame _, fun h => by cases h⟩
theorem over : Rows.fnExactReadHexDigitsRow.holds Try.pinned (OpenSpec.ofChange Rows.fnExactReadHexDigitsSpec) :=
  OpenClaim.holds_of_wide 8 Try.f8 rfl rfl rfl rfl rfl rfl rfl ⟨rfl, rfl, rfl, rfl, rfl⟩ rfl rfl rfl rfl rfl (by kernel_rfl) Try.func8 (by kernel_rfl)
    (of_decide_eq_true (by kernel_rfl)) (by unfold Func.isWrapper; rw [if_neg (of_decide_eq_false (by kernel_rfl))]; exact ⟨rfl, rfl⟩)
    (fun os started H enc _ => lifted os started H enc)
/-- The statement. -/
theorem proved : Rows.FnExactReadHexDigitsSaid := over
#print axioms proved
end Go.Proofs.Ytafmancgcnlbhaa.fnExactReadHexDigits
