/- The law FnExactEscapeAll holds: for every input the Go function returns true, and each argument reads as before. No condition. -/
import Derived.Test.YtafmancgcnlbhaaRows
import Derived.Test.YtafmancgcnlbhaaKit
import Derived.Test.YtafmancgcnlbhaaEscAll
import Derived.WalkKit
import Derived.ProofKit
import Derived.OpenShut
import Derived.ShutString
import Derived.ChangeOld
import Derived.Below
namespace Go.Proofs.Ytafmancgcnlbhaa.fnExactEscapeAll
open Go.ChangeShapes Go.WideShapes Go.ChangeAt Go.RowKit
open Go.ChangeMaps (open_string shut_string)
theorem own : ownKnob Try.prog.godebug = none := by kernel_rfl
theorem laidOut : laidOutB Try.prog = true := by kernel_rfl
set_option maxRecDepth 20000 in
set_option maxHeartbeats 4000000 in
theorem walk (w : World) (Abs : Option Addr) (nbs cbs : Nat) (bs : List UInt8) (rbs : RawB w (.slice Abs nbs cbs) bs) (t : UInt8) :
    Calls Try.prog 5 #[.slice Abs nbs cbs, u8v t] w fun e w' => e = .returned (.bool true) ∧ Below w.heap.size w w' := by
  by_cases gbs : 1048576 < nbs
  · go_enter Try.func5, Try.ntmps5
    go_wp2
    go_ret
    exact ⟨rfl, Below.refl _ _⟩
  have mbs : nbs ≤ 1048576 := by omega
  clear gbs
  have lbs : bs.length ≤ 1048576 := by have := rbs.len; omega
  have Rbs := Lib.hid rbs; clear rbs
  have L0 : LgB (escA bs ++ [t]) := lg_escA t bs (by omega)
  have HL0 := Lib.hid L0; clear L0
  go_enter Try.func5, Try.ntmps5
  go_wp2_with fail
  refine (B_to w _ bs Rbs.out (by first | (unfold LgB; omega) | omega)).mono ?_
  rintro e w1 ⟨vybs, rfl, h1, b1⟩
  have s1 := b1.size
  have B1 := Lib.hid (b1)
  have ybs_1 := Lib.hid h1
  clear b1 h1
  go_wp2_with fail
  refine (spec_EscapeAll w1 _ bs ybs_1.out.raw lbs t).mono ?_
  rintro e w2 ⟨vw0, rfl, h2_0, b2⟩
  have s2 := b2.size
  have B2 := Lib.hid (B1.out.trans (b2.mono (by omega)))
  have ybs_2 := Lib.hid ((OkB.stays w.heap.size w1.heap.size vybs bs).below b2 (by omega) ybs_1.out)
  have w0_2 := Lib.hid h2_0
  clear b2 h2_0
  go_wp2_with fail
  refine (B_to w2 _ bs (Rbs.out.below B2.out) (by first | (unfold LgB; omega) | omega)).mono ?_
  rintro e w3 ⟨vxbs, rfl, h3, b3⟩
  have s3 := b3.size
  have B3 := Lib.hid (B2.out.trans (b3.mono (by omega)))
  have w0_3 := Lib.hid ((OkB.stays w1.heap.size w2.heap.size vw0 (escA bs ++ [t])).below b3 (by omega) w0_2.out)
  have xbs_3 := Lib.hid h3
  clear b3 h3
  go_wp2_with fail
  refine (impl_EscapeAll w3 _ bs xbs_3.out.raw lbs t).mono ?_
  rintro e w4 ⟨vg0, rfl, h4_0, b4⟩
  have s4 := b4.size
  have B4 := Lib.hid (B3.out.trans (b4.mono (by omega)))
  have w0_4 := Lib.hid ((OkB.stays w1.heap.size w2.heap.size vw0 (escA bs ++ [t])).below b4 (by omega) w0_3.out)
  have xbs_4 := Lib.hid ((OkB.stays w2.heap.size w3.heap.size vxbs bs).below b4 (by omega) xbs_3.out)
  have g0_4 := Lib.hid h4_0
  clear b4 h4_0
  go_wp2_with fail
  refine (B_eq w4 _ _ (escA bs ++ [t]) g0_4.out.raw w0_4.out.raw HL0.out).mono ?_
  rintro e w5 ⟨rfl, b5⟩
  have s5 := b5.size
  have B5 := Lib.hid (B4.out.trans (b5.mono (by omega)))
  have w0_5 := Lib.hid ((OkB.stays w1.heap.size w2.heap.size vw0 (escA bs ++ [t])).below b5 (by omega) w0_4.out)
  have xbs_5 := Lib.hid ((OkB.stays w2.heap.size w3.heap.size vxbs bs).below b5 (by omega) xbs_4.out)
  have g0_5 := Lib.hid ((OkB.stays w3.heap.size w4.heap.size vg0 (escA bs ++ [t])).below b5 (by omega) g0_4.out)
  clear b5
  go_wp2_with fail
  refine (B_to w5 _ bs (Rbs.out.below B5.out) (by first | (unfold LgB; omega) | omega)).mono ?_
  rintro e w6 ⟨vubs, rfl, h6, b6⟩
  have s6 := b6.size
  have B6 := Lib.hid (B5.out.trans (b6.mono (by omega)))
  have w0_6 := Lib.hid ((OkB.stays w1.heap.size w2.heap.size vw0 (escA bs ++ [t])).below b6 (by omega) w0_5.out)
  have xbs_6 := Lib.hid ((OkB.stays w2.heap.size w3.heap.size vxbs bs).below b6 (by omega) xbs_5.out)
  have g0_6 := Lib.hid ((OkB.stays w3.heap.size w4.heap.size vg0 (escA bs ++ [t])).below b6 (by omega) g0_5.out)
  have ubs_6 := Lib.hid h6
  clear b6 h6
  go_wp2_with fail
  refine (B_eq w6 _ _ bs xbs_6.out.raw ubs_6.out.raw (by first | (unfold LgB; omega) | omega)).mono ?_
  rintro e w7 ⟨rfl, b7⟩
  have s7 := b7.size
  have B7 := Lib.hid (B6.out.trans (b7.mono (by omega)))
  have w0_7 := Lib.hid ((OkB.stays w1.heap.size w2.heap.size vw0 (escA bs ++ [t])).below b7 (by omega) w0_6.out)
  have xbs_7 := Lib.hid ((OkB.stays w2.heap.size w3.heap.size vxbs bs).below b7 (by omega) xbs_6.out)
  have g0_7 := Lib.hid ((OkB.stays w3.heap.size w4.heap.size vg0 (escA bs ++ [t])).below b7 (by omega) g0_6.out)
  have ubs_7 := Lib.hid ((OkB.stays w5.heap.size w6.heap.size vubs bs).below b7 (by omega) ubs_6.out)
  clear b7
  go_wp2_with fail
  refine (B_mark w7 _ _ _ bs 1 xbs_7.out (by first | (unfold LgB; omega) | omega) (by omega) (by omega)).mono ?_
  rintro e w8 ⟨k0, rfl, kl0, kh0, _, b8⟩
  have s8 := b8.size
  have B8 := Lib.hid (b8.below B7.out (by omega) (by omega))
  have w0_8 := Lib.hid ((OkB.stays w1.heap.size w2.heap.size vw0 (escA bs ++ [t])).chg b8 (by omega) (by omega) w0_7.out)
  have g0_8 := Lib.hid ((OkB.stays w3.heap.size w4.heap.size vg0 (escA bs ++ [t])).chg b8 (by omega) (by omega) g0_7.out)
  clear b8
  go_wp2_with fail
  refine (B_eq w8 _ _ (escA bs ++ [t]) g0_8.out.raw w0_8.out.raw HL0.out).mono ?_
  rintro e w9 ⟨rfl, b9⟩
  have s9 := b9.size
  have B9 := Lib.hid (B8.out.trans (b9.mono (by omega)))
  have w0_9 := Lib.hid ((OkB.stays w1.heap.size w2.heap.size vw0 (escA bs ++ [t])).below b9 (by omega) w0_8.out)
  have g0_9 := Lib.hid ((OkB.stays w3.heap.size w4.heap.size vg0 (escA bs ++ [t])).below b9 (by omega) g0_8.out)
  clear b9
  go_wp2_with fail
  refine (B_mark w9 _ _ _ (escA bs ++ [t]) 1 g0_9.out HL0.out (by omega) (by omega)).mono ?_
  rintro e w10 ⟨m0, rfl, ml0, mh0, h10, b10⟩
  have s10 := b10.size
  have B10 := Lib.hid (b10.below B9.out (by omega) (by omega))
  have w0_10 := Lib.hid ((OkB.stays w1.heap.size w2.heap.size vw0 (escA bs ++ [t])).chg b10 (by omega) (by omega) w0_9.out)
  have g0_10 := Lib.hid h10
  clear b10 h10
  go_wp2_with fail
  refine (B_held w10 _ _ _ 1 m0 g0_10.out (by omega) (by omega)).mono ?_
  rintro e w11 ⟨rfl, b11⟩
  have s11 := b11.size
  have B11 := Lib.hid (B10.out.trans (b11.mono (by omega)))
  have w0_11 := Lib.hid ((OkB.stays w1.heap.size w2.heap.size vw0 (escA bs ++ [t])).below b11 (by omega) w0_10.out)
  have g0_11 := Lib.hid ((MkB.stays w3.heap.size w4.heap.size vg0 1 m0).below b11 (by omega) g0_10.out)
  clear b11
  go_wp2_with fail
  refine (B_to w11 _ bs (Rbs.out.below B11.out) (by first | (unfold LgB; omega) | omega)).mono ?_
  rintro e w12 ⟨vzbs, rfl, h12, b12⟩
  have s12 := b12.size
  have B12 := Lib.hid (B11.out.trans (b12.mono (by omega)))
  have w0_12 := Lib.hid ((OkB.stays w1.heap.size w2.heap.size vw0 (escA bs ++ [t])).below b12 (by omega) w0_11.out)
  have g0_12 := Lib.hid ((MkB.stays w3.heap.size w4.heap.size vg0 1 m0).below b12 (by omega) g0_11.out)
  have zbs_12 := Lib.hid h12
  clear b12 h12
  go_wp2_with fail
  refine (impl_EscapeAll w12 _ bs zbs_12.out.raw lbs t).mono ?_
  rintro e w13 ⟨vh0, rfl, h13_0, b13⟩
  have s13 := b13.size
  have B13 := Lib.hid (B12.out.trans (b13.mono (by omega)))
  have w0_13 := Lib.hid ((OkB.stays w1.heap.size w2.heap.size vw0 (escA bs ++ [t])).below b13 (by omega) w0_12.out)
  have g0_13 := Lib.hid ((MkB.stays w3.heap.size w4.heap.size vg0 1 m0).below b13 (by omega) g0_12.out)
  have zbs_13 := Lib.hid ((OkB.stays w11.heap.size w12.heap.size vzbs bs).below b13 (by omega) zbs_12.out)
  have h0_13 := Lib.hid h13_0
  clear b13 h13_0
  go_wp2_with fail
  refine (B_eq w13 _ _ (escA bs ++ [t]) h0_13.out.raw w0_13.out.raw HL0.out).mono ?_
  rintro e w14 ⟨rfl, b14⟩
  have s14 := b14.size
  have B14 := Lib.hid (B13.out.trans (b14.mono (by omega)))
  have w0_14 := Lib.hid ((OkB.stays w1.heap.size w2.heap.size vw0 (escA bs ++ [t])).below b14 (by omega) w0_13.out)
  have g0_14 := Lib.hid ((MkB.stays w3.heap.size w4.heap.size vg0 1 m0).below b14 (by omega) g0_13.out)
  have h0_14 := Lib.hid ((OkB.stays w12.heap.size w13.heap.size vh0 (escA bs ++ [t])).below b14 (by omega) h0_13.out)
  clear b14
  go_wp2_with fail
  refine (B_held w14 _ _ _ 1 m0 g0_14.out (by omega) (by omega)).mono ?_
  rintro e w15 ⟨rfl, b15⟩
  have s15 := b15.size
  have B15 := Lib.hid (B14.out.trans (b15.mono (by omega)))
  have w0_15 := Lib.hid ((OkB.stays w1.heap.size w2.heap.size vw0 (escA bs ++ [t])).below b15 (by omega) w0_14.out)
  have g0_15 := Lib.hid ((MkB.stays w3.heap.size w4.heap.size vg0 1 m0).below b15 (by omega) g0_14.out)
  have h0_15 := Lib.hid ((OkB.stays w12.heap.size w13.heap.size vh0 (escA bs ++ [t])).below b15 (by omega) h0_14.out)
  clear b15
  go_wp2_with fail
  go_ret
  exact ⟨rfl, B15.out⟩
set_option maxRecDepth 100000 in
theorem lifted (os : Os) (started : os.Started) (H : Type) (enc : TypeId × Value → H) :
    ReturnsInHanded {} Try.checked os 5 .any (Rows.fnExactEscapeAllSpec.pre6 enc Try.prog Try.f5 Rows.fnExactEscapeAllRow.domain false) (Rows.fnExactEscapeAllSpec.post enc Try.prog Try.f5 false true false false) := by
  refine returnsInHanded_of_change (C := Try.checked) own started (by kernel_rfl) Try.func5
    (ChangeSpec.witness6 (enc := enc) (C := Try.checked) false ⟨#[], #[.slice none 0 0, .int .u8 0], []⟩ 8 (by kernel_rfl) (by kernel_rfl) (by kernel_rfl) (by kernel_rfl)) ?_
  intro W base args ds gs before hval0 hW hcnd _
  have hval : ∀ (j : Nat) t v, Try.f5.params[j]? = some t → args[j]? = some v → Value.okWide Try.prog W .any base t v := hval0
  have hW' := hW
  obtain ⟨p, q, hA0, hV, rfl, hfz, hnd⟩ := hW
  have hA : DataW.TrodAll enc Try.prog W 0 (fun _ => true) true Try.f5.params.toList args.toList ds p := hA0
  rw [Try.params5] at hA hval
  obtain ⟨v0, vs0, d0, ds0, p0, q0, hargs, rfl, rfl, h0, r0⟩ := trodAll_cons hA
  obtain ⟨v1, vs1, d1, ds1, p1, q1, rfl, rfl, rfl, h1, r1⟩ := trodAll_cons r0
  obtain ⟨rfl, rfl, rfl⟩ := trodAll_nil r1
  obtain rfl : args = #[v0, v1] := by cases args; simp_all
  obtain ⟨rfl, rfl⟩ := trodVars_none hV
  have k0 := h0
  have lt0 : ∀ x ∈ p0, x.block < W.heap.size := by obtain ⟨m, hm⟩ := k0; exact DataW.trod_lt m _ _ _ hm
  obtain ⟨A0, n0, c0, b0, rfl, w0⟩ := open_bytes Try.underlying27 Try.underlying5 (by kernel_rfl) (hval 0 27 v0 rfl rfl) h0
  have k1 := h1
  have lt1 : ∀ x ∈ p1, x.block < W.heap.size := by obtain ⟨m, hm⟩ := k1; exact DataW.trod_lt m _ _ _ hm
  obtain ⟨z1, rfl, hd1, hp1, w1⟩ := open_int Try.underlying5 (hval 1 5 v1 rfl rfl) h1
  obtain ⟨a1, rfl⟩ := u8_of_wf w1
  clear hA0 hval0
  refine (walk W A0 n0 c0 b0 ⟨_, _, _, rfl, w0⟩ a1).mono fun e W' ⟨he, bel⟩ => ?_
  subst he
  exact ⟨_, rfl, _, _, _, [], _, [], hW', trodAll_mk1 (shut_bool Try.underlying4 _), (trodAll_cons_mk (Below.trod laidOut (by kernel_rfl) (of_decide_eq_true (by kernel_rfl)) k0 bel lt0) (trodAll_cons_mk (Below.trod laidOut (by kernel_rfl) (of_decide_eq_true (by kernel_rfl)) k1 bel lt1) trodAll_mk0)), rfl, bel.frame _, fun h => by cases h⟩
theorem over : Rows.fnExactEscapeAllRow.holds Try.pinned (OpenSpec.ofChange Rows.fnExactEscapeAllSpec) :=
  OpenClaim.holds_of_wide 5 Try.f5 rfl rfl rfl rfl rfl rfl rfl ⟨rfl, rfl, rfl, rfl, rfl⟩ rfl rfl rfl rfl rfl (by kernel_rfl) Try.func5 (by kernel_rfl)
    (of_decide_eq_true (by kernel_rfl)) (by unfold Func.isWrapper; rw [if_neg (of_decide_eq_false (by kernel_rfl))]; exact ⟨rfl, rfl⟩)
    (fun os started H enc _ => lifted os started H enc)
/-- The statement. -/
theorem proved : Rows.FnExactEscapeAllSaid := over
#print axioms proved
end Go.Proofs.Ytafmancgcnlbhaa.fnExactEscapeAll
