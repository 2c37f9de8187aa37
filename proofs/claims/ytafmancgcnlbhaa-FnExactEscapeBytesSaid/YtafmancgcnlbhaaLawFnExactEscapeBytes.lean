/- The law FnExactEscapeBytes holds: for every input the Go function returns true, and each argument reads as before. No condition. -/
import Derived.Test.YtafmancgcnlbhaaRows
import Derived.Test.YtafmancgcnlbhaaKit
import Derived.Test.YtafmancgcnlbhaaEsc
import Derived.Test.YtafmancgcnlbhaaEsc2
import Derived.WalkKit
import Derived.ProofKit
import Derived.OpenShut
import Derived.ShutString
import Derived.ChangeOld
import Derived.Below
namespace Go.Proofs.Ytafmancgcnlbhaa.fnExactEscapeBytes
open Go.ChangeShapes Go.WideShapes Go.ChangeAt Go.RowKit
open Go.ChangeMaps (open_string shut_string)
theorem own : ownKnob Try.prog.godebug = none := by kernel_rfl
theorem laidOut : laidOutB Try.prog = true := by kernel_rfl
set_option maxHeartbeats 1000000 in
theorem walk (w : World) (A : Option Addr) (n c : Nat) (bs : List UInt8) (hr : RdB w A n bs) (t : UInt8) :
    Calls Try.prog 6 #[.slice A n c, u8v t] w fun e w' => e = .returned (.bool true) ∧ Below w.heap.size w w' := by
  by_cases hbig : 1048576 < n
  · go_enter Try.func6, Try.ntmps6
    go_wp2
    go_ret
    exact ⟨rfl, Below.refl _ _⟩
  · have hn : n ≤ 1048576 := by omega
    have hL : (escB t bs ++ [t]).length ≤ 2097153 := by have h1 := escB_len t bs; have h2 := hr.len; simp; omega
    have HL := Lib.hid hL; clear hL
    have HR := Lib.hid hr; clear hr
    go_enter Try.func6, Try.ntmps6
    go_wp2_with fail
    refine (toByteS_any A n c bs _ HR.out (by omega)).mono ?_
    rintro e w1 ⟨rfl, h1, b1⟩
    have H1 := Lib.hid h1; have B1 := Lib.hid b1; clear h1 b1
    go_wp2_with fail
    refine (specEscapeBytes_any _ n n bs t w1 (Rd.of_own H1.out) hn).mono ?_
    rintro e w2 ⟨Aw, mw, cw, rfl, h2, b2⟩
    have hmw : mw ≤ 2097153 := by have := HL.out; have := h2.len; omega
    have H2 := Lib.hid h2; have B2 := Lib.hid (B1.out.trans (b2.mono B1.out.size)); clear h2 b2
    go_wp2_with fail
    refine (toByteS_any A n c bs w2 (HR.out.below B2.out) (by omega)).mono ?_
    rintro e w3 ⟨rfl, h3, b3⟩
    have X3 := Lib.hid h3; have B3 := Lib.hid (B2.out.trans (b3.mono B2.out.size)); have H3 := Lib.hid (own_below H2.out b3); have S3 := Lib.hid (b3.size); clear h3 b3
    go_wp2_with fail
    refine (implEscapeBytes_any _ n n bs t w3 (Rd.of_own X3.out) hn).mono ?_
    rintro e w4 ⟨Ag, mg, cg, rfl, h4, b4⟩
    have hmg : mg ≤ 2097153 := by have := HL.out; have := h4.len; omega
    have G4 := Lib.hid h4; have B4 := Lib.hid (B3.out.trans (b4.mono B3.out.size)); have H4 := Lib.hid (own_below H3.out b4); have X4 := Lib.hid (own_below X3.out b4); clear h4 b4
    go_wp2_with fail
    refine (eqByteS_same _ _ _ _ _ _ _ w4 (Rd.of_own G4.out) (Rd.of_own H4.out) (by omega)).mono ?_
    rintro e w5 ⟨rfl, q5⟩
    have B5 := Lib.hid (B4.out.trans (q5.below _)); have G5 := Lib.hid (own_below G4.out (q5.below _)); have H5 := Lib.hid (own_below H4.out (q5.below _)); have X5 := Lib.hid (own_below X4.out (q5.below _)); clear q5
    go_wp2_with fail
    refine (toByteS_any A n c bs w5 (HR.out.below B5.out) (by omega)).mono ?_
    rintro e w6 ⟨rfl, h6, b6⟩
    have Y6 := Lib.hid h6; have B6 := Lib.hid (B5.out.trans (b6.mono B5.out.size)); have G6 := Lib.hid (own_below G5.out b6); have H6 := Lib.hid (own_below H5.out b6); have X6 := Lib.hid (own_below X5.out b6); clear h6 b6
    go_wp2_with fail
    refine (eqByteS_same _ _ _ _ _ _ _ w6 (Rd.of_own X6.out) (Rd.of_own Y6.out) (by omega)).mono ?_
    rintro e w7 ⟨rfl, q7⟩
    have B7 := Lib.hid (B6.out.trans (q7.below _)); have G7 := Lib.hid (own_below G6.out (q7.below _)); have H7 := Lib.hid (own_below H6.out (q7.below _)); have X7 := Lib.hid (own_below X6.out (q7.below _)); clear q7
    go_wp2_with fail
    refine (markByteS_own _ n n _ _ 1 w7 X7.out (by omega) (by omega) (by omega)).mono ?_
    rintro e w8 ⟨rfl, h8, g8⟩
    have B8 := Lib.hid (below_wrote B7.out X7.out g8 B2.out.size B7.out.size); have H8 := Lib.hid (H7.out.kept g8 (own_apart H2.out X3.out (Nat.le_refl _))); have G8 := Lib.hid (G7.out.kept g8 (own_apart' X3.out G4.out (Nat.le_refl _))); clear h8 g8
    go_wp2_with fail
    refine (eqByteS_same _ _ _ _ _ _ _ w8 (Rd.of_own G8.out) (Rd.of_own H8.out) (by omega)).mono ?_
    rintro e w9 ⟨rfl, q9⟩
    have B9 := Lib.hid (B8.out.trans (q9.below _)); have G9 := Lib.hid (own_below G8.out (q9.below _)); have H9 := Lib.hid (own_below H8.out (q9.below _)); clear q9
    go_wp2_with fail
    refine (markByteS_own _ mg cg _ _ 1 w9 G9.out (by omega) (by omega) (by omega)).mono ?_
    rintro e w10 ⟨rfl, h10, g10⟩
    have G10 := Lib.hid h10; have B10 := Lib.hid (below_wrote B9.out G9.out g10 B3.out.size B9.out.size); have H10 := Lib.hid (H9.out.kept g10 (own_apart H3.out G4.out (Nat.le_refl _))); clear h10 g10
    go_wp2_with fail
    refine (heldByteS_marks _ mg cg 1 w10 (Rd.of_own G10.out) (by omega) (by omega) (by omega)).mono ?_
    rintro e w11 ⟨rfl, q11⟩
    have B11 := Lib.hid (B10.out.trans (q11.below _)); have G11 := Lib.hid (own_below G10.out (q11.below _)); have H11 := Lib.hid (own_below H10.out (q11.below _)); clear q11
    go_wp2_with fail
    refine (toByteS_any A n c bs w11 (HR.out.below B11.out) (by omega)).mono ?_
    rintro e w12 ⟨rfl, h12, b12⟩
    have X12 := Lib.hid h12; have B12 := Lib.hid (B11.out.trans (b12.mono B11.out.size)); have G12 := Lib.hid (own_below G11.out b12); have H12 := Lib.hid (own_below H11.out b12); clear h12 b12
    go_wp2_with fail
    refine (implEscapeBytes_any _ n n bs t w12 (Rd.of_own X12.out) hn).mono ?_
    rintro e w13 ⟨Ah, mh, ch, rfl, h13, b13⟩
    have hmh : mh ≤ 2097153 := by have := HL.out; have := h13.len; omega
    have I13 := Lib.hid h13; have B13 := Lib.hid (B12.out.trans (b13.mono B12.out.size)); have H13 := Lib.hid (own_below H12.out b13); have G13 := Lib.hid (own_below G12.out b13); clear h13 b13
    go_wp2_with fail
    refine (eqByteS_same _ _ _ _ _ _ _ w13 (Rd.of_own I13.out) (Rd.of_own H13.out) (by omega)).mono ?_
    rintro e w14 ⟨rfl, q14⟩
    have B14 := Lib.hid (B13.out.trans (q14.below _)); have G14 := Lib.hid (own_below G13.out (q14.below _)); clear q14
    go_wp2_with fail
    refine (heldByteS_marks _ mg cg 1 w14 (Rd.of_own G14.out) (by omega) (by omega) (by omega)).mono ?_
    rintro e w15 ⟨rfl, q15⟩
    have B15 := Lib.hid (B14.out.trans (q15.below _)); clear q15
    go_wp2_with fail
    go_ret
    exact ⟨rfl, B15.out⟩
set_option maxRecDepth 100000 in
theorem lifted (os : Os) (started : os.Started) (H : Type) (enc : TypeId × Value → H) :
    ReturnsInHanded {} Try.checked os 6 .any (Rows.fnExactEscapeBytesSpec.pre6 enc Try.prog Try.f6 Rows.fnExactEscapeBytesRow.domain false) (Rows.fnExactEscapeBytesSpec.post enc Try.prog Try.f6 false true false false) := by
  refine returnsInHanded_of_change (C := Try.checked) own started (by kernel_rfl) Try.func6
    (ChangeSpec.witness6 (enc := enc) (C := Try.checked) false ⟨#[], #[.slice none 0 0, .int .u8 0], []⟩ 8 (by kernel_rfl) (by kernel_rfl) (by kernel_rfl) (by kernel_rfl)) ?_
  intro W base args ds gs before hval0 hW hcnd _
  have hval : ∀ (j : Nat) t v, Try.f6.params[j]? = some t → args[j]? = some v → Value.okWide Try.prog W .any base t v := hval0
  have hW' := hW
  obtain ⟨p, q, hA0, hV, rfl, hfz, hnd⟩ := hW
  have hA : DataW.TrodAll enc Try.prog W 0 (fun _ => true) true Try.f6.params.toList args.toList ds p := hA0
  rw [Try.params6] at hA hval
  obtain ⟨v0, vs0, d0, ds0, p0, q0, hargs, rfl, rfl, h0, r0⟩ := trodAll_cons hA
  obtain ⟨v1, vs1, d1, ds1, p1, q1, rfl, rfl, rfl, h1, r1⟩ := trodAll_cons r0
  obtain ⟨rfl, rfl, rfl⟩ := trodAll_nil r1
  obtain rfl : args = #[v0, v1] := by cases args; simp_all
  obtain ⟨rfl, rfl⟩ := trodVars_none hV
  have k0 := h0
  have lt0 : ∀ x ∈ p0, x.block < W.heap.size := by obtain ⟨m, hm⟩ := k0; exact DataW.trod_lt m _ _ _ hm
  obtain ⟨A0, n0, c0, b0, rfl, w0⟩ := open_bytes Try.underlying27 Try.underlying5 (by kernel_rfl) (hval 0 27 v0 rfl rfl) h0
  have k1 := h1
  have lt1 : ∀ x ∈ p1, x.block < W.heap.size := by obtain ⟨m, hm⟩ := k1; exact DataW.trod_lt m _ _ _ hm
  obtain ⟨z1, rfl, hd1, hp1, w1⟩ := open_int Try.underlying5 (hval 1 5 v1 rfl rfl) h1
  obtain ⟨a1, rfl⟩ := u8_of_wf w1
  clear hA0 hval0
  refine (walk W A0 n0 c0 b0 w0 a1).mono fun e W' ⟨he, bel⟩ => ?_
  subst he
  exact ⟨_, rfl, _, _, _, [], _, [], hW', trodAll_mk1 (shut_bool Try.underlying4 _), (trodAll_cons_mk (Below.trod laidOut (by kernel_rfl) (of_decide_eq_true (by kernel_rfl)) k0 bel lt0) (trodAll_cons_mk (Below.trod laidOut (by kernel_rfl) (of_decide_eq_true (by kernel_rfl)) k1 bel lt1) trodAll_mk0)), rfl, bel.frame _, fun h => by cases h⟩
theorem over : Rows.fnExactEscapeBytesRow.holds Try.pinned (OpenSpec.ofChange Rows.fnExactEscapeBytesSpec) :=
  OpenClaim.holds_of_wide 6 Try.f6 rfl rfl rfl rfl rfl rfl rfl ⟨rfl, rfl, rfl, rfl, rfl⟩ rfl rfl rfl rfl rfl (by kernel_rfl) Try.func6 (by kernel_rfl)
    (of_decide_eq_true (by kernel_rfl)) (by unfold Func.isWrapper; rw [if_neg (of_decide_eq_false (by kernel_rfl))]; exact ⟨rfl, rfl⟩)
    (fun os started H enc _ => lifted os started H enc)
/-- The statement. -/
theorem proved : Rows.FnExactEscapeBytesSaid := over
#print axioms proved
end Go.Proofs.Ytafmancgcnlbhaa.fnExactEscapeBytes
