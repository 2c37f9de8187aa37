/- The law FnExactCountOps holds: for every input the Go function returns true, and each argument reads as before. No condition. -/
import Derived.Test.YtkkmmfgncdfcfaaRows
import Derived.Test.YtkkmmfgncdfcfaaKit
import Derived.Test.YtkkmmfgncdfcfaaBlocks
import Derived.Test.YtkkmmfgncdfcfaaOpenP
import Derived.WalkKit
import Derived.ProofKit
import Derived.OpenShut
import Derived.ShutString
import Derived.ChangeOld
import Derived.Below
import Derived.Deep.RegionHeld3
import Derived.Deep.DrawnRows
import Derived.BigQuiet
import Derived.Outline
namespace Go.Proofs.Ytkkmmfgncdfcfaa.fnExactCountOps
open Go.ChangeShapes Go.WideShapes Go.ChangeAt Go.RowKit
open Go.ChangeMaps (open_string shut_string)
theorem own : ownKnob Try.prog.godebug = none := by kernel_rfl
theorem laidOut : laidOutB Try.prog = true := by kernel_rfl
set_option maxRecDepth 20000 in
set_option maxHeartbeats 8000000 in
theorem walk (w : World) (vp : Value) (p : Prg) (rp : RawP w vp p) (fp : WfP p) (i : Int) (hi : I64 i) :
    Calls Try.prog 7 #[vp, .int .i64 i] w fun e w' => e = .returned (.bool true) ∧ Below w.heap.size w w' := by
  obtain ⟨p_A0, p_n0, p_c0, p_A1, p_n1, p_c1, rfl⟩ := P_form rp
  have Rp := Lib.hid rp; clear rp
  go_enter Try.func7, Try.ntmps7
  go_wp2_with fail
  have kb1_0 := Blk.new w 44 #[.slice p_A0 p_n0 p_c0, .slice p_A1 p_n1 p_c1]
  have b1 := below_al (Below.refl w.heap.size w) (.cells #[.slice p_A0 p_n0 p_c0, .slice p_A1 p_n1 p_c1] 44)
  generalize hw1 : (w.alloc (.cells #[.slice p_A0 p_n0 p_c0, .slice p_A1 p_n1 p_c1] 44)) = w1 at kb1_0 b1 ⊢
  clear hw1
  have s1 := b1.size
  have B1 := Lib.hid (b1)
  have Kap_w1 := Lib.hid kb1_0
  clear b1 kb1_0
  refine (P_sz w1 _ p 1048576 (Rp.out.below B1.out) fp (by omega) (by omega)).mono ?_
  rintro e w2 ⟨t1, rfl, ht1, b2⟩
  have s2 := b2.size
  have B2 := Lib.hid (B1.out.trans (b2.mono (by omega)))
  have Kap_w2 := Lib.hid (Kap_w1.out.below b2)
  clear b2 Kap_w1
  rcases ht1 with ht1 | ⟨ht1, hu1, Zp⟩
  · go_wp2_with fail
    go_ret
    exact ⟨rfl, B2.out⟩
  have HZp := Lib.hid Zp; clear Zp
  have l1 := Kap_w2.out.cell 0 (by simp)
  have l2 := Kap_w2.out.cell 1 (by simp)
  go_wp2_with fail
  clear l1 l2
  refine (P_to w2 _ p (Rp.out.below B2.out) HZp.out.lg).mono ?_
  rintro e w3 ⟨vyp, rfl, h3, b3⟩
  obtain ⟨yp_A0, yp_n0, yp_c0, yp_A1, yp_n1, yp_c1, rfl⟩ := P_form h3.raw
  have s3 := b3.size
  have B3 := Lib.hid (B2.out.trans (b3.mono (by omega)))
  have yp_w3 := Lib.hid h3
  have Kap_w3 := Lib.hid (Kap_w2.out.below b3)
  clear b3 h3 Kap_w2
  go_wp2_with fail
  refine (spec_CountOps w3 _ p yp_w3.out.raw HZp.out i hi).mono ?_
  rintro e w4 ⟨rfl, b4⟩
  have s4 := b4.size
  have B4 := Lib.hid (B3.out.trans (b4.mono (by omega)))
  have yp_w4 := Lib.hid ((OkP.stays w2.heap.size w3.heap.size _ p).below b4 (by omega) yp_w3.out)
  have Kap_w4 := Lib.hid (Kap_w3.out.below b4)
  clear b4 yp_w3 Kap_w3
  have l3 := Kap_w4.out.cell 0 (by simp)
  have l4 := Kap_w4.out.cell 1 (by simp)
  go_wp2_with fail
  clear l3 l4
  refine (P_to w4 _ p (Rp.out.below B4.out) HZp.out.lg).mono ?_
  rintro e w5 ⟨vxp, rfl, h5, b5⟩
  obtain ⟨xp_A0, xp_n0, xp_c0, xp_A1, xp_n1, xp_c1, rfl⟩ := P_form h5.raw
  have s5 := b5.size
  have B5 := Lib.hid (B4.out.trans (b5.mono (by omega)))
  have xp_w5 := Lib.hid h5
  have Kap_w5 := Lib.hid (Kap_w4.out.below b5)
  clear b5 h5 Kap_w4
  go_wp2_with fail
  have kb6_0 := Blk.new w5 49 #[.slice xp_A0 xp_n0 xp_c0, .slice xp_A1 xp_n1 xp_c1]
  have b6 := below_al (Below.refl w5.heap.size w5) (.cells #[.slice xp_A0 xp_n0 xp_c0, .slice xp_A1 xp_n1 xp_c1] 49)
  generalize hw6 : (w5.alloc (.cells #[.slice xp_A0 xp_n0 xp_c0, .slice xp_A1 xp_n1 xp_c1] 49)) = w6 at kb6_0 b6 ⊢
  clear hw6
  have s6 := b6.size
  have B6 := Lib.hid (B5.out.trans (b6.mono (by omega)))
  have xp_w6 := Lib.hid ((OkP.stays w4.heap.size w5.heap.size _ p).below b6 (by omega) xp_w5.out)
  have Kap_w6 := Lib.hid (Kap_w5.out.below b6)
  have Kxp_w6 := Lib.hid kb6_0
  clear b6 xp_w5 Kap_w5 kb6_0
  refine (impl_CountOps w6 _ p xp_w6.out.raw HZp.out i hi).mono ?_
  rintro e w7 ⟨rfl, b7⟩
  have s7 := b7.size
  have B7 := Lib.hid (B6.out.trans (b7.mono (by omega)))
  have xp_w7 := Lib.hid ((OkP.stays w4.heap.size w5.heap.size _ p).below b7 (by omega) xp_w6.out)
  have Kap_w7 := Lib.hid (Kap_w6.out.below b7)
  have Kxp_w7 := Lib.hid (Kxp_w6.out.below b7)
  clear b7 xp_w6 Kap_w6 Kxp_w6
  go_wp2_with fail
  have l5 := Kxp_w7.out.cell 0 (by simp)
  have l6 := Kxp_w7.out.cell 1 (by simp)
  have l7 := Kap_w7.out.cell 0 (by simp)
  have l8 := Kap_w7.out.cell 1 (by simp)
  have bd := (Below.refl w7.heap.size w7).drew
  have BD := Lib.hid bd
  have RD := Lib.hid (Rp.out.below (B7.out.drew)); have XD := Lib.hid ((OkP.stays w4.heap.size w5.heap.size _ p).below bd (by omega) xp_w7.out); clear bd
  go_region_held3 (fun w' => w'.cell? ⟨w5.heap.size, 0, none⟩ = some (.slice xp_A0 xp_n0 xp_c0) ∧ w'.cell? ⟨w5.heap.size, 1, none⟩ = some (.slice xp_A1 xp_n1 xp_c1) ∧ w'.cell? ⟨w.heap.size, 0, none⟩ = some (.slice p_A0 p_n0 p_c0) ∧ w'.cell? ⟨w.heap.size, 1, none⟩ = some (.slice p_A1 p_n1 p_c1)) (first | go_keep | (go_split_ands; refine ⟨?_, ?_, ?_, ?_⟩ <;> first | (refine below_cell HBv.out _ _ ?_; assumption) | (refine below_cell HBu.out _ _ ?_; assumption)))
    (first
      | (go_at_call 29; refine (P_to _ _ p RD.out HZp.out.lg).mono ?_; rintro e wu ⟨vu, rfl, hu, bu⟩; have HXU := Lib.hid ((OkP.stays w4.heap.size w5.heap.size _ p).below bu (by simp; omega) XD.out); have HBu := Lib.hid bu; have HU := Lib.hid hu; clear bu hu)
      | (go_at_call 31; refine (P_eq _ _ _ p HXU.out.raw HU.out.raw HZp.out.lg).mono ?_; rintro e wv ⟨rfl, bv⟩; have HBv := Lib.hid bv; clear bv))
  clear l5 l6 l7 l8
  obtain ⟨w8, hwv⟩ : ∃ u, u = wv := ⟨_, rfl⟩
  rw [← hwv]
  have b8 : Below w7.heap.size w7 w8 := by rw [hwv]; exact (BD.out.trans (HBu.out.mono BD.out.size)).trans (HBv.out.mono (Nat.le_trans BD.out.size HBu.out.size))
  clear hwv HBu HBv HU HXU RD XD BD
  have s8 := b8.size
  have B8 := Lib.hid (B7.out.trans (b8.mono (by omega)))
  have xp_w8 := Lib.hid ((OkP.stays w4.heap.size w5.heap.size _ p).below b8 (by omega) xp_w7.out)
  have Kap_w8 := Lib.hid (Kap_w7.out.below b8)
  have Kxp_w8 := Lib.hid (Kxp_w7.out.below b8)
  clear b8 xp_w7 Kap_w7 Kxp_w7
  go_wp2_with fail
  go_ret
  exact ⟨rfl, B8.out⟩
set_option maxRecDepth 100000 in
theorem lifted (os : Os) (started : os.Started) (H : Type) (enc : TypeId × Value → H) :
    ReturnsInHanded {} Try.checked os 7 .any (Rows.fnExactCountOpsSpec.pre6 enc Try.prog Try.f7 Rows.fnExactCountOpsRow.domain false) (Rows.fnExactCountOpsSpec.post enc Try.prog Try.f7 false true false false) := by
  refine returnsInHanded_of_change (C := Try.checked) own started (by kernel_rfl) Try.func7
    (ChangeSpec.witness6 (enc := enc) (C := Try.checked) false ⟨#[], #[.agg #[.slice none 0 0, .slice none 0 0], .int .i64 0], []⟩ 8 (by kernel_rfl) (by kernel_rfl) (by kernel_rfl) (by kernel_rfl)) ?_
  intro W base args ds gs before hval0 hW hcnd _
  have hval : ∀ (j : Nat) t v, Try.f7.params[j]? = some t → args[j]? = some v → Value.okWide Try.prog W .any base t v := hval0
  have hW' := hW
  obtain ⟨p, q, hA0, hV, rfl, hfz, hnd⟩ := hW
  have hA : DataW.TrodAll enc Try.prog W 0 (fun _ => true) true Try.f7.params.toList args.toList ds p := hA0
  rw [Try.params7] at hA hval
  obtain ⟨v0, vs0, d0, ds0, p0, q0, hargs, rfl, rfl, h0, r0⟩ := trodAll_cons hA
  obtain ⟨v1, vs1, d1, ds1, p1, q1, rfl, rfl, rfl, h1, r1⟩ := trodAll_cons r0
  obtain ⟨rfl, rfl, rfl⟩ := trodAll_nil r1
  obtain rfl : args = #[v0, v1] := by cases args; simp_all
  obtain ⟨rfl, rfl⟩ := trodVars_none hV
  have k0 := h0
  have lt0 : ∀ x ∈ p0, x.block < W.heap.size := by obtain ⟨m, hm⟩ := k0; exact DataW.trod_lt m _ _ _ hm
  obtain ⟨a0, w0, f0⟩ := open_program (hval 0 44 v0 rfl rfl) h0
  have k1 := h1
  have lt1 : ∀ x ∈ p1, x.block < W.heap.size := by obtain ⟨m, hm⟩ := k1; exact DataW.trod_lt m _ _ _ hm
  obtain ⟨a1, rfl, hd1, hp1, w1⟩ := open_int Try.underlying3 (hval 1 3 v1 rfl rfl) h1
  clear hA0 hval0
  refine (walk W v0 a0 w0 f0 a1 (bounds_i64 w1)).mono fun e W' ⟨he, bel⟩ => ?_
  subst he
  exact ⟨_, rfl, _, _, _, [], _, [], hW', trodAll_mk1 (shut_bool Try.underlying4 _), (trodAll_cons_mk (Below.trod laidOut (by kernel_rfl) (of_decide_eq_true (by kernel_rfl)) k0 bel lt0) (trodAll_cons_mk (Below.trod laidOut (by kernel_rfl) (of_decide_eq_true (by kernel_rfl)) k1 bel lt1) trodAll_mk0)), rfl, bel.frame _, fun h => by cases h⟩
theorem over : Rows.fnExactCountOpsRow.holds Try.pinned (OpenSpec.ofChange Rows.fnExactCountOpsSpec) :=
  OpenClaim.holds_of_wide 7 Try.f7 rfl rfl rfl rfl rfl rfl rfl ⟨rfl, rfl, rfl, rfl, rfl⟩ rfl rfl rfl rfl rfl (by kernel_rfl) Try.func7 (by kernel_rfl)
    (of_decide_eq_true (by kernel_rfl)) (by unfold Func.isWrapper; rw [if_neg (of_decide_eq_false (by kernel_rfl))]; exact ⟨rfl, rfl⟩)
    (fun os started H enc _ => lifted os started H enc)
/-- The statement. -/
theorem proved : Rows.FnExactCountOpsSaid := over
#print axioms proved
end Go.Proofs.Ytkkmmfgncdfcfaa.fnExactCountOps
