/- The law FnDigits holds: for every input the Go function returns true, and each argument reads as before. On the card: the tables of the library hold what the program's own text lays. No other condition. -/
import Derived.Test.YtnbjncafoahclaaDoorRows
import Derived.Test.YtnbjncafoahclaaDoorCards
import Derived.Test.YtnbjncafoahclaaDoorTie
import Derived.Test.YtnbjncafoahclaaDoorArg
import Derived.Test.YtnbjncafoahclaaDoorIto
import Derived.Test.YtnbjncafoahclaaDoorGat0
import Derived.Test.YtnbjncafoahclaaDoorVld
import Derived.WalkKit
import Derived.ProofKit
import Derived.OpenShut
import Derived.ShutString
import Derived.ChangeOld
import Derived.Below
import Derived.Outline
import Derived.LaidMore
import Derived.MakeChecks
import Derived.Stop.Joined
import Derived.Stop.LaidErr
import Derived.SevenTiedAt
namespace Go.Proofs.YtnbjncafoahclaaDoor.fnDigits
set_option linter.unusedSimpArgs false
set_option linter.unusedVariables false
open Go.ChangeShapes Go.WideShapes Go.ChangeAt Go.RowKit
open Go.ChangeMaps (open_string shut_string)
theorem own : ownKnob Tryd.prog.godebug = none := by kernel_rfl
theorem laidOut : laidOutB Tryd.prog = true := by kernel_rfl
theorem nib_back (c : UInt8) : u8i (((c.toNat / 16 : Nat) : Int) * 16 + ((c.toNat % 16 : Nat) : Int)) = c := by
  have h := u8i_val (((c.toNat / 16 : Nat) : Int) * 16 + ((c.toNat % 16 : Nat) : Int))
  have hc := c.toNat_lt
  exact UInt8.toNat_inj.1 (by omega)
set_option maxHeartbeats 16000000 in
theorem law_act (code : List UInt8) (wl : code.length ≤ maxLen) : ACtv TabT Tryd.prog 6 [bytesR code] (.bool true) := by
  have hB := big_ac code
  refine act_enter tabT_lasts Tryd.func6 rfl _ Tryd.ntmps6 (by simp) fun C hn hm hb => ?_
  by_cases hbig : (1048576 : Int) < code.length
  · repeat' (first
    | refine RunsL.step tabOk hn rfl ?_
    | refine RunsL.nil ?_
    | refine Runs.toRegion 30 rfl ?_
    | (refine RunsL.pe hn rfl rfl rfl ?_; first
      | refine ⟨_, pu_callR hB rfl, ?_⟩)
    | (refine Runs.ctls 30 rfl ?_; first | refine Runs.cond_t rfl ?_ | refine Runs.cond_f rfl ?_ | ((first | refine Runs.cond_yes rfl ?_ ?_ | refine Runs.cond_nno rfl ?_ ?_); · first | omega | rfl | assumption | (simp only [List.length_map]; omega)) | ((first | refine Runs.cond_no rfl ?_ ?_ | refine Runs.cond_nyes rfl ?_ ?_); · first | omega | rfl | assumption | (simp only [List.length_map]; omega)) | refine Runs.cond_dec rfl (fun h => ?_) (fun h => ?_) | refine Runs.cond_ndec rfl (fun h => ?_) (fun h => ?_) | refine Runs.cond_nb rfl (fun h => ?_) (fun h => ?_) | refine Runs.cond_b rfl (fun h => ?_) (fun h => ?_) | refine Runs.ret (ends_ro hm rfl rfl ?_) | exact Runs.ret (ends_cellR hm rfl rfl rfl (Nat.le_of_ble_eq_true rfl) rfl rfl))
    | refine op_box rfl (tl hn rfl) ?_
    | refine op_storeF rfl rfl rfl rfl (Nat.le_of_ble_eq_true rfl) ?_
    | refine op_alloc (tl hn rfl) ?_
    | refine op_storeN rfl rfl rfl rfl (Nat.le_of_ble_eq_true rfl) ?_
    | (refine RunsL.pe hn rfl rfl rfl ?_; first
      | refine ⟨_, pu_add rfl rfl (by omega), ?_⟩
      | refine ⟨_, pu_indexAddr_map rfl rfl (by omega) (by assumption), ?_⟩
      | refine ⟨_, pu_sub rfl rfl (by omega), ?_⟩
      | refine ⟨_, pu_pick_b rfl rfl rfl, ?_⟩
      | refine ⟨_, pu_mul rfl rfl (by omega), ?_⟩
      | refine ⟨_, pu_build rfl rfl rfl rfl rfl rfl, ?_⟩)
    | ((first | refine RunsL.guard_dec rfl rfl rfl ?_ ?_ | refine RunsL.guard_ndec rfl rfl rfl ?_ ?_ | refine RunsL.guard_nb rfl rfl rfl ?_ ?_ | refine RunsL.guard_b rfl rfl rfl ?_ ?_) <;> intro h <;> try (exfalso; first | omega | contradiction | (simp only [List.length_map] at h; omega))))
    all_goals exact rr_bool rfl
  have hl : code.length ≤ 1048576 := by omega
  obtain ⟨s, k, hs, k0, k1, hD⟩ := drawReadDigits_ac code hl
  have hsz : s.size ≤ 1048576 := by
    simp only [rdStrs, List.mem_cons, List.not_mem_nil, or_false] at hs
    rcases hs with rfl | rfl | rfl | rfl | rfl | rfl <;> decide
  have hI := impl_ReadDigits s hsz k (by omega)
  have hS := spec_ReadDigits s hsz k (by omega)
  have bd := rdD_bd s k
  generalize rdD s k = r at hI hS bd
  obtain ⟨r1, r2⟩ := r
  simp only at hI hS bd
  have A0 : ACv Tryd.prog 20 [bytesR code, .int 0] (.int ((atB code 0 : Nat) : Int)) := at_ac code hl 0 (by decide)
  have A1 : ACv Tryd.prog 20 [bytesR code, .int 1] (.int ((atB code 1 : Nat) : Int)) := at_ac code hl 1 (by decide)
  have hat : atB code 1 ≤ 255 := by
    unfold atB
    split
    · have := (code.getD 1 0).toNat_lt; omega
    · omega
  generalize hv1 : ((atB code 1 : Nat) : Int) = v1 at A1
  generalize hc : u8i ((atB code 0 : Nat) : Int) = c
  have hF := formatHex_ac c
  have hcl := c.toNat_lt
  have e4 : (⟨#[hexd (c.toNat / 16), hexd (c.toNat % 16), 48, 55]⟩ : ByteArray) ++ ⟨#[122]⟩ = ⟨#[hexd (c.toNat / 16), hexd (c.toNat % 16), 48, 55, 122]⟩ := by
    rw [show (⟨#[hexd (c.toNat / 16), hexd (c.toNat % 16), 48, 55]⟩ : ByteArray) = ⟨[hexd (c.toNat / 16), hexd (c.toNat % 16), 48, 55].toArray⟩ from rfl, ba_cat]; rfl
  have hR := readHex_ac ((⟨#[hexd (c.toNat / 16), hexd (c.toNat % 16), 48, 55]⟩ : ByteArray) ++ ⟨#[122]⟩) (c.toNat / 16) (c.toNat % 16) 0 7 (by omega) (by omega) (by decide) (by decide) (by rw [e4]; rfl) (by rw [e4]; rfl) (by rw [e4]; rfl) (by rw [e4]; rfl) (by rw [e4]; rfl)
  rw [nib_back, show u8i (((0 : Nat) : Int) * 16 + ((7 : Nat) : Int)) = 7 from rfl] at hR
  have hH : ACv Tryd.prog 18 [.str ((⟨#[hexd (c.toNat / 16), hexd (c.toNat % 16), 48, 55]⟩ : ByteArray) ++ ⟨#[122]⟩), .int 0] (.tup [bytesR [c, 7], .int 4]) :=
    hR.shut (by rintro _ rfl; simp only [Seals, SealsL]; exact ⟨_, rfl, _, _, rfl, ⟨[[.u8 c], [.u8 7]], rfl, rfl, by simp⟩, _, _, rfl, rfl, rfl⟩)
  have hI1 : I64 v1 := by omega
  have hT := impl_FormatNumberText v1 hI1 ⟨#[60]⟩ ⟨#[97]⟩ ⟨#[62]⟩ (by decide) (by decide) (by decide)
  have eT : ((fmtI v1 ++ ⟨#[60]⟩) ++ ⟨#[97]⟩) ++ ⟨#[62]⟩ = fmtI v1 ++ (⟨#[60, 97, 62]⟩ : ByteArray) := by
    rw [ByteArray.append_assoc, ByteArray.append_assoc]; rfl
  rw [eT] at hT
  have hN := spec_FormatInt v1 hI1
  have hNl := fmtI_len v1 hI1
  have hQ := sameBytes_ac [c, 7] (by simp)
  subst hc
  repeat' (first
    | (refine RunsL.pe hn rfl rfl rfl ?_; first
      | refine ⟨_, pu_eqlSame rfl rfl, ?_⟩)
    | refine RunsL.step tabOk hn rfl ?_
    | refine RunsL.nil ?_
    | refine Runs.toRegion 30 rfl ?_
    | (refine RunsL.pe hn rfl rfl rfl ?_; first
      | refine ⟨_, pu_callR hB rfl, ?_⟩
      | refine ⟨_, pu_callR hD rfl, ?_⟩
      | refine ⟨_, pu_callR hI rfl, ?_⟩
      | refine ⟨_, pu_callR hS rfl, ?_⟩
      | refine ⟨_, pu_callR A0 rfl, ?_⟩
      | refine ⟨_, pu_callR A1 rfl, ?_⟩
      | refine ⟨_, pu_toU8 rfl, ?_⟩
      | refine ⟨_, pu_build rfl rfl rfl rfl rfl rfl, ?_⟩
      | refine ⟨_, pu_callR hF rfl, ?_⟩
      | refine ⟨_, pu_cat rfl rfl (Nat.le_of_ble_eq_true rfl), ?_⟩
      | refine ⟨_, pu_callR hH rfl, ?_⟩
      | refine ⟨_, pu_callR hQ rfl, ?_⟩
      | refine ⟨_, pu_callW hb hT rfl, ?_⟩
      | refine ⟨_, pu_callR (r := .str (fmtI v1)) hN rfl, ?_⟩
      | refine ⟨_, pu_cat rfl rfl (by have e : (⟨#[60, 97, 62]⟩ : ByteArray).size = 3 := rfl; omega), ?_⟩)
    | (refine Runs.ctls 30 rfl ?_; first | refine Runs.cond_t rfl ?_ | refine Runs.cond_f rfl ?_ | ((first | refine Runs.cond_yes rfl ?_ ?_ | refine Runs.cond_nno rfl ?_ ?_); · first | omega | rfl | assumption | (simp only [List.length_map]; omega)) | ((first | refine Runs.cond_no rfl ?_ ?_ | refine Runs.cond_nyes rfl ?_ ?_); · first | omega | rfl | assumption | (simp only [List.length_map]; omega)) | refine Runs.cond_dec rfl (fun h => ?_) (fun h => ?_) | refine Runs.cond_ndec rfl (fun h => ?_) (fun h => ?_) | refine Runs.cond_nb rfl (fun h => ?_) (fun h => ?_) | refine Runs.cond_b rfl (fun h => ?_) (fun h => ?_) | refine Runs.ret (ends_ro hm rfl rfl ?_) | exact Runs.ret (ends_cellR hm rfl rfl rfl (Nat.le_of_ble_eq_true rfl) rfl rfl))
    | refine op_box rfl (tl hn rfl) ?_
    | refine op_storeF rfl rfl rfl rfl (Nat.le_of_ble_eq_true rfl) ?_
    | refine op_alloc (tl hn rfl) ?_
    | refine op_storeN rfl rfl rfl rfl (Nat.le_of_ble_eq_true rfl) ?_
    | (refine RunsL.pe hn rfl rfl rfl ?_; first
      | refine ⟨_, pu_add rfl rfl (by omega), ?_⟩
      | refine ⟨_, pu_indexAddr_map rfl rfl (by omega) (by assumption), ?_⟩
      | refine ⟨_, pu_sub rfl rfl (by omega), ?_⟩
      | refine ⟨_, pu_pick_b rfl rfl rfl, ?_⟩
      | refine ⟨_, pu_mul rfl rfl (by omega), ?_⟩
      | refine ⟨_, pu_build rfl rfl rfl rfl rfl rfl, ?_⟩)
    | ((first | refine RunsL.guard_dec rfl rfl rfl ?_ ?_ | refine RunsL.guard_ndec rfl rfl rfl ?_ ?_ | refine RunsL.guard_nb rfl rfl rfl ?_ ?_ | refine RunsL.guard_b rfl rfl rfl ?_ ?_) <;> intro h <;> try (exfalso; first | omega | contradiction | (simp only [List.length_map] at h; omega))))
  all_goals first | exact rr_bool rfl | exact rr_bool (by simp)
theorem tab_of {W : World} (h : laidMetH Tryd.prog Rows.fnDigitsRow.laid W) : TabT W := by
  rw [MakeChecks.laidMetH_plain _ _ _ (by kernel_rfl)] at h
  exact tabT_of (by kernel_rfl) h.tail.tail
theorem door_met (os : Os) (args : Array Value) : laidMetH Tryd.prog Rows.fnDigitsRow.laid ((World.doorLaid Tryd.prog 400 os).forCall (fun _ _ => 0) ⟨#[], args, []⟩).memory :=
  laidMetH_of_parts3 (fuel := 8) (laidMet_of_run' 8 (by kernel_rfl) (by kernel_rfl)) (by kernel_rfl) (by kernel_rfl)
set_option maxRecDepth 100000 in
theorem lifted (os : Os) (started : os.Started) (H : Type) (enc : TypeId × Value → H) :
    ReturnsInHanded {} Tryd.checked os 6 .any (fun w args => (Rows.fnDigitsSpec.pre enc Tryd.prog Tryd.f6 [] false w args ∧ laidMetH Tryd.prog Rows.fnDigitsRow.laid w) ∧ sizedMet enc Tryd.prog Tryd.f6 (OpenSpec.ofChange Rows.fnDigitsSpec) false w args)
      (Rows.fnDigitsSpec.post enc Tryd.prog Tryd.f6 false true false false) := by
  refine returnsInHanded_of_change_and (C := Tryd.checked) (X := fun w _ => laidMetH Tryd.prog Rows.fnDigitsRow.laid w) (fun _ _ _ hh h => h.of_heap hh) own started (by kernel_rfl) Tryd.func6
    (ChangeSpec.witness_shaped (enc := enc) (C := Tryd.checked) (os := os) (X := fun w _ => laidMetH Tryd.prog Rows.fnDigitsRow.laid w) false (World.doorLaid Tryd.prog 400 os) #[.slice none 0 0] 8 rfl (World.shaped_of_RefB (by kernel_rfl) (by kernel_rfl)) (by kernel_rfl) (by kernel_rfl) (by kernel_rfl) (door_met os _)) ?_
  intro W base args ds gs before hval0 hW _ _ hL _
  have hval : ∀ (j : Nat) t v, Tryd.f6.params[j]? = some t → args[j]? = some v → Value.okWide Tryd.prog W .any base t v := hval0
  have hW' := hW
  obtain ⟨p, q, hA0, hV, rfl, hfz, hnd⟩ := hW
  have hA : DataW.TrodAll enc Tryd.prog W 0 (fun _ => true) true Tryd.f6.params.toList args.toList ds p := hA0
  rw [Tryd.params6] at hA hval
  obtain ⟨v0, vs0, d0, ds0, p0, q0, hargs, rfl, rfl, h0, r0⟩ := trodAll_cons hA
  obtain ⟨rfl, rfl, rfl⟩ := trodAll_nil r0
  obtain rfl : args = #[v0] := by cases args; simp_all
  obtain ⟨rfl, rfl⟩ := trodVars_none hV
  have k0 := h0
  have lt0 : ∀ x ∈ p0, x.block < W.heap.size := by obtain ⟨m, hm⟩ := k0; exact DataW.trod_lt m _ _ _ hm
  obtain ⟨r0', t0, e0⟩ := open_slice1 plainsOk rfl Tryd.underlying32 (hval 0 32 v0 rfl rfl) h0
  obtain ⟨a0, q0, w0⟩ := t0.bytes Tryd.underlying32 Tryd.underlying5 (by kernel_rfl)
  injection q0 with q0; subst q0
  clear hA0 hval0
  refine (ACt.law (law_act a0 w0) W (tab_of hL) _ (cons_rels e0 nil_rels)).mono fun e W' ⟨he, bel⟩ => ?_
  subst he
  exact ⟨_, rfl, _, _, _, [], _, [], hW', trodAll_mk1 (shut_bool Tryd.underlying4 _), (trodAll_cons_mk (Below.trod laidOut (by kernel_rfl) (of_decide_eq_true (by kernel_rfl)) k0 bel lt0) trodAll_mk0), rfl, bel.frame _, fun h => by cases h⟩
theorem over : Rows.fnDigitsRow.holds Tryd.pinned (OpenSpec.ofChange Rows.fnDigitsSpec) :=
  OpenClaim.holds_of_wide 6 Tryd.f6 rfl rfl rfl rfl rfl rfl rfl ⟨rfl, rfl, rfl, rfl, rfl⟩ rfl rfl rfl rfl rfl (by kernel_rfl) Tryd.func6 (by kernel_rfl)
    (of_decide_eq_true (by kernel_rfl)) (by unfold Func.isWrapper; rw [if_neg (of_decide_eq_false (by kernel_rfl))]; exact ⟨rfl, rfl⟩)
    (fun os started H enc _ => lifted os started H enc)
/-- The statement: the card. -/
theorem proved : Rows.FnDigitsCardSaid :=
  Claim7.holds_tied_plain_at .later [] [.data, .data, .data] true Rows.fnDigitsCard.stood.harness false
    over (fun _ h => by cases h) (by kernel_rfl) (fun _ h => by cases h) fnDigits_row_tie rfl ⟨rfl, rfl⟩ (by kernel_rfl) rfl
    (fun f fn hf hfn => by
      obtain rfl : f = 6 := Option.some.inj ((show Tryd.prog.funcNamed Rows.fnDigitsRow.func = some 6 by kernel_rfl).symm.trans hf) |>.symm
      obtain rfl : fn = Tryd.f6 := (Option.some.inj (Tryd.func6.symm.trans hfn)).symm
      exact ⟨by kernel_rfl, fun j t ht => by
        rw [Tryd.params6] at ht
        have hm : t ∈ ([32] : List TypeId) := by simpa using Array.mem_of_getElem? ht
        have hall : (([32] : List TypeId).all fun u => !Tryd.prog.wantsStandIn u) = true := by kernel_rfl
        exact (show Tryd.prog.wantsStandIn t = false by simpa using List.all_eq_true.1 hall t hm)⟩)
    (by kernel_rfl)
#print axioms proved
end Go.Proofs.YtnbjncafoahclaaDoor.fnDigits
