/- Gathered texts. -/
import Derived.Test.YtnecoghfhcimeaaGat0
import Derived.Test.YtnecoghfhcimeaaGat1
import Derived.Test.YtnecoghfhcimeaaGat2
import Derived.Test.YtnecoghfhcimeaaGat3
import Derived.Test.YtnecoghfhcimeaaGat4
/- The draw of a value of a rule: terminated content; any kind; a drawn value. -/
namespace Go.Proofs.Ytnecoghfhcimeaa
set_option linter.unusedSimpArgs false
set_option linter.unusedVariables false
open Go.RowKit
open AV (Mem Keeps)
theorem mk_ten {d : Des} {r : Nat} {x : Rul} (hx : d[r]? = some x) (k : x.kind = 10) {l : List UInt8} (h : l.length ≤ 6) : MkV d r (.mk 0 l []) :=
  mk_flat hx (by omega) (by
    unfold OwnV; rw [if_neg (by omega), if_neg (by omega), if_neg (by omega), if_neg (by omega), if_pos k]
    exact ⟨rfl, by show l.length ≤ 400; omega, rfl⟩)
set_option maxHeartbeats 8000000 in
theorem l9Make10_d (b : List UInt8) (hb : b.length ≤ 1048576) (d : Des) (hD : DrawD d) (r : Nat) (x : Rul) (hx : d[(r : Int).toNat]? = some x) (k : x.kind = 10) (most : Int) (hmo : 0 ≤ most) : Drw Try.prog 123 66 b [desR d, .int (r : Int), .int most] (QTre (MkV d r)) := by
  have hx' : d[r]? = some x := hx
  obtain ⟨k', _, _, hr, hk', _, _⟩ := hD.kinds hx'
  obtain ⟨y0, hy0, hbk⟩ := hr.hbytes.2.1 (by omega)
  have hby : x.bytes[(0 : Int).toNat]? = some (u8i y0) := by rw [hbk]; rfl
  have hM := spec_Min most 6
  have hm6 : 0 ≤ mn most 6 ∧ mn most 6 ≤ 6 := by unfold mn; split <;> omega
  have hI1 := l1Int_d b hb [((u8i y0).toNat : Int), 92] (by simp) (by simp)
  refine drw_enter Try.func66 rfl _ Try.ntmps66 (by simp) fun C g u i h hn hm hu hi => ?_
  repeat' (first
 | (refine op_drawI (l1Below_d b hb _ (by omega)) rfl hu hi rfl (LendsPL.ros [.int _]) rfl (by first | rfl | repeat' (first | rfl | exact clns_ro _ | refine clnO_cons ?_ ?_)) (tl hn rfl) ?_; intro i h y hi hy; obtain ⟨n3, rfl, hn3⟩ : ∃ n3 : Nat, y = n3 ∧ n3 ≤ 6 := ⟨y.toNat, by unfold Bel at hy; omega, by unfold Bel at hy; omega⟩)
 | (refine op_drawO (l1Bytes_d b hb n3 (by omega)) rfl hu hi rfl rfl rfl (by first | rfl | repeat' (first | rfl | exact clns_ro _ | refine clnO_cons ?_ ?_)) (tl hn rfl) ?_; rintro i h _ hi ⟨z, rfl, hz⟩; rcases z with _ | ⟨c0, z⟩)
 | refine RunsL.guard_t rfl rfl rfl ?_
 | (refine op_drawB (l1Once_d b hb 2 (by decide)) rfl hu hi rfl (LendsPL.ros [.int 2]) rfl (by first | rfl | repeat' (first | rfl | exact clns_ro _ | refine clnO_cons ?_ ?_)) (tl hn rfl) ?_; intro i h y1 hi; cases y1)
 | refine Runs.toLate (id := 12) 30 [0, 1, 2, 3, 4, 5, 6, 7] [8, 9, 10, 11, 12] mixed rfl rfl (by kernel_rfl) (by kernel_rfl) (by kernel_rfl) ?_
 | (refine RunsP.drawI (t := 71) hI1 rfl hu hi (fun _ => LendsPL.ros [intsR [((u8i y0).toNat : Int), 92]]) rfl (by first | rfl | repeat' (first | rfl | exact clns_ro _ | refine clnO_cons ?_ ?_)) (tl hn rfl) ?_; intro i h y2 hi hy2)
 | refine RunsH.pur (fun _ _ => pu_auto tabOk rfl) rfl (tl hn rfl) rfl ?_
 | refine RunsH.pur (fun _ _ => pu_buildS rfl) rfl (tl hn rfl) rfl ?_
 | refine RunsH.pur (fun _ _ => pu_callR hM rfl) rfl (tl hn rfl) rfl ?_
 | refine RunsH.pur (fun _ _ => pu_add rfl rfl (by omega)) rfl (tl hn rfl) rfl ?_
 | refine RunsH.pur (fun _ _ => pu_len_own (n := 0) rfl rfl rfl) rfl (tl hn rfl) rfl ?_
 | refine RunsH.pur (fun _ _ => pu_len_own (n := z.length + 1) rfl rfl (by simp)) rfl (tl hn rfl) rfl ?_
 | refine RunsH.pur (fun _ _ => pu_build rfl rfl rfl rfl rfl rfl) rfl (tl hn rfl) rfl ?_
 | refine RunsH.pur (fun _ _ => pu_ofU8 rfl) rfl (tl hn rfl) rfl ?_
 | refine RunsH.pur (fun _ _ => pu_toU8 rfl) rfl (tl hn rfl) rfl ?_
 | refine RunsH.pur (fun _ _ => pu_indexAddr_own (n := z.length + 1) rfl rfl rfl rfl (by first | (simp; done) | (simp; omega)) (by omega) (by omega)) rfl (tl hn rfl) rfl ?_
 | refine RunsH.pur (fun _ _ => pu_add rfl rfl (by omega)) rfl (tl hn rfl) rfl ?_
 | refine RunsH.pur (fun _ _ => pu_indexAddr_map rfl rfl (by omega) (by assumption)) rfl (tl hn rfl) rfl ?_
 | refine RunsH.pur (fun _ _ => pu_build rfl rfl rfl rfl rfl rfl) rfl (tl hn rfl) rfl ?_
 | refine RunsH.nil ?_
 | refine RunsP.pur (pu_auto tabOk rfl) rfl rfl (tl hn rfl) (by first | rfl | repeat' (first | rfl | exact clns_ro _ | refine clnO_cons ?_ ?_)) ?_
 | refine RunsP.pur (pu_buildS rfl) rfl rfl (tl hn rfl) (by first | rfl | repeat' (first | rfl | exact clns_ro _ | refine clnO_cons ?_ ?_)) ?_
 | refine RunsP.pur (pu_callR hM rfl) rfl rfl (tl hn rfl) (by first | rfl | repeat' (first | rfl | exact clns_ro _ | refine clnO_cons ?_ ?_)) ?_
 | refine RunsP.pur (pu_add rfl rfl (by omega)) rfl rfl (tl hn rfl) (by first | rfl | repeat' (first | rfl | exact clns_ro _ | refine clnO_cons ?_ ?_)) ?_
 | refine RunsP.pur (pu_len_own (n := 0) rfl rfl rfl) rfl rfl (tl hn rfl) (by first | rfl | repeat' (first | rfl | exact clns_ro _ | refine clnO_cons ?_ ?_)) ?_
 | refine RunsP.pur (pu_len_own (n := z.length + 1) rfl rfl (by simp)) rfl rfl (tl hn rfl) (by first | rfl | repeat' (first | rfl | exact clns_ro _ | refine clnO_cons ?_ ?_)) ?_
 | refine RunsP.pur (pu_build rfl rfl rfl rfl rfl rfl) rfl rfl (tl hn rfl) (by first | rfl | repeat' (first | rfl | exact clns_ro _ | refine clnO_cons ?_ ?_)) ?_
 | refine RunsP.pur (pu_ofU8 rfl) rfl rfl (tl hn rfl) (by first | rfl | repeat' (first | rfl | exact clns_ro _ | refine clnO_cons ?_ ?_)) ?_
 | refine RunsP.pur (pu_toU8 rfl) rfl rfl (tl hn rfl) (by first | rfl | repeat' (first | rfl | exact clns_ro _ | refine clnO_cons ?_ ?_)) ?_
 | refine RunsP.pur (pu_indexAddr_own (n := z.length + 1) rfl rfl rfl rfl (by first | (simp; done) | (simp; omega)) (by omega) (by omega)) rfl rfl (tl hn rfl) (by first | rfl | repeat' (first | rfl | exact clns_ro _ | refine clnO_cons ?_ ?_)) ?_
 | refine RunsP.pur (pu_add rfl rfl (by omega)) rfl rfl (tl hn rfl) (by first | rfl | repeat' (first | rfl | exact clns_ro _ | refine clnO_cons ?_ ?_)) ?_
 | refine RunsP.pur (pu_indexAddr_map rfl rfl (by omega) (by assumption)) rfl rfl (tl hn rfl) (by first | rfl | repeat' (first | rfl | exact clns_ro _ | refine clnO_cons ?_ ?_)) ?_
 | refine RunsP.pur (pu_build rfl rfl rfl rfl rfl rfl) rfl rfl (tl hn rfl) (by first | rfl | repeat' (first | rfl | exact clns_ro _ | refine clnO_cons ?_ ?_)) ?_
 | refine RunsL.step tabOk hn rfl ?_
 | refine RunsL.nil ?_
 | refine Runs.toRegion 30 rfl ?_
 | refine op_storeF rfl rfl rfl rfl (by first | (simp; done) | (simp; omega)) ?_
 | refine RunsP.done 12 rfl (Nat.le_of_ble_eq_true rfl) (by kernel_rfl) (by kernel_rfl) ?_
 | ((first | refine RunsL.pe hn rfl rfl rfl ?_ | refine RunsD.pe rfl rfl ?_); first
 | refine ⟨_, pu_buildS rfl, ?_⟩
 | refine ⟨_, pu_callR hM rfl, ?_⟩
 | refine ⟨_, pu_add rfl rfl (by omega), ?_⟩
 | refine ⟨_, pu_len_own (n := 0) rfl rfl rfl, ?_⟩
 | refine ⟨_, pu_len_own (n := z.length + 1) rfl rfl (by simp), ?_⟩
 | refine ⟨_, pu_build rfl rfl rfl rfl rfl rfl, ?_⟩
 | refine ⟨_, pu_ofU8 rfl, ?_⟩
 | refine ⟨_, pu_toU8 rfl, ?_⟩
 | refine ⟨_, pu_indexAddr_own (n := z.length + 1) rfl rfl rfl rfl (by first | (simp; done) | (simp; omega)) (by omega) (by omega), ?_⟩)
 | (refine Runs.ctls 30 rfl ?_; first | refine Runs.cond_t rfl ?_ | refine Runs.cond_f rfl ?_ | ((first | refine Runs.cond_yes rfl ?_ ?_ | refine Runs.cond_nno rfl ?_ ?_); · first | omega | rfl | assumption | (simp only [List.length_map]; omega)) | ((first | refine Runs.cond_no rfl ?_ ?_ | refine Runs.cond_nyes rfl ?_ ?_); · first | omega | rfl | assumption | (simp only [List.length_map]; omega)) | refine Runs.ret (ends_ro hm rfl rfl ?_) | exact Runs.ret (ends_cellR hm rfl rfl rfl (Nat.le_of_ble_eq_true rfl) rfl rfl))
 | refine op_box rfl (tl hn rfl) ?_
 | refine op_storeF rfl rfl rfl rfl (Nat.le_of_ble_eq_true rfl) ?_
 | refine op_alloc (tl hn rfl) ?_
 | refine op_storeN rfl rfl rfl rfl (Nat.le_of_ble_eq_true rfl) ?_
 | ((first | refine RunsL.pe hn rfl rfl rfl ?_ | refine RunsD.pe rfl rfl ?_); first
 | refine ⟨_, pu_add rfl rfl (by omega), ?_⟩
 | refine ⟨_, pu_indexAddr_map rfl rfl (by omega) (by assumption), ?_⟩
 | refine ⟨_, pu_sub rfl rfl (by omega), ?_⟩
 | refine ⟨_, pu_pick_b rfl rfl rfl, ?_⟩
 | refine ⟨_, pu_mul rfl rfl (by omega), ?_⟩
 | refine ⟨_, pu_build rfl rfl rfl rfl rfl rfl, ?_⟩)
 | ((first | refine RunsL.guard_dec rfl rfl rfl ?_ ?_ | refine RunsL.guard_ndec rfl rfl rfl ?_ ?_ | refine RunsL.guard_nb rfl rfl rfl ?_ ?_ | refine RunsL.guard_b rfl rfl rfl ?_ ?_ | refine RunsD.guard_dec rfl rfl rfl ?_ ?_ | refine RunsD.guard_ndec rfl rfl rfl ?_ ?_ | refine RunsD.guard_nb rfl rfl rfl ?_ ?_ | refine RunsD.guard_b rfl rfl rfl ?_ ?_) <;> intro h <;> try (exfalso; first | omega | contradiction | (simp only [List.length_map] at h; omega))))
  all_goals first
    | refine Runs.nilCell (e := 29) (sz := 3) 2 2 (by decide) rfl rfl ?_
  all_goals first
    | exact Runs.ctls 30 rfl (Runs.ret (ends_tre (v := .mk 0 [] []) (j := 2) (x := 5) (y := 6) hm rfl rfl rfl hi rfl rfl rfl rfl (by decide) (by decide) (mk_ten hx' k (by simp))))
    | exact Runs.ctls 30 rfl (Runs.ret (ends_tre (v := .mk 0 (c0 :: z) []) (j := 2) (x := 5) (y := 6) hm rfl rfl rfl hi rfl rfl rfl rfl (by decide) (by decide) (mk_ten hx' k (by omega))))
    | exact Runs.ctls 30 rfl (Runs.ret (ends_tre (v := .mk 0 (u8i y2 :: z) []) (j := 2) (x := 5) (y := 6) hm rfl rfl rfl hi rfl rfl rfl rfl (by decide) (by decide) (mk_ten hx' k (by simp only [List.length_cons] at hz ⊢; omega))))
end Go.Proofs.Ytnecoghfhcimeaa
/- The draw of a value: any kind; a drawn value of a drawn description. -/
namespace Go.Proofs.Ytnecoghfhcimeaa
set_option linter.unusedSimpArgs false
set_option linter.unusedVariables false
open Go.RowKit
open AV (Mem Keeps)
theorem l9Make_d (b : List UInt8) (hb : b.length ≤ 1048576) (d : Des) (hD : DrawD d) : ∀ (r : Nat), r < d.length → ∀ most : Int, 0 ≤ most ∧ most ≤ 1048576 → Drw Try.prog 123 66 b [desR d, .int (r : Int), .int most] (QTre (MkV d r)) := by
  intro r
  induction r using Nat.strongRecOn with
  | ind r ih =>
  intro hr most hmo
  have hx : d[(r : Int).toNat]? = some _ := List.getElem?_eq_getElem (show (r : Int).toNat < d.length from hr)
  obtain ⟨k', k1, k2, _, hk', _, _⟩ := hD.kinds (show d[r]? = some _ from hx)
  have ih' : ∀ q : Nat, q < r → ∀ m : Int, 0 ≤ m ∧ m ≤ 1048576 → Drw Try.prog 123 66 b [desR d, .int (q : Int), .int m] (QTre (MkV d q)) := fun q hq m hm => ih q hq (by omega) m hm
  by_cases e1 : k' = 1
  · exact l9Make1_d b hb d hD r _ hx (by omega) most
  by_cases e2 : k' = 2
  · exact l9Make2_d b hb d hD r _ hx (by omega) most
  by_cases e3 : k' = 3
  · exact l9Make3_d b hb d hD r _ hx (by omega) most
  by_cases e4 : k' = 4
  · exact l9Make4_d b hb d hD r _ hx (by omega) most hmo.1
  by_cases e5 : k' = 5
  · exact l9Make5_d b hb d hD r _ hx (by omega) most hmo ih'
  by_cases e6 : k' = 6
  · exact l9Make6_d b hb d hD r _ hx (by omega) most hmo ih'
  by_cases e7 : k' = 7
  · exact l9Make7_d b hb d hD r _ hx (by omega) most hmo ih'
  by_cases e8 : k' = 8
  · exact l9Make8_d b hb d hD r _ hx (by omega) most hmo ih'
  by_cases e9 : k' = 9
  · exact l9Make9_d b hb d hD r _ hx (by omega) most hmo ih'
  · exact l9Make10_d b hb d hD r _ hx (by omega) most hmo.1
theorem l1Size_ac (b : List UInt8) (hb : b.length ≤ 1048576) : ∃ n : Int, 0 ≤ n ∧ n ≤ 8 ∧ ACv Try.prog 67 [bytesR b, .int 8] (.int n) := by
  have hbl : (b.map fun z => [RV.u8 z]).length = b.length := List.length_map ..
  by_cases h : (8 : Int) < 3 + (b.length : Int) / 12
  · refine ⟨8, by omega, by omega, ?_⟩
    refine ac_enter Try.func67 rfl _ Try.ntmps67 (by simp) fun C hn hm => ?_
    repeat' (first
 | refine RunsL.step tabOk hn rfl ?_
 | refine RunsL.nil ?_
 | refine Runs.toRegion 30 rfl ?_
 | (refine RunsL.pe hn rfl rfl rfl ?_; first
 | refine ⟨_, pu_quo rfl rfl (by omega), ?_⟩
 | refine ⟨_, pu_add rfl rfl (by omega), ?_⟩)
 | (refine Runs.ctls 30 rfl ?_; first | ((first | refine Runs.cond_yes rfl ?_ ?_ | refine Runs.cond_nno rfl ?_ ?_); · first | omega | rfl | assumption | (simp only [List.length_map]; omega)) | ((first | refine Runs.cond_no rfl ?_ ?_ | refine Runs.cond_nyes rfl ?_ ?_); · first | omega | rfl | assumption | (simp only [List.length_map]; omega)) | refine Runs.ret (ends_ro hm rfl rfl ?_) | exact Runs.ret (ends_cellR hm rfl rfl rfl (Nat.le_of_ble_eq_true rfl) rfl rfl))
 | (refine RunsL.pe hn rfl rfl rfl ?_; first
 | refine ⟨_, pu_add rfl rfl (by omega), ?_⟩
        ))
    all_goals first
      | exact rr_int rfl
      | (exfalso; omega)
  · refine ⟨3 + (b.length : Int) / 12, by omega, by omega, ?_⟩
    refine ac_enter Try.func67 rfl _ Try.ntmps67 (by simp) fun C hn hm => ?_
    repeat' (first
 | refine RunsL.step tabOk hn rfl ?_
 | refine RunsL.nil ?_
 | refine Runs.toRegion 30 rfl ?_
 | (refine RunsL.pe hn rfl rfl rfl ?_; first
 | refine ⟨_, pu_quo rfl rfl (by omega), ?_⟩
 | refine ⟨_, pu_add rfl rfl (by omega), ?_⟩)
 | (refine Runs.ctls 30 rfl ?_; first | ((first | refine Runs.cond_yes rfl ?_ ?_ | refine Runs.cond_nno rfl ?_ ?_); · first | omega | rfl | assumption | (simp only [List.length_map]; omega)) | ((first | refine Runs.cond_no rfl ?_ ?_ | refine Runs.cond_nyes rfl ?_ ?_); · first | omega | rfl | assumption | (simp only [List.length_map]; omega)) | refine Runs.ret (ends_ro hm rfl rfl ?_) | exact Runs.ret (ends_cellR hm rfl rfl rfl (Nat.le_of_ble_eq_true rfl) rfl rfl))
 | (refine RunsL.pe hn rfl rfl rfl ?_; first
 | refine ⟨_, pu_add rfl rfl (by omega), ?_⟩
        ))
    all_goals first
      | exact rr_int rfl
      | exact rr_int (by omega)
      | (exfalso; omega)
theorem ends2c {P : Program} {C : Ctx} {fn : Func} {R : RR → Prop} {S : St} {p1 p2 ty1 ty2 i1 i2 n1 n2 : Nat} {o1 o2 : Ob} {r1 r2 : List RV} [ht1 : TN P ty1 n1] [ht2 : TN P ty2 n2] (hm : ∀ b, ¬ C.mu b) (hr : fn.results = #[.cell p1 ty1, .cell p2 ty2]) (h1 : look S.env p1 = .obj i1 0) (k1 : S.σ[i1]? = some o1) (l1 : o1.cs = r1.map .ro) (m1 : n1 = r1.length) (h2 : look S.env p2 = .obj i2 0) (k2 : S.σ[i2]? = some o2) (l2 : o2.cs = r2.map .ro) (m2 : n2 = r2.length)
    (hR : R (.tup [.agg (r1.map .ro), .agg (r2.map .ro)])) : ∀ a w, Sim C S a w → Ends P C fn R a w := by
  have hv : ∀ rs : List RV, Harvs S.σ (rs.map .ro) (rs.map .ro) [] := fun rs => by
    induction rs with
    | nil => simp [Harvs]
    | cons r rs ih => simp only [List.map_cons, Harvs]; exact ⟨_, _, [], [], rfl, rfl, ⟨rfl, rfl⟩, ih⟩
  exact endsN hm (xs := [.cell p1 ty1, .cell p2 ty2]) hr (by simp) [.agg (r1.map .ro), .agg (r2.map .ro)] ⟨_, _, rfl, by
    simp only [ResV]; exact ⟨i1, 0, o1, h1, k1, .inr ⟨n1, ht1, by rw [l1, List.length_map]; omega, by rw [l1, List.drop_zero, List.take_of_length_le (by simp; omega)]⟩⟩, _, _, rfl, by
    simp only [ResV]; exact ⟨i2, 0, o2, h2, k2, .inr ⟨n2, ht2, by rw [l2, List.length_map]; omega, by rw [l2, List.drop_zero, List.take_of_length_le (by simp; omega)]⟩⟩, rfl⟩ [.agg (r1.map .ro), .agg (r2.map .ro)] [] (by
    simp only [Harvs, Harv]
    exact ⟨_, _, [], [], rfl, rfl, ⟨_, rfl, hv r1⟩, _, _, [], [], rfl, rfl, ⟨_, rfl, hv r2⟩, rfl, rfl⟩) (by simp) hR
def QVal (rr : RR) : Prop := ∃ d v, rr = .tup [.agg [.ro (rulsR d)], .agg [.ro (.int v.number), .ro (bytesR v.bytes), .ro (tresR v.items)]] ∧ DrawD d ∧ MkV d (d.length - 1) v
theorem qval_ok : ∀ rr, QVal rr → ∃ r, Seals rr r ∧ ∃ d v, r = .tup [desR d, treR v] ∧ DrawD d ∧ MkV d (d.length - 1) v := by
  rintro _ ⟨d, v, rfl, h1, h2⟩
  refine ⟨.tup [desR d, treR v], ?_, d, v, rfl, h1, h2⟩
  simp only [Seals, SealsL, desR, treR]
  exact ⟨_, rfl, _, _, rfl, ⟨_, rfl, _, _, rfl, rfl, rfl⟩, _, _, rfl, ⟨_, rfl, _, _, rfl, rfl, _, _, rfl, rfl, _, _, rfl, rfl, rfl⟩, rfl⟩
set_option maxHeartbeats 8000000 in
theorem drawValue_ac (b : List UInt8) (hb : b.length ≤ 1048576) : AC Try.prog 18 [bytesR b] QVal := by
  obtain ⟨n, hn0, hn8, hS⟩ := l1Size_ac b hb
  refine acu_enter Try.func18 rfl _ Try.ntmps18 (by simp) fun C u hn hm hu => ?_
  have hmu : ∀ x, C.mu x → x = 0 := fun x h => (hm x h).elim
  repeat' (first
 | (refine op_newU (l1New_u b hb) rfl hu (tl hn rfl) ?_; intro h hi)
 | (refine op_drawN (t := 9) (l4Description_d b hb) qdes_ok rfl hu hi rfl rfl rfl (by first | rfl | repeat' (first | rfl | exact clns_ro _ | refine clnO_cons ?_ ?_)) (tl hn rfl) ?_; rintro i h _ hi ⟨d, rfl, hD⟩; have hlm : (d.map rulR).length = d.length := List.length_map ..; have hdl := hD.good.1; have hd24 := hD.good.2.1; have hI := l9Make_d b hb d hD (d.length - 1) (by omega) (4 + n) (by omega); rw [show ((d.length - 1 : Nat) : Int) = ((d.map rulR).length : Int) - 1 by omega] at hI)
 | refine Runs.toLate (id := 3) 30 [0, 1, 2, 3, 4, 5, 6, 7, 8, 9] [10, 11, 12] mixed rfl rfl (by kernel_rfl) (by kernel_rfl) (by kernel_rfl) ?_
 | (refine RunsP.drawN (t := 20) hI qtre_ok rfl hu hi rfl rfl (by first | rfl | repeat' (first | rfl | exact clns_ro _ | refine clnO_cons ?_ ?_)) (tl hn rfl) ?_; rintro i h _ hi ⟨v, rfl, hv⟩)
 | refine RunsH.pur (fun _ _ => pu_auto tabOk rfl) rfl (tl hn rfl) rfl ?_
 | refine RunsH.pur (fun _ _ => pu_callL hS (.cons (Lends.know hu) (.cons .ro .nil))) rfl (tl hn rfl) rfl ?_
 | refine RunsH.pur (fun _ _ => pu_add rfl rfl (by omega)) rfl (tl hn rfl) rfl ?_
 | refine RunsH.pur (fun _ _ => pu_sub rfl rfl (by omega)) rfl (tl hn rfl) rfl ?_
 | refine RunsH.nil ?_
 | ((first | refine RunsL.pe hn rfl rfl rfl ?_ | refine RunsD.pe rfl rfl ?_); first
 | refine ⟨_, pu_len_seqN d.length rfl hlm, ?_⟩)
 | refine RunsL.step tabOk hn rfl ?_
 | refine RunsL.nil ?_
 | refine Runs.toRegion 30 rfl ?_
 | refine RunsP.done 11 rfl (Nat.le_of_ble_eq_true rfl) (by kernel_rfl) (by kernel_rfl) ?_
 | ((first | refine RunsL.pe hn rfl rfl rfl ?_ | refine RunsD.pe rfl rfl ?_); first
 | refine ⟨_, pu_callL hS (.cons (Lends.know hu) (.cons .ro .nil)), ?_⟩)
 | (refine Runs.ctls 30 rfl ?_; first | ((first | refine Runs.cond_yes rfl ?_ ?_ | refine Runs.cond_nno rfl ?_ ?_); · first | omega | rfl | assumption | (simp only [List.length_map]; omega)) | ((first | refine Runs.cond_no rfl ?_ ?_ | refine Runs.cond_nyes rfl ?_ ?_); · first | omega | rfl | assumption | (simp only [List.length_map]; omega)) | refine Runs.ret (ends_ro hm rfl rfl ?_) | exact Runs.ret (ends_cellR hm rfl rfl rfl (Nat.le_of_ble_eq_true rfl) rfl rfl))
 | refine op_alloc (tl hn rfl) ?_
 | refine op_storeN rfl rfl rfl rfl (Nat.le_of_ble_eq_true rfl) ?_
 | ((first | refine RunsL.pe hn rfl rfl rfl ?_ | refine RunsD.pe rfl rfl ?_); first
 | refine ⟨_, pu_add rfl rfl (by omega), ?_⟩
 | refine ⟨_, pu_indexAddr_map rfl rfl (by omega) (by assumption), ?_⟩
 | refine ⟨_, pu_sub rfl rfl (by omega), ?_⟩
 | refine ⟨_, pu_pick_b rfl rfl rfl, ?_⟩
 | refine ⟨_, pu_mul rfl rfl (by omega), ?_⟩
 | refine ⟨_, pu_build rfl rfl rfl rfl rfl rfl, ?_⟩))
  exact Runs.ctls 30 rfl (Runs.ret (ends2c (r1 := [rulsR d]) (r2 := [.int v.number, bytesR v.bytes, tresR v.items]) hm rfl rfl rfl rfl rfl rfl rfl rfl rfl ⟨d, v, rfl, hD, hv⟩))
end Go.Proofs.Ytnecoghfhcimeaa
/- impl.DefaultValue of a drawn description: a value of the rule. -/
namespace Go.Proofs.Ytnecoghfhcimeaa
set_option linter.unusedSimpArgs false
set_option linter.unusedVariables false
open Go.RowKit
open AV (Mem Keeps)
theorem pick_kids {r : Nat} (P : Nat → Tre → Prop) (hP : ∀ q : Nat, q < r → ∃ y, P q y) : ∀ ks : List Int, (∀ z ∈ ks, 0 ≤ z ∧ z < r) → ∃ ws : List Tre, ws.length = ks.length ∧ ∀ (j : Nat) z y, ks[j]? = some z → ws[j]? = some y → P z.toNat y
  | [], _ => ⟨[], rfl, by simp⟩
  | z :: ks, h => by
    obtain ⟨ws, h1, h2⟩ := pick_kids P hP ks fun z hz => h z (List.mem_cons_of_mem _ hz)
    have hz := h z List.mem_cons_self
    obtain ⟨y, hy⟩ := hP z.toNat (by omega)
    refine ⟨y :: ws, by simp [h1], fun j z' y' hj hj' => ?_⟩
    cases j with
    | zero => simp at hj hj'; subst hj; subst hj'; exact hy
    | succ j => simp at hj hj'; exact h2 j _ _ hj hj'
theorem ownV0 {d : Des} {r : Nat} {x : Rul} (hD : DrawD d) (hx : d[r]? = some x) (h : x.kind ≠ 3 ∧ x.kind ≠ 6 ∧ x.kind ≠ 7 ∧ x.kind ≠ 9) : OwnV d x (.mk 0 [] []) := by
  obtain ⟨k', k1, k2, hr, hk', _, _⟩ := hD.kinds hx
  have hp : x.kind = 1 → 0 ≤ pow8 x.size - 1 := fun e => by
    have := hr.hsize.1 (by omega)
    have := @pow8_ge x.size (by omega)
    omega
  have hm : ∀ a : Int, (x.kind = 4 ∨ x.kind = 5) → 0 ≤ a → 0 ≤ mn a (lim d (x.kids.headD 0)) := fun a e ha => by
    have : 255 ≤ lim d (x.kids.headD 0) := by
      rcases e with e | e
      · obtain ⟨z, hz, hkd⟩ := hr.hkids.1 (by omega)
        rw [hkd]; exact hD.int hz.up.1
      · obtain ⟨z, y, hz, _, hkd⟩ := hr.hkids.2.1 (by omega)
        rw [hkd]; exact hD.int hz.up.1
    unfold mn; split <;> omega
  unfold OwnV
  split
  · rename_i e; have := hp e; exact ⟨⟨Int.le_refl _, this⟩, rfl, rfl⟩
  split
  · exact ⟨rfl, rfl, rfl⟩
  rw [if_neg h.1]
  split
  · rename_i e; exact ⟨rfl, hm 400 (.inl e) (by omega), rfl⟩
  split
  · exact ⟨rfl, Nat.zero_le _, rfl⟩
  split
  · rename_i e; exact ⟨rfl, rfl, hm 40 (.inr e) (by omega)⟩
  rw [if_neg h.2.1, if_neg h.2.2.1]
  split
  · exact ⟨rfl, rfl, Nat.zero_le _⟩
  · omega
set_option maxHeartbeats 8000000 in
theorem dv_zero {d : Des} (hD : DrawD d) (r : Nat) (x : Rul) (hx : d[(r : Int).toNat]? = some x) (h : x.kind ≠ 3 ∧ x.kind ≠ 6 ∧ x.kind ≠ 7 ∧ x.kind ≠ 9) : ACv Try.prog 69 [desR d, .int (r : Int)] (treR (.mk 0 [] [])) := by
  obtain ⟨h3, h6, h7, h9⟩ := h
  refine ac_enter Try.func69 rfl _ Try.ntmps69 (by simp) fun C hn hm => ?_
  repeat' (first
 | refine RunsL.step tabOk hn rfl ?_
 | refine RunsL.nil ?_
 | refine Runs.toRegion 30 rfl ?_
 | ((first | refine RunsL.pe hn rfl rfl rfl ?_ | refine RunsD.pe rfl rfl ?_); first
 | refine ⟨_, pu_buildS rfl, ?_⟩)
 | (refine Runs.ctls 30 rfl ?_; first | ((first | refine Runs.cond_yes rfl ?_ ?_ | refine Runs.cond_nno rfl ?_ ?_); · first | omega | rfl | assumption | (simp only [List.length_map]; omega)) | ((first | refine Runs.cond_no rfl ?_ ?_ | refine Runs.cond_nyes rfl ?_ ?_); · first | omega | rfl | assumption | (simp only [List.length_map]; omega)) | refine Runs.ret (ends_ro hm rfl rfl ?_) | exact Runs.ret (ends_cellR hm rfl rfl rfl (Nat.le_of_ble_eq_true rfl) rfl rfl))
 | refine op_box rfl (tl hn rfl) ?_
 | refine op_alloc (tl hn rfl) ?_
 | refine op_storeN rfl rfl rfl rfl (Nat.le_of_ble_eq_true rfl) ?_
 | ((first | refine RunsL.pe hn rfl rfl rfl ?_ | refine RunsD.pe rfl rfl ?_); first
 | refine ⟨_, pu_add rfl rfl (by omega), ?_⟩
 | refine ⟨_, pu_indexAddr_map rfl rfl (by omega) (by assumption), ?_⟩
 | refine ⟨_, pu_sub rfl rfl (by omega), ?_⟩
 | refine ⟨_, pu_pick_b rfl rfl rfl, ?_⟩
 | refine ⟨_, pu_mul rfl rfl (by omega), ?_⟩
 | refine ⟨_, pu_build rfl rfl rfl rfl rfl rfl, ?_⟩))
  exact Runs.ctls 30 rfl (Runs.ret (ends_lend (r := treR (.mk 0 [] [])) hm rfl (v := .agg [.int 0, .nil, .nil]) ⟨1, 0, _, rfl, rfl, .inr ⟨3, inferInstance, Nat.le_of_ble_eq_true rfl, rfl⟩⟩ rfl (Lends.agg (.cons .ro (.cons (Lends.nil 1) (.cons (Lends.nil 3) .nil))))))
set_option maxHeartbeats 8000000 in
theorem dv_3 {d : Des} (hD : DrawD d) (r : Nat) (x : Rul) (hx : d[(r : Int).toNat]? = some x) (k : x.kind = 3) (n : Nat) (hn3 : x.size = n) (hn4 : n ≤ 10) : ACv Try.prog 69 [desR d, .int (r : Int)] (treR (.mk 0 (List.replicate n 0) [])) := by
  obtain ⟨nm, kd, sz, lt, bs, ns, ts, ks⟩ := x
  simp only at hn3 k
  subst hn3
  refine ac_enter Try.func69 rfl _ Try.ntmps69 (by simp) fun C hn hm => ?_
  repeat' (first
 | refine RunsL.step tabOk hn rfl ?_
 | refine RunsL.nil ?_
 | refine Runs.toRegion 30 rfl ?_
 | refine op_make1 (n := n) rfl rfl rfl rfl (by omega) (by unfold maxLen; omega) (tl hn rfl) ?_
 | ((first | refine RunsL.pe hn rfl rfl rfl ?_ | refine RunsD.pe rfl rfl ?_); first
 | refine ⟨_, pu_buildS rfl, ?_⟩)
 | (refine Runs.ctls 30 rfl ?_; first | ((first | refine Runs.cond_yes rfl ?_ ?_ | refine Runs.cond_nno rfl ?_ ?_); · first | omega | rfl | assumption | (simp only [List.length_map]; omega)) | ((first | refine Runs.cond_no rfl ?_ ?_ | refine Runs.cond_nyes rfl ?_ ?_); · first | omega | rfl | assumption | (simp only [List.length_map]; omega)) | refine Runs.ret (ends_ro hm rfl rfl ?_) | exact Runs.ret (ends_cellR hm rfl rfl rfl (Nat.le_of_ble_eq_true rfl) rfl rfl))
 | refine op_box rfl (tl hn rfl) ?_
 | refine op_alloc (tl hn rfl) ?_
 | refine op_storeN rfl rfl rfl rfl (Nat.le_of_ble_eq_true rfl) ?_
 | ((first | refine RunsL.pe hn rfl rfl rfl ?_ | refine RunsD.pe rfl rfl ?_); first
 | refine ⟨_, pu_add rfl rfl (by omega), ?_⟩
 | refine ⟨_, pu_indexAddr_map rfl rfl (by omega) (by assumption), ?_⟩
 | refine ⟨_, pu_sub rfl rfl (by omega), ?_⟩
 | refine ⟨_, pu_pick_b rfl rfl rfl, ?_⟩
 | refine ⟨_, pu_mul rfl rfl (by omega), ?_⟩
 | refine ⟨_, pu_build rfl rfl rfl rfl rfl rfl, ?_⟩))
  exact Runs.ctls 30 rfl (Runs.ret (ends_lend (r := treR (.mk 0 (List.replicate n 0) [])) hm rfl (v := .agg [.int 0, .own 3, .nil]) ⟨1, 0, _, rfl, rfl, .inr ⟨3, inferInstance, Nat.le_of_ble_eq_true rfl, rfl⟩⟩ rfl (Lends.agg (.cons .ro (.cons (Lends.own (i := 3) (o := ⟨5, 1, (List.replicate n (RV.c (.int .u8 0))).map .ro⟩) (els := (List.replicate n (0 : UInt8)).map fun z => [RV.u8 z]) rfl (by simp) fun x hx => by obtain ⟨y, _, rfl⟩ := List.mem_map.1 hx; rfl) (.cons (Lends.nil 3) .nil))))))
set_option maxHeartbeats 8000000 in
theorem dv_7 {d : Des} (hD : DrawD d) (r : Nat) (x : Rul) (hx : d[(r : Int).toNat]? = some x) (k : x.kind = 7) (tg : Int) (q : Nat) (w : Tre) (ht : x.tags[(0 : Int).toNat]? = some tg) (hq : x.kids[(1 : Int).toNat]? = some (q : Int)) (hw : ACv Try.prog 69 [desR d, .int (q : Int)] (treR w)) : ACv Try.prog 69 [desR d, .int (r : Int)] (treR (.mk tg [] [w])) := by
  refine ac_enter Try.func69 rfl _ Try.ntmps69 (by simp) fun C hn hm => ?_
  repeat' (first
 | refine Runs.toDrawT (id := 14) 30 [] [0, 1, 2, 3, 4, 5, 6, 7, 8, 9, 10, 11] 12 [] mixed hn rfl (by kernel_rfl) rfl .nil (by decide) (by decide) (by decide) ?_
 | refine RunsT.nil ?_
 | refine RunsT.nil ?_
 | refine RunsT.step tabOk rfl rfl (fun _ => rfl) (by decide) ?_
 | refine RunsT.pur (fun _ => pu_callR hw rfl) (by decide) rfl rfl ?_
 | refine RunsT.pur (fun _ => pu_build rfl rfl rfl rfl rfl rfl) (by decide) rfl rfl ?_
 | refine RunsT.pur (fun _ => pu_buildS rfl) (by decide) rfl rfl ?_
 | refine RunsT.pur (fun _ => pu_indexAddr_map rfl rfl (by omega) (by assumption)) (by decide) rfl rfl ?_
 | refine RunsL.step tabOk hn rfl ?_
 | refine RunsL.nil ?_
 | refine Runs.toRegion 30 rfl ?_
 | ((first | refine RunsL.pe hn rfl rfl rfl ?_ | refine RunsD.pe rfl rfl ?_); first
 | refine ⟨_, pu_callR hw rfl, ?_⟩
 | refine ⟨_, pu_build rfl rfl rfl rfl rfl rfl, ?_⟩
 | refine ⟨_, pu_buildS rfl, ?_⟩)
 | (refine Runs.ctls 30 rfl ?_; first | ((first | refine Runs.cond_yes rfl ?_ ?_ | refine Runs.cond_nno rfl ?_ ?_); · first | omega | rfl | assumption | (simp only [List.length_map]; omega)) | ((first | refine Runs.cond_no rfl ?_ ?_ | refine Runs.cond_nyes rfl ?_ ?_); · first | omega | rfl | assumption | (simp only [List.length_map]; omega)) | refine Runs.ret (ends_ro hm rfl rfl ?_) | exact Runs.ret (ends_cellR hm rfl rfl rfl (Nat.le_of_ble_eq_true rfl) rfl rfl))
 | refine op_box rfl (tl hn rfl) ?_
 | refine op_alloc (tl hn rfl) ?_
 | refine op_storeN rfl rfl rfl rfl (Nat.le_of_ble_eq_true rfl) ?_
 | ((first | refine RunsL.pe hn rfl rfl rfl ?_ | refine RunsD.pe rfl rfl ?_); first
 | refine ⟨_, pu_add rfl rfl (by omega), ?_⟩
 | refine ⟨_, pu_indexAddr_map rfl rfl (by omega) (by assumption), ?_⟩
 | refine ⟨_, pu_sub rfl rfl (by omega), ?_⟩
 | refine ⟨_, pu_pick_b rfl rfl rfl, ?_⟩
 | refine ⟨_, pu_mul rfl rfl (by omega), ?_⟩
 | refine ⟨_, pu_build rfl rfl rfl rfl rfl rfl, ?_⟩))
  repeat' (first
 | refine RunsL.step tabOk hn rfl ?_
 | refine RunsL.nil ?_
 | refine Runs.toRegion 30 rfl ?_
 | (refine Runs.ctls 30 rfl ?_; first | ((first | refine Runs.cond_yes rfl ?_ ?_ | refine Runs.cond_nno rfl ?_ ?_); · first | omega | rfl | assumption | (simp only [List.length_map]; omega)) | ((first | refine Runs.cond_no rfl ?_ ?_ | refine Runs.cond_nyes rfl ?_ ?_); · first | omega | rfl | assumption | (simp only [List.length_map]; omega)) | refine Runs.ret (ends_ro hm rfl rfl ?_) | exact Runs.ret (ends_cellR hm rfl rfl rfl (Nat.le_of_ble_eq_true rfl) rfl rfl))
 | refine op_box rfl (tl hn rfl) ?_
 | refine op_alloc (tl hn rfl) ?_
 | refine op_storeN rfl rfl rfl rfl (Nat.le_of_ble_eq_true rfl) ?_
 | ((first | refine RunsL.pe hn rfl rfl rfl ?_ | refine RunsD.pe rfl rfl ?_); first
 | refine ⟨_, pu_add rfl rfl (by omega), ?_⟩
 | refine ⟨_, pu_indexAddr_map rfl rfl (by omega) (by assumption), ?_⟩
 | refine ⟨_, pu_sub rfl rfl (by omega), ?_⟩
 | refine ⟨_, pu_pick_b rfl rfl rfl, ?_⟩
 | refine ⟨_, pu_mul rfl rfl (by omega), ?_⟩
 | refine ⟨_, pu_build rfl rfl rfl rfl rfl rfl, ?_⟩))
  have hv1 : tresR [w] = .seq 3 [[.int w.number, bytesR w.bytes, tresR w.items]] := by unfold tresR; simp [Tre.cells_eq, tresR]
  refine Runs.ctls 30 rfl ?_
  refine Runs.ret ?_
  refine ends_lend (r := treR (.mk tg [] [w])) (v := .agg [.int tg, .nil, .ro (tresR [w])]) hm rfl ?_ rfl (Lends.agg (.cons .ro (.cons (Lends.nil 1) (.cons .ro .nil))))
  rw [hv1]
  exact ⟨1, 0, _, rfl, rfl, .inr ⟨3, inferInstance, Nat.le_of_ble_eq_true rfl, rfl⟩⟩
set_option maxHeartbeats 8000000 in
theorem dv_9 {d : Des} (hD : DrawD d) (r : Nat) (x : Rul) (hx : d[(r : Int).toNat]? = some x) (k : x.kind = 9) (q : Nat) (w : Tre) (hq : x.kids[(0 : Int).toNat]? = some (q : Int)) (hw : ACv Try.prog 69 [desR d, .int (q : Int)] (treR w)) : ACv Try.prog 69 [desR d, .int (r : Int)] (treR (.mk 0 [] [w])) := by
  refine ac_enter Try.func69 rfl _ Try.ntmps69 (by simp) fun C hn hm => ?_
  repeat' (first
 | refine Runs.toDrawT (id := 16) 30 [] [0, 1, 2, 3, 4, 5, 6, 7] 8 [] mixed hn rfl (by kernel_rfl) rfl .nil (by decide) (by decide) (by decide) ?_
 | refine RunsT.nil ?_
 | refine RunsT.nil ?_
 | refine RunsT.step tabOk rfl rfl (fun _ => rfl) (by decide) ?_
 | refine RunsT.pur (fun _ => pu_callR hw rfl) (by decide) rfl rfl ?_
 | refine RunsT.pur (fun _ => pu_build rfl rfl rfl rfl rfl rfl) (by decide) rfl rfl ?_
 | refine RunsT.pur (fun _ => pu_buildS rfl) (by decide) rfl rfl ?_
 | refine RunsT.pur (fun _ => pu_indexAddr_map rfl rfl (by omega) (by assumption)) (by decide) rfl rfl ?_
 | refine RunsL.step tabOk hn rfl ?_
 | refine RunsL.nil ?_
 | refine Runs.toRegion 30 rfl ?_
 | ((first | refine RunsL.pe hn rfl rfl rfl ?_ | refine RunsD.pe rfl rfl ?_); first
 | refine ⟨_, pu_callR hw rfl, ?_⟩
 | refine ⟨_, pu_build rfl rfl rfl rfl rfl rfl, ?_⟩
 | refine ⟨_, pu_buildS rfl, ?_⟩)
 | (refine Runs.ctls 30 rfl ?_; first | ((first | refine Runs.cond_yes rfl ?_ ?_ | refine Runs.cond_nno rfl ?_ ?_); · first | omega | rfl | assumption | (simp only [List.length_map]; omega)) | ((first | refine Runs.cond_no rfl ?_ ?_ | refine Runs.cond_nyes rfl ?_ ?_); · first | omega | rfl | assumption | (simp only [List.length_map]; omega)) | refine Runs.ret (ends_ro hm rfl rfl ?_) | exact Runs.ret (ends_cellR hm rfl rfl rfl (Nat.le_of_ble_eq_true rfl) rfl rfl))
 | refine op_box rfl (tl hn rfl) ?_
 | refine op_alloc (tl hn rfl) ?_
 | refine op_storeN rfl rfl rfl rfl (Nat.le_of_ble_eq_true rfl) ?_
 | ((first | refine RunsL.pe hn rfl rfl rfl ?_ | refine RunsD.pe rfl rfl ?_); first
 | refine ⟨_, pu_add rfl rfl (by omega), ?_⟩
 | refine ⟨_, pu_indexAddr_map rfl rfl (by omega) (by assumption), ?_⟩
 | refine ⟨_, pu_sub rfl rfl (by omega), ?_⟩
 | refine ⟨_, pu_pick_b rfl rfl rfl, ?_⟩
 | refine ⟨_, pu_mul rfl rfl (by omega), ?_⟩
 | refine ⟨_, pu_build rfl rfl rfl rfl rfl rfl, ?_⟩))
  repeat' (first
 | refine RunsL.step tabOk hn rfl ?_
 | refine RunsL.nil ?_
 | refine Runs.toRegion 30 rfl ?_
 | (refine Runs.ctls 30 rfl ?_; first | ((first | refine Runs.cond_yes rfl ?_ ?_ | refine Runs.cond_nno rfl ?_ ?_); · first | omega | rfl | assumption | (simp only [List.length_map]; omega)) | ((first | refine Runs.cond_no rfl ?_ ?_ | refine Runs.cond_nyes rfl ?_ ?_); · first | omega | rfl | assumption | (simp only [List.length_map]; omega)) | refine Runs.ret (ends_ro hm rfl rfl ?_) | exact Runs.ret (ends_cellR hm rfl rfl rfl (Nat.le_of_ble_eq_true rfl) rfl rfl))
 | refine op_box rfl (tl hn rfl) ?_
 | refine op_alloc (tl hn rfl) ?_
 | refine op_storeN rfl rfl rfl rfl (Nat.le_of_ble_eq_true rfl) ?_
 | ((first | refine RunsL.pe hn rfl rfl rfl ?_ | refine RunsD.pe rfl rfl ?_); first
 | refine ⟨_, pu_add rfl rfl (by omega), ?_⟩
 | refine ⟨_, pu_indexAddr_map rfl rfl (by omega) (by assumption), ?_⟩
 | refine ⟨_, pu_sub rfl rfl (by omega), ?_⟩
 | refine ⟨_, pu_pick_b rfl rfl rfl, ?_⟩
 | refine ⟨_, pu_mul rfl rfl (by omega), ?_⟩
 | refine ⟨_, pu_build rfl rfl rfl rfl rfl rfl, ?_⟩))
  have hv1 : tresR [w] = .seq 3 [[.int w.number, bytesR w.bytes, tresR w.items]] := by unfold tresR; simp [Tre.cells_eq, tresR]
  refine Runs.ctls 30 rfl ?_
  refine Runs.ret ?_
  refine ends_lend (r := treR (.mk 0 [] [w])) (v := .agg [.int 0, .nil, .ro (tresR [w])]) hm rfl ?_ rfl (Lends.agg (.cons .ro (.cons (Lends.nil 1) (.cons .ro .nil))))
  rw [hv1]
  exact ⟨1, 0, _, rfl, rfl, .inr ⟨3, inferInstance, Nat.le_of_ble_eq_true rfl, rfl⟩⟩
set_option maxHeartbeats 8000000 in
theorem dv_6 {d : Des} (hD : DrawD d) (r : Nat) (x : Rul) (hx : d[(r : Int).toNat]? = some x) (k : x.kind = 6) (ws : List Tre) (hl : ws.length = x.kids.length) (hl4 : x.kids.length ≤ 10) (hw : ∀ (j : Nat) z y, x.kids[j]? = some z → ws[j]? = some y → ACv Try.prog 69 [desR d, .int z] (treR y)) : ACv Try.prog 69 [desR d, .int (r : Int)] (treR (.mk 0 [] ws)) := by
  have hkk : (x.kids.map fun z => [RV.int z]).length = x.kids.length := List.length_map ..
  refine ac_enter Try.func69 rfl _ Try.ntmps69 (by simp) fun C hn hm => ?_
  repeat' (first
 | ((first | refine RunsL.pe hn rfl rfl rfl ?_ | refine RunsD.pe rfl rfl ?_); first
 | refine ⟨_, pu_len_seqN x.kids.length rfl hkk, ?_⟩)
 | refine RunsL.step tabOk hn rfl ?_
 | refine RunsL.nil ?_
 | refine Runs.toRegion 30 rfl ?_
 | ((first | refine RunsL.pe hn rfl rfl rfl ?_ | refine RunsD.pe rfl rfl ?_); first
 | refine ⟨_, pu_buildS rfl, ?_⟩)
 | (refine Runs.ctls 30 rfl ?_; first | ((first | refine Runs.cond_yes rfl ?_ ?_ | refine Runs.cond_nno rfl ?_ ?_); · first | omega | rfl | assumption | (simp only [List.length_map]; omega)) | ((first | refine Runs.cond_no rfl ?_ ?_ | refine Runs.cond_nyes rfl ?_ ?_); · first | omega | rfl | assumption | (simp only [List.length_map]; omega)) | refine Runs.ret (ends_ro hm rfl rfl ?_) | exact Runs.ret (ends_cellR hm rfl rfl rfl (Nat.le_of_ble_eq_true rfl) rfl rfl))
 | refine op_box rfl (tl hn rfl) ?_
 | refine op_storeF rfl rfl rfl rfl (Nat.le_of_ble_eq_true rfl) ?_
 | refine op_alloc (tl hn rfl) ?_
 | refine op_storeN rfl rfl rfl rfl (Nat.le_of_ble_eq_true rfl) ?_
 | ((first | refine RunsL.pe hn rfl rfl rfl ?_ | refine RunsD.pe rfl rfl ?_); first
 | refine ⟨_, pu_add rfl rfl (by omega), ?_⟩
 | refine ⟨_, pu_indexAddr_map rfl rfl (by omega) (by assumption), ?_⟩
 | refine ⟨_, pu_sub rfl rfl (by omega), ?_⟩
 | refine ⟨_, pu_pick_b rfl rfl rfl, ?_⟩
 | refine ⟨_, pu_mul rfl rfl (by omega), ?_⟩
 | refine ⟨_, pu_build rfl rfl rfl rfl rfl rfl, ?_⟩))
  refine Runs.nilCell (e := 29) (sz := 3) 3 2 (by decide) rfl rfl ?_
  refine Runs.ctls 30 rfl ?_
  refine Runs.loopN 30 rfl (fun j => [(2, .obj 0 0), (4, .obj 1 0), (5, .obj 2 0), (6, .obj 3 0), (26, .ro (intsR x.kids)), (27, .int x.kids.length), (28, .int (j : Int))]) (fun j => [⟨38, 0, [.ro (rulsR d)]⟩, ⟨29, 0, [.int 0, .nil, .nil]⟩, ⟨52, 0, (rulR x).map .ro⟩, ⟨29, 0, [.int 0, .nil, .own 4]⟩, ⟨29, 3, ((ws.take j).flatMap Tre.cells).map .ro⟩]) (fun _ => True) ws.length 0 (Nat.zero_le _) trivial ⟨rfl, rfl, rfl, rfl, rfl, rfl, rfl, trivial⟩ rfl fun j hj _ next => ?_
  by_cases hlt : j < ws.length
  · obtain ⟨z, hz⟩ : ∃ z, x.kids[(j : Int).toNat]? = some z := ⟨_, List.getElem?_eq_getElem (by omega)⟩
    have hy : ws[j]? = some _ := List.getElem?_eq_getElem hlt
    have hcall := hw j z _ hz hy
    generalize hey : ws[j] = y at hy hcall
    repeat' (first
 | refine Runs.toDrawT (id := 10) 30 [] [0, 1, 2, 3, 4, 5] 6 [] mixed hn rfl (by kernel_rfl) rfl .nil (by decide) (by decide) (by decide) ?_
 | refine RunsT.nil ?_
 | refine RunsT.nil ?_
 | refine RunsT.step tabOk rfl rfl (fun _ => rfl) (by decide) ?_
 | refine RunsT.pur (fun _ => pu_callR hcall rfl) (by decide) rfl rfl ?_
 | refine RunsT.pur (fun _ => pu_build rfl rfl rfl rfl rfl rfl) (by decide) rfl rfl ?_
 | refine RunsT.pur (fun _ => pu_add rfl rfl (by omega)) (by decide) rfl rfl ?_
 | refine RunsT.pur (fun _ => pu_indexAddr_map rfl rfl (by omega) (by assumption)) (by decide) rfl rfl ?_
 | refine RunsL.step tabOk hn rfl ?_
 | refine RunsL.nil ?_
 | refine Runs.toRegion 30 rfl ?_
 | ((first | refine RunsL.pe hn rfl rfl rfl ?_ | refine RunsD.pe rfl rfl ?_); first
 | refine ⟨_, pu_callR hcall rfl, ?_⟩
 | refine ⟨_, pu_build rfl rfl rfl rfl rfl rfl, ?_⟩)
 | (refine Runs.ctls 30 rfl ?_; first | ((first | refine Runs.cond_yes rfl ?_ ?_ | refine Runs.cond_nno rfl ?_ ?_); · first | omega | rfl | assumption | (simp only [List.length_map]; omega)) | ((first | refine Runs.cond_no rfl ?_ ?_ | refine Runs.cond_nyes rfl ?_ ?_); · first | omega | rfl | assumption | (simp only [List.length_map]; omega)) | refine Runs.ret (ends_ro hm rfl rfl ?_) | exact Runs.ret (ends_cellR hm rfl rfl rfl (Nat.le_of_ble_eq_true rfl) rfl rfl))
 | refine op_box rfl (tl hn rfl) ?_
 | refine op_storeF rfl rfl rfl rfl (Nat.le_of_ble_eq_true rfl) ?_
 | refine op_alloc (tl hn rfl) ?_
 | refine op_storeN rfl rfl rfl rfl (Nat.le_of_ble_eq_true rfl) ?_
 | ((first | refine RunsL.pe hn rfl rfl rfl ?_ | refine RunsD.pe rfl rfl ?_); first
 | refine ⟨_, pu_add rfl rfl (by omega), ?_⟩
 | refine ⟨_, pu_indexAddr_map rfl rfl (by omega) (by assumption), ?_⟩
 | refine ⟨_, pu_sub rfl rfl (by omega), ?_⟩
 | refine ⟨_, pu_pick_b rfl rfl rfl, ?_⟩
 | refine ⟨_, pu_mul rfl rfl (by omega), ?_⟩
 | refine ⟨_, pu_build rfl rfl rfl rfl rfl rfl, ?_⟩))
    refine RunsL.junk 3 2 rfl (op_append (t := 38) (i := 4) (n := j) (rs := (ws.take j).flatMap Tre.cells) (els := [[.int y.number, bytesR y.bytes, tresR y.items]]) rfl rfl rfl rfl rfl rfl (by rw [cells_flat, List.length_take, Nat.min_eq_left (by omega)]) (FreeI.at_ (i := 4) ⟨by simp [AV.onlys, AV.only], by simp [AV.onlys, AV.only], onlys_ro _ _, by simp [AV.onlys, AV.only], onlys_ro _ _, trivial⟩) (by simp; omega) (by simp; omega) (tl hn rfl) ?_)
    repeat' (first
 | refine RunsL.step tabOk hn rfl ?_
 | refine RunsL.nil ?_
 | refine Runs.toRegion 30 rfl ?_
 | (refine Runs.ctls 30 rfl ?_; first | ((first | refine Runs.cond_yes rfl ?_ ?_ | refine Runs.cond_nno rfl ?_ ?_); · first | omega | rfl | assumption | (simp only [List.length_map]; omega)) | ((first | refine Runs.cond_no rfl ?_ ?_ | refine Runs.cond_nyes rfl ?_ ?_); · first | omega | rfl | assumption | (simp only [List.length_map]; omega)) | refine Runs.ret (ends_ro hm rfl rfl ?_) | exact Runs.ret (ends_cellR hm rfl rfl rfl (Nat.le_of_ble_eq_true rfl) rfl rfl))
 | refine op_box rfl (tl hn rfl) ?_
 | refine op_storeF rfl rfl rfl rfl (Nat.le_of_ble_eq_true rfl) ?_
 | refine op_alloc (tl hn rfl) ?_
 | refine op_storeN rfl rfl rfl rfl (Nat.le_of_ble_eq_true rfl) ?_
 | ((first | refine RunsL.pe hn rfl rfl rfl ?_ | refine RunsD.pe rfl rfl ?_); first
 | refine ⟨_, pu_add rfl rfl (by omega), ?_⟩
 | refine ⟨_, pu_indexAddr_map rfl rfl (by omega) (by assumption), ?_⟩
 | refine ⟨_, pu_sub rfl rfl (by omega), ?_⟩
 | refine ⟨_, pu_pick_b rfl rfl rfl, ?_⟩
 | refine ⟨_, pu_mul rfl rfl (by omega), ?_⟩
 | refine ⟨_, pu_build rfl rfl rfl rfl rfl rfl, ?_⟩))
    refine next _ _ ⟨rfl, rfl, rfl, rfl, rfl, rfl, rfl, trivial⟩ hlt trivial ?_
    have e : (ws.take (j + 1)).flatMap Tre.cells = (ws.take j).flatMap Tre.cells ++ [[RV.int y.number, bytesR y.bytes, tresR y.items]].flatten := by
      rw [List.take_add_one, hy, List.flatMap_append]
      simp [Tre.cells_eq, tresR]
    rw [e]
    rfl
  · obtain rfl : j = ws.length := by omega
    repeat' (first
 | refine RunsL.step tabOk hn rfl ?_
 | refine RunsL.nil ?_
 | refine Runs.toRegion 30 rfl ?_
 | (refine Runs.ctls 30 rfl ?_; first | ((first | refine Runs.cond_yes rfl ?_ ?_ | refine Runs.cond_nno rfl ?_ ?_); · first | omega | rfl | assumption | (simp only [List.length_map]; omega)) | ((first | refine Runs.cond_no rfl ?_ ?_ | refine Runs.cond_nyes rfl ?_ ?_); · first | omega | rfl | assumption | (simp only [List.length_map]; omega)) | refine Runs.ret (ends_ro hm rfl rfl ?_) | exact Runs.ret (ends_cellR hm rfl rfl rfl (Nat.le_of_ble_eq_true rfl) rfl rfl))
 | refine op_box rfl (tl hn rfl) ?_
 | refine op_storeF rfl rfl rfl rfl (Nat.le_of_ble_eq_true rfl) ?_
 | refine op_alloc (tl hn rfl) ?_
 | refine op_storeN rfl rfl rfl rfl (Nat.le_of_ble_eq_true rfl) ?_
 | ((first | refine RunsL.pe hn rfl rfl rfl ?_ | refine RunsD.pe rfl rfl ?_); first
 | refine ⟨_, pu_add rfl rfl (by omega), ?_⟩
 | refine ⟨_, pu_indexAddr_map rfl rfl (by omega) (by assumption), ?_⟩
 | refine ⟨_, pu_sub rfl rfl (by omega), ?_⟩
 | refine ⟨_, pu_pick_b rfl rfl rfl, ?_⟩
 | refine ⟨_, pu_mul rfl rfl (by omega), ?_⟩
 | refine ⟨_, pu_build rfl rfl rfl rfl rfl rfl, ?_⟩))
    exact Runs.ret (ends_lend (r := treR (.mk 0 [] ws)) hm rfl (v := .agg [.int 0, .nil, .own 4]) ⟨1, 0, _, rfl, rfl, .inr ⟨3, inferInstance, Nat.le_of_ble_eq_true rfl, rfl⟩⟩ rfl
      (Lends.agg (.cons .ro (.cons (Lends.nil 1)
        (.cons (Lends.own (i := 4) (o := ⟨29, 3, ((ws.take ws.length).flatMap Tre.cells).map .ro⟩) (els := ws.map Tre.cells) rfl (by rw [List.take_length, List.flatMap_def]) fun x hx => by obtain ⟨y, _, rfl⟩ := List.mem_map.1 hx; exact Tre.cells_len y) .nil)))))
theorem defaultValue_ac {d : Des} (hD : DrawD d) : ∀ (r : Nat) (x : Rul), d[r]? = some x → ∃ v, MkV d r v ∧ ACv Try.prog 69 [desR d, .int (r : Int)] (treR v) := by
  intro r
  induction r using Nat.strongRecOn with
  | ind r ih =>
  intro x hx
  have hxi : d[(r : Int).toNat]? = some x := hx
  obtain ⟨k', k1, k2, hr, hk', _, hrl⟩ := hD.kinds hx
  have hkid := hD.kid hx
  have hP : ∀ q : Nat, q < r → ∃ y, MkV d q y ∧ ACv Try.prog 69 [desR d, .int (q : Int)] (treR y) := fun q hq => ih q hq _ (List.getElem?_eq_getElem (show q < d.length by omega))
  by_cases k3 : x.kind = 3
  · have hs := hr.hsize.2.1 (by omega)
    obtain ⟨n, hn⟩ : ∃ n : Nat, x.size = n := ⟨x.size.toNat, by omega⟩
    exact ⟨_, mk_flat hx (by simp; omega) (by
      unfold OwnV; rw [if_neg (by omega), if_neg (by omega), if_pos k3]
      exact ⟨rfl, by show ((List.replicate n (0 : UInt8)).length : Int) = _; rw [List.length_replicate, hn], rfl⟩), dv_3 hD r x hxi k3 n hn (by omega)⟩
  by_cases k6 : x.kind = 6
  · obtain ⟨hkl, _⟩ := hr.hkids.2.2.1 (by omega)
    have hnl := hr.hnames.1 (by omega)
    obtain ⟨ws, h1, h2⟩ := pick_kids (r := r) (fun q y => MkV d q y ∧ ACv Try.prog 69 [desR d, .int (q : Int)] (treR y)) hP x.kids hkid
    refine ⟨_, mk_many hx (by constructor <;> omega) (by omega) (fun i y hy => ?_) ?_, dv_6 hD r x hxi k6 ws h1 (by omega) fun j z y hz hy => ?_⟩
    · have hil := (List.getElem?_eq_some_iff.1 hy).1
      have hz : x.kids[i]? = some _ := List.getElem?_eq_getElem (show i < x.kids.length by omega)
      have hb := hkid _ (List.mem_of_getElem? hz)
      refine ⟨_, ?_, ?_, (h2 i _ y hz hy).1⟩
      · omega
      · unfold itemR
        rw [if_neg (by omega), if_pos k6, Int.toNat_natCast, hz]
        show x.kids[i] = _
        omega
    · unfold OwnV
      rw [if_neg (by omega), if_neg (by omega), if_neg (by omega), if_neg (by omega), if_neg (by omega), if_neg (by omega), if_pos k6]
      exact ⟨rfl, rfl, h1⟩
    · have hb := hkid _ (List.mem_of_getElem? hz)
      have := (h2 j z y hz hy).2
      rwa [show (z.toNat : Int) = z by omega] at this
  by_cases k7 : x.kind = 7
  · obtain ⟨z, kl, hz, hkl, hkz, hkd⟩ := hr.hkids.2.2.2.1 (by omega)
    obtain ⟨ht1, ht3, htg⟩ := hr.htags.1 (by omega)
    obtain ⟨tg, ht⟩ : ∃ tg, x.tags[0]? = some tg := ⟨_, List.getElem?_eq_getElem (by omega)⟩
    obtain ⟨q1, hq1⟩ : ∃ q1, x.kids[1]? = some q1 := ⟨_, List.getElem?_eq_getElem (by rw [hkd]; simp; omega)⟩
    have hb := hkid _ (List.mem_of_getElem? hq1)
    obtain ⟨q, rfl⟩ : ∃ q : Nat, q1 = q := ⟨q1.toNat, by omega⟩
    obtain ⟨w, hw1, hw2⟩ := hP q (by omega)
    have htb := htg 0 tg ht
    have hti : itemR x tg 0 = q := by
      unfold itemR
      rw [if_neg (by omega), if_neg (by omega), if_pos k7, tagIx_hit ht fun k2 t2 hk2 ht2 e => by omega]
      rw [hq1]; rfl
    refine ⟨_, mk_many hx (n := tg) (vs := [w]) (by constructor <;> omega) (by simp) (fun i y hy => ?_) ?_, dv_7 hD r x hxi k7 tg q w ht hq1 hw2⟩
    · obtain rfl : i = 0 := by
        have := (List.getElem?_eq_some_iff.1 hy).1
        simp at this; omega
      simp at hy
      subst hy
      exact ⟨q, by omega, hti, hw1⟩
    · unfold OwnV
      rw [if_neg (by omega), if_neg (by omega), if_neg (by omega), if_neg (by omega), if_neg (by omega), if_neg (by omega), if_neg (by omega), if_pos k7]
      exact ⟨rfl, rfl, by show 0 ≤ itemR x tg 0; omega⟩
  by_cases k9 : x.kind = 9
  · obtain ⟨z, hz, hkd⟩ := hr.hkids.2.2.2.2.1 (by omega)
    have hb := hkid z (by rw [hkd]; simp)
    obtain ⟨q, rfl⟩ : ∃ q : Nat, z = q := ⟨z.toNat, by omega⟩
    obtain ⟨w, hw1, hw2⟩ := hP q (by omega)
    refine ⟨_, mk_one hx hw1 (by omega) ?_ ?_, dv_9 hD r x hxi k9 q w (by rw [hkd]; rfl) hw2⟩
    · unfold OwnV
      rw [if_neg (by omega), if_neg (by omega), if_neg (by omega), if_neg (by omega), if_neg (by omega), if_neg (by omega), if_neg (by omega), if_neg (by omega), if_neg (by omega)]
      exact ⟨rfl, rfl, rfl⟩
    · unfold itemR
      rw [if_neg (by omega), if_neg (by omega), if_neg (by omega), if_pos (.inr k9), hkd]; rfl
  · exact ⟨_, mk_flat hx (by simp) (ownV0 hD hx ⟨k3, k6, k7, k9⟩), dv_zero hD r x hxi ⟨k3, k6, k7, k9⟩⟩
theorem impl_DefaultValue {d : Des} (hD : DrawD d) (r : Nat) (x : Rul) (hx : d[r]? = some x) : ∃ v, MkV d r v ∧ ACv Try.prog 19 [desR d, .int (r : Int)] (treR v) := by
  obtain ⟨v, h1, h2⟩ := defaultValue_ac hD r x hx
  have hkn := known_ac d hD.desOk (by have := hD.total; omega) r
  have hK : Kn d r := ⟨hD.good, by unfold HasR; have := (List.getElem?_eq_some_iff.1 hx).1; omega⟩
  refine ⟨v, h1, ?_⟩
  refine ac_enter Try.func19 rfl _ Try.ntmps19 (by simp) fun C hn hm => ?_
  repeat' (first
 | refine RunsL.step tabOk hn rfl ?_
 | refine RunsL.nil ?_
 | refine Runs.toRegion 30 rfl ?_
 | (refine RunsL.pe hn rfl rfl rfl ?_; first
 | refine ⟨_, pu_callR hkn rfl, ?_⟩
 | refine ⟨_, pu_callR h2 rfl, ?_⟩)
 | (refine Runs.ctls 30 rfl ?_; first | ((first | refine Runs.cond_yes rfl ?_ ?_ | refine Runs.cond_nno rfl ?_ ?_); · first | omega | rfl | assumption | (simp only [List.length_map]; omega)) | ((first | refine Runs.cond_no rfl ?_ ?_ | refine Runs.cond_nyes rfl ?_ ?_); · first | omega | rfl | assumption | (simp only [List.length_map]; omega)) | refine Runs.ret (ends_ro hm rfl rfl ?_) | exact Runs.ret (ends_cellR hm rfl rfl rfl (Nat.le_of_ble_eq_true rfl) rfl rfl))
 | refine op_box rfl (tl hn rfl) ?_
 | refine op_alloc (tl hn rfl) ?_
 | refine op_storeN rfl rfl rfl rfl (Nat.le_of_ble_eq_true rfl) ?_
    )
  all_goals first
    | exact rr_ro rfl
    | (exfalso; omega)
end Go.Proofs.Ytnecoghfhcimeaa
/- spec.CopyValue with rows of its own; a value with one item more. -/
namespace Go.Proofs.Ytnecoghfhcimeaa
set_option linter.unusedSimpArgs false
set_option linter.unusedVariables false
open Go.RowKit
open AV (Mem Keeps)
section
variable {P : Program} {C : Ctx} {env : Env} {σ : List Ob}
theorem Pur.fits {o : Oper} {v : AV} {r : RV} (h : Pur P C o env σ v) (hf : Fits v r) : Pur P C o env σ (.ro r) :=
  ⟨fun a m hG hσ hH K Q hK => h.run a m hG hσ hH K Q fun u w' hb hu => hK u w' hb (by simp only [AV.rel]; exact hf _ u hu)⟩
end
theorem Fits.roAgg {rs rs' : List RV} (h : FitsL (rs.map .ro) rs') : Fits (.ro (.agg rs)) (.agg rs') := fun m u hu => Fits.agg h m u (by
  simp only [AV.rel, RV.rel] at hu ⊢
  obtain ⟨us, e, hr⟩ := hu
  exact ⟨us, e, AV.rels_ro _ _ hr⟩)
def badV (v : Tre) : Tre := .mk v.number v.bytes (v.items ++ [.mk (-1) [] []])
theorem badV_ne (v : Tre) : badV v ≠ v := fun h => by
  have h1 := congrArg (fun t : Tre => t.items.length) h
  simp [badV, Tre.items] at h1
theorem badV_ok {v : Tre} (h : v.Ok) (hl : v.items.length ≤ 1000000) : (badV v).Ok := by
  obtain ⟨h1, h2, h3, h4⟩ := h.out
  simp only [badV, Tre.Ok]
  refine ⟨h1, h2, by unfold maxLen; simp; omega, Tre.OkL_iff.2 fun x hx => ?_⟩
  rcases List.mem_append.1 hx with hx | hx
  · exact h4 x hx
  · simp at hx; subst hx
    simp [Tre.Ok, Tre.OkL, I64, maxLen]
theorem no_minus {d : Des} {r : Nat} {x : Rul} (hx : d[r]? = some x) : ¬ Vld d r (.mk (-1) [] []) := fun h => by
  have ho := ((vld_iff hx).1 h).1
  unfold OwnV at ho
  simp only [Tre.number, Tre.bytes, Tre.items, List.length_nil] at ho
  repeat' split at ho
  all_goals omega
theorem badV_no {d : Des} (hG : Good' d) {r : Nat} (v : Tre) : ¬ VldI d (r : Int) (badV v) := fun h => by
  obtain ⟨hK, hv⟩ := h
  obtain ⟨n, x, e, hn, hx⟩ := kn_nat hK
  rw [Int.toNat_natCast] at hv
  obtain rfl : r = n := by omega
  obtain ⟨ho, hi⟩ := (vld_iff hx).1 hv
  have hit : (badV v).items = v.items ++ [.mk (-1) [] []] := rfl
  have hlast : (badV v).items[v.items.length]? = some (.mk (-1) [] []) := by rw [hit]; simp
  have hb := own_item hG hx ho (i := v.items.length) (by rw [hit]; simp)
  have h2 := hi _ _ hlast
  have hd : (itemR x (badV v).number v.items.length).toNat < d.length := by omega
  exact no_minus (List.getElem?_eq_getElem hd) h2
set_option maxHeartbeats 16000000 in
theorem spec_CopyValue_row (v : Tre) (ht : v.total ≤ 1048576) : AC Try.prog 11 [treR v] fun rr => rr = treRR v := by
  have he := v.total_eq
  have hb : (v.bytes.map fun z => [RV.u8 z]).length = v.bytes.length := List.length_map ..
  have hl' : (v.items.map Tre.cells).length = v.items.length := List.length_map ..
  have ih := spec_CopyValue
  refine ac_enter Try.func11 rfl _ Try.ntmps11 (by simp) fun C hn hm => ?_
  repeat' (first
 | refine Runs.toDrawV (id := 1) 30 [] [0, 1, 2, 3, 4, 5, 6, 7] 8 [⟨5, some (2, 7), 5, 1, (v.bytes.map fun z => [RV.u8 z]).flatten⟩, ⟨7, none, 29, 0, [Value.int .i64 0, .slice none 0 0, .slice none 0 0].map RV.c⟩] mixed hn rfl (by kernel_rfl) rfl rfl (by kernel_rfl) ?_
 | refine RunsL.step tabOk hn rfl ?_
 | refine RunsL.nil ?_
 | refine Runs.toRegion 30 rfl ?_
 | (refine Runs.ctls 30 rfl ?_; first | ((first | refine Runs.cond_yes rfl ?_ ?_ | refine Runs.cond_nno rfl ?_ ?_); · first | omega | rfl | assumption | (simp only [List.length_map]; omega)) | ((first | refine Runs.cond_no rfl ?_ ?_ | refine Runs.cond_nyes rfl ?_ ?_); · first | omega | rfl | assumption | (simp only [List.length_map]; omega)) | refine Runs.ret (ends_ro hm rfl rfl ?_) | exact Runs.ret (ends_cellR hm rfl rfl rfl (Nat.le_of_ble_eq_true rfl) rfl rfl))
 | refine op_box rfl (tl hn rfl) ?_
 | refine op_storeF rfl rfl rfl rfl (Nat.le_of_ble_eq_true rfl) ?_
 | refine op_alloc (tl hn rfl) ?_
 | refine op_storeN rfl rfl rfl rfl (Nat.le_of_ble_eq_true rfl) ?_
 | ((first | refine RunsL.pe hn rfl rfl rfl ?_ | refine RunsD.pe rfl rfl ?_); first
 | refine ⟨_, pu_add rfl rfl (by omega), ?_⟩
 | refine ⟨_, pu_indexAddr_map rfl rfl (by omega) (by assumption), ?_⟩
 | refine ⟨_, pu_sub rfl rfl (by omega), ?_⟩
 | refine ⟨_, pu_pick_b rfl rfl rfl, ?_⟩
 | refine ⟨_, pu_mul rfl rfl (by omega), ?_⟩
 | refine ⟨_, pu_build rfl rfl rfl rfl rfl rfl, ?_⟩))
  refine RunsU.step tabOk rfl rfl (fun _ => rfl) rfl (fun p r hp hr => .inl (by simp [AV.only, AV.onlys] <;> omega)) ?_
  refine RunsU.step tabOk rfl rfl (fun _ => rfl) rfl (fun p r hp hr => .inl (by simp [AV.only, AV.onlys] <;> omega)) ?_
  refine RunsU.lay (t := 7) (p := 0) rfl rfl rfl rfl mk_build0 ?_
  refine RunsU.step tabOk rfl rfl (fun _ => rfl) rfl (fun p r hp hr => .inl (by simp [AV.only, AV.onlys] <;> omega)) ?_
  refine RunsU.step tabOk rfl rfl (fun _ => rfl) rfl (fun p r hp hr => .inl (by simp [AV.only, AV.onlys] <;> omega)) ?_
  refine RunsU.gro (t := 10) (p := 0) rfl rfl rfl rfl rfl (mk_append (els := v.bytes.map fun z => [RV.u8 z]) rfl (by omega) (by omega)) ?_
  refine RunsU.pur (fun _ => pu_buildS rfl) rfl (staged_lateC (by kernel_rfl) rfl) rfl rfl ?_
  refine RunsU.made (t := 3) (p := 1) rfl rfl rfl rfl rfl (mk_alloc (zs := [.int .i64 0, .slice none 0 0, .slice none 0 0]) inferInstance) ?_
  refine RunsU.nil ?_
  repeat' (first
 | refine RunsL.step tabOk hn rfl ?_
 | refine RunsL.nil ?_
 | refine Runs.toRegion 30 rfl ?_
 | (refine Runs.ctls 30 rfl ?_; first | ((first | refine Runs.cond_yes rfl ?_ ?_ | refine Runs.cond_nno rfl ?_ ?_); · first | omega | rfl | assumption | (simp only [List.length_map]; omega)) | ((first | refine Runs.cond_no rfl ?_ ?_ | refine Runs.cond_nyes rfl ?_ ?_); · first | omega | rfl | assumption | (simp only [List.length_map]; omega)) | refine Runs.ret (ends_ro hm rfl rfl ?_) | exact Runs.ret (ends_cellR hm rfl rfl rfl (Nat.le_of_ble_eq_true rfl) rfl rfl))
 | refine op_box rfl (tl hn rfl) ?_
 | refine op_storeF rfl rfl rfl rfl (Nat.le_of_ble_eq_true rfl) ?_
 | refine op_alloc (tl hn rfl) ?_
 | refine op_storeN rfl rfl rfl rfl (Nat.le_of_ble_eq_true rfl) ?_
 | ((first | refine RunsL.pe hn rfl rfl rfl ?_ | refine RunsD.pe rfl rfl ?_); first
 | refine ⟨_, pu_add rfl rfl (by omega), ?_⟩
 | refine ⟨_, pu_indexAddr_map rfl rfl (by omega) (by assumption), ?_⟩
 | refine ⟨_, pu_sub rfl rfl (by omega), ?_⟩
 | refine ⟨_, pu_pick_b rfl rfl rfl, ?_⟩
 | refine ⟨_, pu_mul rfl rfl (by omega), ?_⟩
 | refine ⟨_, pu_build rfl rfl rfl rfl rfl rfl, ?_⟩))
  refine Runs.nilCell 3 2 (e := 29) (sz := 3) (by decide) rfl rfl ?_
  refine Runs.ctls 30 rfl ?_
  refine Runs.loopN 30 rfl (fun j => [(1, .obj 0 0), (2, .obj 1 0), (3, .obj 3 0), (4, .int (j : Int))]) (fun j => cqS v j) (fun _ => True) v.items.length 0 (Nat.zero_le _) trivial ⟨rfl, rfl, rfl, rfl, trivial⟩ rfl fun j hj _ next => ?_
  by_cases hlt : j < v.items.length
  · obtain ⟨x, hx⟩ : ∃ x, v.items[(j : Int).toNat]? = some x := ⟨_, List.getElem?_eq_getElem hlt⟩
    have hx' : v.items[j]? = some x := hx
    have hm' := List.mem_of_getElem? hx'
    have hcall := ih x (Nat.le_trans (sum_mem_le Tre.total hm') (by omega))
    repeat' (first
 | refine Runs.toDrawT (id := 5) 30 [] [0, 1, 2, 3, 4, 5, 6, 7, 8] 9 [] mixed hn rfl (by kernel_rfl) rfl .nil (by decide) (by decide) (by decide) ?_
 | refine RunsT.nil ?_
 | refine RunsT.nil ?_
 | refine RunsT.step tabOk rfl rfl (fun _ => rfl) (by decide) ?_
 | refine RunsT.pur (fun _ => pu_loadN_eq rfl (Tre.cells_eq _) rfl) (by decide) rfl rfl ?_
 | refine RunsT.pur (fun _ => pu_callR hcall rfl) (by decide) rfl rfl ?_
 | refine RunsT.pur (fun _ => pu_build rfl rfl rfl rfl rfl rfl) (by decide) rfl rfl ?_
 | refine RunsT.pur (fun _ => pu_add rfl rfl (by omega)) (by decide) rfl rfl ?_
 | refine RunsT.pur (fun _ => pu_indexAddr_map rfl rfl (by omega) (by assumption)) (by decide) rfl rfl ?_
 | refine RunsL.step tabOk hn rfl ?_
 | refine RunsL.nil ?_
 | refine Runs.toRegion 30 rfl ?_
 | ((first | refine RunsL.pe hn rfl rfl rfl ?_ | refine RunsD.pe rfl rfl ?_); first
 | refine ⟨_, pu_loadN_eq rfl (Tre.cells_eq _) rfl, ?_⟩
 | refine ⟨_, pu_callR hcall rfl, ?_⟩
 | refine ⟨_, pu_build rfl rfl rfl rfl rfl rfl, ?_⟩)
 | (refine Runs.ctls 30 rfl ?_; first | ((first | refine Runs.cond_yes rfl ?_ ?_ | refine Runs.cond_nno rfl ?_ ?_); · first | omega | rfl | assumption | (simp only [List.length_map]; omega)) | ((first | refine Runs.cond_no rfl ?_ ?_ | refine Runs.cond_nyes rfl ?_ ?_); · first | omega | rfl | assumption | (simp only [List.length_map]; omega)) | refine Runs.ret (ends_ro hm rfl rfl ?_) | exact Runs.ret (ends_cellR hm rfl rfl rfl (Nat.le_of_ble_eq_true rfl) rfl rfl))
 | refine op_box rfl (tl hn rfl) ?_
 | refine op_storeF rfl rfl rfl rfl (Nat.le_of_ble_eq_true rfl) ?_
 | refine op_alloc (tl hn rfl) ?_
 | refine op_storeN rfl rfl rfl rfl (Nat.le_of_ble_eq_true rfl) ?_
 | ((first | refine RunsL.pe hn rfl rfl rfl ?_ | refine RunsD.pe rfl rfl ?_); first
 | refine ⟨_, pu_add rfl rfl (by omega), ?_⟩
 | refine ⟨_, pu_indexAddr_map rfl rfl (by omega) (by assumption), ?_⟩
 | refine ⟨_, pu_sub rfl rfl (by omega), ?_⟩
 | refine ⟨_, pu_pick_b rfl rfl rfl, ?_⟩
 | refine ⟨_, pu_mul rfl rfl (by omega), ?_⟩
 | refine ⟨_, pu_build rfl rfl rfl rfl rfl rfl, ?_⟩))
    refine RunsL.junk 3 2 rfl (op_append (t := 28) (i := 4) (n := j) (rs := (v.items.take j).flatMap Tre.cells) (els := [[.int x.number, bytesR x.bytes, tresR x.items]]) rfl rfl rfl rfl rfl rfl (by rw [cells_flat, List.length_take, Nat.min_eq_left (by omega)]) (FreeI.at_ (i := 4) ⟨by simp [AV.onlys, AV.only], by simp [AV.onlys, AV.only], onlys_rv _ _, by simp [AV.onlys, AV.only], onlys_rv _ _, trivial⟩) (by simp; omega) (by simp; omega) (tl hn rfl) ?_)
    repeat' (first
 | refine RunsL.step tabOk hn rfl ?_
 | refine RunsL.nil ?_
 | refine Runs.toRegion 30 rfl ?_
 | (refine Runs.ctls 30 rfl ?_; first | ((first | refine Runs.cond_yes rfl ?_ ?_ | refine Runs.cond_nno rfl ?_ ?_); · first | omega | rfl | assumption | (simp only [List.length_map]; omega)) | ((first | refine Runs.cond_no rfl ?_ ?_ | refine Runs.cond_nyes rfl ?_ ?_); · first | omega | rfl | assumption | (simp only [List.length_map]; omega)) | refine Runs.ret (ends_ro hm rfl rfl ?_) | exact Runs.ret (ends_cellR hm rfl rfl rfl (Nat.le_of_ble_eq_true rfl) rfl rfl))
 | refine op_box rfl (tl hn rfl) ?_
 | refine op_storeF rfl rfl rfl rfl (Nat.le_of_ble_eq_true rfl) ?_
 | refine op_alloc (tl hn rfl) ?_
 | refine op_storeN rfl rfl rfl rfl (Nat.le_of_ble_eq_true rfl) ?_
 | ((first | refine RunsL.pe hn rfl rfl rfl ?_ | refine RunsD.pe rfl rfl ?_); first
 | refine ⟨_, pu_add rfl rfl (by omega), ?_⟩
 | refine ⟨_, pu_indexAddr_map rfl rfl (by omega) (by assumption), ?_⟩
 | refine ⟨_, pu_sub rfl rfl (by omega), ?_⟩
 | refine ⟨_, pu_pick_b rfl rfl rfl, ?_⟩
 | refine ⟨_, pu_mul rfl rfl (by omega), ?_⟩
 | refine ⟨_, pu_build rfl rfl rfl rfl rfl rfl, ?_⟩))
    refine next _ _ ⟨rfl, rfl, rfl, rfl, trivial⟩ hlt trivial ?_
    have e : (v.items.take (j + 1)).flatMap Tre.cells = (v.items.take j).flatMap Tre.cells ++ [[RV.int x.number, bytesR x.bytes, tresR x.items]].flatten := by
      rw [List.take_add_one, hx', List.flatMap_append]
      simp [Tre.cells_eq, tresR]
    unfold cqS
    rw [e]
    rfl
  · obtain rfl : j = v.items.length := by omega
    repeat' (first
 | refine RunsL.step tabOk hn rfl ?_
 | refine RunsL.nil ?_
 | refine Runs.toRegion 30 rfl ?_
 | (refine Runs.ctls 30 rfl ?_; first | ((first | refine Runs.cond_yes rfl ?_ ?_ | refine Runs.cond_nno rfl ?_ ?_); · first | omega | rfl | assumption | (simp only [List.length_map]; omega)) | ((first | refine Runs.cond_no rfl ?_ ?_ | refine Runs.cond_nyes rfl ?_ ?_); · first | omega | rfl | assumption | (simp only [List.length_map]; omega)) | refine Runs.ret (ends_ro hm rfl rfl ?_) | exact Runs.ret (ends_cellR hm rfl rfl rfl (Nat.le_of_ble_eq_true rfl) rfl rfl))
 | refine op_box rfl (tl hn rfl) ?_
 | refine op_storeF rfl rfl rfl rfl (Nat.le_of_ble_eq_true rfl) ?_
 | refine op_alloc (tl hn rfl) ?_
 | refine op_storeN rfl rfl rfl rfl (Nat.le_of_ble_eq_true rfl) ?_
 | ((first | refine RunsL.pe hn rfl rfl rfl ?_ | refine RunsD.pe rfl rfl ?_); first
 | refine ⟨_, pu_add rfl rfl (by omega), ?_⟩
 | refine ⟨_, pu_indexAddr_map rfl rfl (by omega) (by assumption), ?_⟩
 | refine ⟨_, pu_sub rfl rfl (by omega), ?_⟩
 | refine ⟨_, pu_pick_b rfl rfl rfl, ?_⟩
 | refine ⟨_, pu_mul rfl rfl (by omega), ?_⟩
 | refine ⟨_, pu_build rfl rfl rfl rfl rfl rfl, ?_⟩))
    refine Runs.ret (ends1 hm rfl (.agg [.int v.number, .own 2, .own 4]) ⟨1, 0, _, rfl, rfl, .inr ⟨3, inferInstance, Nat.le_of_ble_eq_true rfl, rfl⟩⟩ (treRR v) [2, 4] (harv_tre ?_ ?_) (by decide) rfl)
    · show some (Ob.mk _ _ (((v.bytes.map fun z => [RV.u8 z]).flatten).map AV.ro)) = _
      have : ∀ l : List UInt8, (l.map fun z => [RV.u8 z]).flatten = l.map RV.u8 := fun l => by induction l <;> simp_all
      rw [this]; rfl
    · show some (Ob.mk _ _ (((v.items.take v.items.length).flatMap Tre.cells).map AV.ro)) = _
      rw [List.take_length]; rfl
end Go.Proofs.Ytnecoghfhcimeaa
/- A row of the frame's own becomes data for good; an empty literal as data. Over any program. -/
namespace Go.Proofs.Ytnecoghfhcimeaa
set_option linter.unusedSimpArgs false
set_option linter.unusedVariables false
open Go.RowKit
open AV (Mem Keeps)
section
variable {P : Program} {C : Ctx} {k : List Item} {R : Act → World → Prop} {env : Env} {σ : List Ob}
variable {t : Nat} {ty : TypeId} {pos : String} {after : Array Edge} {gd : Option (Nat × Bool)}
end
end Go.Proofs.Ytnecoghfhcimeaa
/- Small helpers of the laws. -/
namespace Go.Proofs.Ytnecoghfhcimeaa
set_option linter.unusedSimpArgs false
set_option linter.unusedVariables false
open Go.RowKit
open AV (Mem Keeps)
theorem big_ac (b : List UInt8) : ACv Try.prog 17 [bytesR b] (.bool (decide ((1048576 : Int) < b.length))) := by
  have hlb : (b.map fun z => [RV.u8 z]).length = b.length := List.length_map ..
  refine ac_enter Try.func17 rfl _ Try.ntmps17 (by simp) fun C hn hm => ?_
  repeat' (first
 | (refine RunsL.pe hn rfl rfl rfl ?_; first
 | refine ⟨_, pu_len_seqN b.length rfl hlb, ?_⟩)
 | refine RunsL.step tabOk hn rfl ?_
 | refine RunsL.nil ?_
 | refine Runs.toRegion 30 rfl ?_
 | (refine Runs.ctls 30 rfl ?_; first | ((first | refine Runs.cond_yes rfl ?_ ?_ | refine Runs.cond_nno rfl ?_ ?_); · first | omega | rfl | assumption | (simp only [List.length_map]; omega)) | ((first | refine Runs.cond_no rfl ?_ ?_ | refine Runs.cond_nyes rfl ?_ ?_); · first | omega | rfl | assumption | (simp only [List.length_map]; omega)) | refine Runs.ret (ends_ro hm rfl rfl ?_) | exact Runs.ret (ends_cellR hm rfl rfl rfl (Nat.le_of_ble_eq_true rfl) rfl rfl))
    )
  all_goals exact rr_bool rfl
end Go.Proofs.Ytnecoghfhcimeaa
/- impl's functions of values alone. -/
namespace Go.Proofs.Ytnecoghfhcimeaa
set_option linter.unusedSimpArgs false
set_option linter.unusedVariables false
open Go.RowKit
open AV (Mem Keeps)
set_option maxHeartbeats 4000000 in
theorem impl_ItemRule1 (d : Des) (ho : DesOk d) (hd : dtotal d ≤ 1048576) (r : Int) (v : Tre) (hv : v.Ok) (i : Int) : ACv Try.prog 20 [desR d, .int r, treR v, .int i] (.int (itemF d r v i)) := by
  have hvl := hv.out.2.2.1
  have hlv : (v.items.map Tre.cells).length = v.items.length := List.length_map ..
  have hkn := known_ac d ho hd r
  have et : dtotal d = d.length + (d.map Rul.total).sum := rfl
  unfold maxLen at hvl
  refine ac_enter Try.func20 rfl _ Try.ntmps20 (by simp) fun C hn hm => ?_
  by_cases hK : Kn d r
  · by_cases hi : 0 ≤ i ∧ i < v.items.length
    · obtain ⟨n, x, rfl, hn', hx⟩ := kn_nat hK
      have hc := childRule_ac (d := d) (r := n) (x := x) (by unfold maxLen; omega) hx (kind_at hK.1 hx) v.number (bytesR v.bytes) (tresR v.items) i hi.1
      repeat' (first
 | refine RunsL.step tabOk hn rfl ?_
 | refine RunsL.nil ?_
 | refine Runs.toRegion 30 rfl ?_
 | (refine RunsL.pe hn rfl rfl rfl ?_; first
 | refine ⟨_, pu_callR hkn rfl, ?_⟩
 | refine ⟨_, pu_callL hc (.cons (Lends.agg (.cons .ro .nil)) (.cons .ro (.cons (Lends.obj rfl (.cons .ro (.cons .ro (.cons .ro .nil)))) (.cons .ro .nil)))), ?_⟩
 | refine ⟨_, pu_callL hc (.cons .ro (.cons .ro (.cons (Lends.obj rfl (.cons .ro (.cons .ro (.cons .ro .nil)))) (.cons .ro .nil)))), ?_⟩)
 | (refine Runs.ctls 30 rfl ?_; first | refine Runs.cond_t rfl ?_ | ((first | refine Runs.cond_yes rfl ?_ ?_ | refine Runs.cond_nno rfl ?_ ?_); · first | omega | rfl | assumption | (simp only [List.length_map]; omega)) | ((first | refine Runs.cond_no rfl ?_ ?_ | refine Runs.cond_nyes rfl ?_ ?_); · first | omega | rfl | assumption | (simp only [List.length_map]; omega)) | refine Runs.ret (ends_ro hm rfl rfl ?_) | exact Runs.ret (ends_cellR hm rfl rfl rfl (Nat.le_of_ble_eq_true rfl) rfl rfl))
 | refine op_box rfl (tl hn rfl) ?_
 | ((first | refine RunsL.guard_dec rfl rfl rfl ?_ ?_ | refine RunsL.guard_ndec rfl rfl rfl ?_ ?_ | refine RunsL.guard_nb rfl rfl rfl ?_ ?_ | refine RunsL.guard_b rfl rfl rfl ?_ ?_) <;> intro h <;> try (exfalso; first | omega | contradiction | (simp only [List.length_map] at h; omega))))
      all_goals first
        | exact rr_int (itemF_yes ⟨hK, hi⟩ hx).symm
        | (exfalso; omega)
    · repeat' (first
 | refine RunsL.step tabOk hn rfl ?_
 | refine RunsL.nil ?_
 | refine Runs.toRegion 30 rfl ?_
 | (refine RunsL.pe hn rfl rfl rfl ?_; first
 | refine ⟨_, pu_callR hkn rfl, ?_⟩)
 | (refine Runs.ctls 30 rfl ?_; first | refine Runs.cond_t rfl ?_ | ((first | refine Runs.cond_yes rfl ?_ ?_ | refine Runs.cond_nno rfl ?_ ?_); · first | omega | rfl | assumption | (simp only [List.length_map]; omega)) | ((first | refine Runs.cond_no rfl ?_ ?_ | refine Runs.cond_nyes rfl ?_ ?_); · first | omega | rfl | assumption | (simp only [List.length_map]; omega)) | refine Runs.ret (ends_ro hm rfl rfl ?_) | exact Runs.ret (ends_cellR hm rfl rfl rfl (Nat.le_of_ble_eq_true rfl) rfl rfl))
 | refine op_box rfl (tl hn rfl) ?_
 | ((first | refine RunsL.guard_dec rfl rfl rfl ?_ ?_ | refine RunsL.guard_ndec rfl rfl rfl ?_ ?_ | refine RunsL.guard_nb rfl rfl rfl ?_ ?_ | refine RunsL.guard_b rfl rfl rfl ?_ ?_) <;> intro h <;> try (exfalso; first | omega | contradiction | (simp only [List.length_map] at h; omega))))
      all_goals first
        | exact rr_int (itemF_no fun hh => hi hh.2).symm
        | (exfalso; omega)
  · repeat' (first
 | refine RunsL.step tabOk hn rfl ?_
 | refine RunsL.nil ?_
 | refine Runs.toRegion 30 rfl ?_
 | (refine RunsL.pe hn rfl rfl rfl ?_; first
 | refine ⟨_, pu_callR hkn rfl, ?_⟩)
 | (refine Runs.ctls 30 rfl ?_; first | refine Runs.cond_t rfl ?_ | ((first | refine Runs.cond_yes rfl ?_ ?_ | refine Runs.cond_nno rfl ?_ ?_); · first | omega | rfl | assumption | (simp only [List.length_map]; omega)) | ((first | refine Runs.cond_no rfl ?_ ?_ | refine Runs.cond_nyes rfl ?_ ?_); · first | omega | rfl | assumption | (simp only [List.length_map]; omega)) | refine Runs.ret (ends_ro hm rfl rfl ?_) | exact Runs.ret (ends_cellR hm rfl rfl rfl (Nat.le_of_ble_eq_true rfl) rfl rfl))
 | refine op_box rfl (tl hn rfl) ?_
 | ((first | refine RunsL.guard_dec rfl rfl rfl ?_ ?_ | refine RunsL.guard_ndec rfl rfl rfl ?_ ?_ | refine RunsL.guard_nb rfl rfl rfl ?_ ?_ | refine RunsL.guard_b rfl rfl rfl ?_ ?_) <;> intro h <;> try (exfalso; first | omega | contradiction | (simp only [List.length_map] at h; omega))))
    all_goals exact rr_int (itemF_no fun hh => hK hh.1).symm
theorem impl_CountParts1 : ∀ v : Tre, v.total ≤ 1048576 → ACv Try.prog 22 [treR v] (.int (v.count : Int)) := by
  refine Tre.ind fun v ih ht => ?_
  have he := v.total_eq
  have hc := v.count_le
  have hq := v.count_eq
  have hlm : (v.items.map Tre.cells).length = v.items.length := List.length_map ..
  refine ac_enter Try.func22 rfl _ Try.ntmps22 (by simp) fun C hn hm => ?_
  repeat' (first
 | refine RunsL.step tabOk hn rfl ?_
 | refine RunsL.nil ?_
 | refine Runs.toRegion 30 rfl ?_
 | (refine Runs.ctls 30 rfl ?_; first | ((first | refine Runs.cond_yes rfl ?_ ?_ | refine Runs.cond_nno rfl ?_ ?_); · first | omega | rfl | assumption | (simp only [List.length_map]; omega)) | ((first | refine Runs.cond_no rfl ?_ ?_ | refine Runs.cond_nyes rfl ?_ ?_); · first | omega | rfl | assumption | (simp only [List.length_map]; omega)) | refine Runs.ret (ends_ro hm rfl rfl ?_) | exact Runs.ret (ends_cellR hm rfl rfl rfl (Nat.le_of_ble_eq_true rfl) rfl rfl))
 | refine op_box rfl (tl hn rfl) ?_
 | refine op_alloc (tl hn rfl) ?_
 | refine op_storeN rfl rfl rfl rfl (Nat.le_of_ble_eq_true rfl) ?_
 | (refine RunsL.pe hn rfl rfl rfl ?_; first
 | refine ⟨_, pu_add rfl rfl (by omega), ?_⟩
 | refine ⟨_, pu_indexAddr_map rfl rfl (by omega) (by assumption), ?_⟩
      ))
  refine Runs.loopD 30 rfl (fun j => [(7, .ro (tresR v.items)), (8, .int (v.items.length : Int)), (3, .int (1 + ((v.items.take j).map Tre.count).sum : Nat)), (9, .int (j : Int))]) (fun _ => []) (fun j => ⟨by simp [Free, AV.only], by simp [FreeO]⟩) (fun _ => True) v.items.length 0 (Nat.zero_le _) trivial ⟨rfl, by simp [look], by simp [look], rfl, trivial⟩ rfl fun j hj _ next => ?_
  by_cases hlt : j < v.items.length
  · obtain ⟨x, hx⟩ : ∃ x, v.items[(j : Int).toNat]? = some x := ⟨_, List.getElem?_eq_getElem hlt⟩
    have hx' : v.items[j]? = some x := hx
    have hm' := List.mem_of_getElem? hx'
    have hs := sum_take_next Tre.count hx'
    have hle := sum_take_le Tre.count v.items (j + 1)
    have hcall := ih x hm' (by have := sum_mem_le Tre.total hm'; omega)
    repeat' (first
 | refine RunsL.step tabOk hn rfl ?_
 | refine RunsL.nil ?_
 | refine Runs.toRegion 30 rfl ?_
 | (refine RunsL.pe hn rfl rfl rfl ?_; first
 | refine ⟨_, pu_callR hcall rfl, ?_⟩
 | refine ⟨_, pu_loadN_eq rfl (Tre.cells_eq _) rfl, ?_⟩)
 | (refine Runs.ctls 30 rfl ?_; first | ((first | refine Runs.cond_yes rfl ?_ ?_ | refine Runs.cond_nno rfl ?_ ?_); · first | omega | rfl | assumption | (simp only [List.length_map]; omega)) | ((first | refine Runs.cond_no rfl ?_ ?_ | refine Runs.cond_nyes rfl ?_ ?_); · first | omega | rfl | assumption | (simp only [List.length_map]; omega)) | refine Runs.ret (ends_ro hm rfl rfl ?_) | exact Runs.ret (ends_cellR hm rfl rfl rfl (Nat.le_of_ble_eq_true rfl) rfl rfl))
 | refine op_box rfl (tl hn rfl) ?_
 | refine op_alloc (tl hn rfl) ?_
 | refine op_storeN rfl rfl rfl rfl (Nat.le_of_ble_eq_true rfl) ?_
 | (refine RunsL.pe hn rfl rfl rfl ?_; first
 | refine ⟨_, pu_add rfl rfl (by omega), ?_⟩
 | refine ⟨_, pu_indexAddr_map rfl rfl (by omega) (by assumption), ?_⟩
        ))
    refine next _ _ _ ⟨rfl, rfl, ?_, rfl, trivial⟩ hlt trivial rfl
    show AV.int _ = AV.int _
    rw [hs]; congr 4; omega
  · repeat' (first
 | refine RunsL.step tabOk hn rfl ?_
 | refine RunsL.nil ?_
 | refine Runs.toRegion 30 rfl ?_
 | (refine Runs.ctls 30 rfl ?_; first | ((first | refine Runs.cond_yes rfl ?_ ?_ | refine Runs.cond_nno rfl ?_ ?_); · first | omega | rfl | assumption | (simp only [List.length_map]; omega)) | ((first | refine Runs.cond_no rfl ?_ ?_ | refine Runs.cond_nyes rfl ?_ ?_); · first | omega | rfl | assumption | (simp only [List.length_map]; omega)) | refine Runs.ret (ends_ro hm rfl rfl ?_) | exact Runs.ret (ends_cellR hm rfl rfl rfl (Nat.le_of_ble_eq_true rfl) rfl rfl))
 | refine op_box rfl (tl hn rfl) ?_
 | refine op_alloc (tl hn rfl) ?_
 | refine op_storeN rfl rfl rfl rfl (Nat.le_of_ble_eq_true rfl) ?_
 | (refine RunsL.pe hn rfl rfl rfl ?_; first
 | refine ⟨_, pu_add rfl rfl (by omega), ?_⟩
 | refine ⟨_, pu_indexAddr_map rfl rfl (by omega) (by assumption), ?_⟩
      ))
    obtain rfl : j = v.items.length := by omega
    exact rr_int (by rw [List.take_length, hq])
theorem impl_TotalBytes1 : ∀ v : Tre, v.total ≤ 1048576 → ACv Try.prog 24 [treR v] (.int (v.weight : Int)) := by
  refine Tre.ind fun v ih ht => ?_
  have he := v.total_eq
  have hc := v.weight_le
  have hq := v.weight_eq
  have hlm : (v.items.map Tre.cells).length = v.items.length := List.length_map ..
  refine ac_enter Try.func24 rfl _ Try.ntmps24 (by simp) fun C hn hm => ?_
  repeat' (first
 | refine RunsL.step tabOk hn rfl ?_
 | refine RunsL.nil ?_
 | refine Runs.toRegion 30 rfl ?_
 | (refine Runs.ctls 30 rfl ?_; first | ((first | refine Runs.cond_yes rfl ?_ ?_ | refine Runs.cond_nno rfl ?_ ?_); · first | omega | rfl | assumption | (simp only [List.length_map]; omega)) | ((first | refine Runs.cond_no rfl ?_ ?_ | refine Runs.cond_nyes rfl ?_ ?_); · first | omega | rfl | assumption | (simp only [List.length_map]; omega)) | refine Runs.ret (ends_ro hm rfl rfl ?_) | exact Runs.ret (ends_cellR hm rfl rfl rfl (Nat.le_of_ble_eq_true rfl) rfl rfl))
 | refine op_box rfl (tl hn rfl) ?_
 | refine op_alloc (tl hn rfl) ?_
 | refine op_storeN rfl rfl rfl rfl (Nat.le_of_ble_eq_true rfl) ?_
 | (refine RunsL.pe hn rfl rfl rfl ?_; first
 | refine ⟨_, pu_add rfl rfl (by omega), ?_⟩
 | refine ⟨_, pu_indexAddr_map rfl rfl (by omega) (by assumption), ?_⟩
      ))
  refine Runs.loopD 30 rfl (fun j => [(10, .ro (tresR v.items)), (11, .int (v.items.length : Int)), (3, .int (v.bytes.length + ((v.items.take j).map Tre.weight).sum : Nat)), (12, .int (j : Int))]) (fun _ => []) (fun j => ⟨by simp [Free, AV.only], by simp [FreeO]⟩) (fun _ => True) v.items.length 0 (Nat.zero_le _) trivial ⟨rfl, by simp [look], by simp [look], rfl, trivial⟩ rfl fun j hj _ next => ?_
  by_cases hlt : j < v.items.length
  · obtain ⟨x, hx⟩ : ∃ x, v.items[(j : Int).toNat]? = some x := ⟨_, List.getElem?_eq_getElem hlt⟩
    have hx' : v.items[j]? = some x := hx
    have hm' := List.mem_of_getElem? hx'
    have hs := sum_take_next Tre.weight hx'
    have hle := sum_take_le Tre.weight v.items (j + 1)
    have hcall := ih x hm' (by have := sum_mem_le Tre.total hm'; omega)
    repeat' (first
 | refine RunsL.step tabOk hn rfl ?_
 | refine RunsL.nil ?_
 | refine Runs.toRegion 30 rfl ?_
 | (refine RunsL.pe hn rfl rfl rfl ?_; first
 | refine ⟨_, pu_callR hcall rfl, ?_⟩
 | refine ⟨_, pu_loadN_eq rfl (Tre.cells_eq _) rfl, ?_⟩)
 | (refine Runs.ctls 30 rfl ?_; first | ((first | refine Runs.cond_yes rfl ?_ ?_ | refine Runs.cond_nno rfl ?_ ?_); · first | omega | rfl | assumption | (simp only [List.length_map]; omega)) | ((first | refine Runs.cond_no rfl ?_ ?_ | refine Runs.cond_nyes rfl ?_ ?_); · first | omega | rfl | assumption | (simp only [List.length_map]; omega)) | refine Runs.ret (ends_ro hm rfl rfl ?_) | exact Runs.ret (ends_cellR hm rfl rfl rfl (Nat.le_of_ble_eq_true rfl) rfl rfl))
 | refine op_box rfl (tl hn rfl) ?_
 | refine op_alloc (tl hn rfl) ?_
 | refine op_storeN rfl rfl rfl rfl (Nat.le_of_ble_eq_true rfl) ?_
 | (refine RunsL.pe hn rfl rfl rfl ?_; first
 | refine ⟨_, pu_add rfl rfl (by omega), ?_⟩
 | refine ⟨_, pu_indexAddr_map rfl rfl (by omega) (by assumption), ?_⟩
        ))
    refine next _ _ _ ⟨rfl, rfl, ?_, rfl, trivial⟩ hlt trivial rfl
    show AV.int _ = AV.int _
    rw [hs]; congr 4; omega
  · repeat' (first
 | refine RunsL.step tabOk hn rfl ?_
 | refine RunsL.nil ?_
 | refine Runs.toRegion 30 rfl ?_
 | (refine Runs.ctls 30 rfl ?_; first | ((first | refine Runs.cond_yes rfl ?_ ?_ | refine Runs.cond_nno rfl ?_ ?_); · first | omega | rfl | assumption | (simp only [List.length_map]; omega)) | ((first | refine Runs.cond_no rfl ?_ ?_ | refine Runs.cond_nyes rfl ?_ ?_); · first | omega | rfl | assumption | (simp only [List.length_map]; omega)) | refine Runs.ret (ends_ro hm rfl rfl ?_) | exact Runs.ret (ends_cellR hm rfl rfl rfl (Nat.le_of_ble_eq_true rfl) rfl rfl))
 | refine op_box rfl (tl hn rfl) ?_
 | refine op_alloc (tl hn rfl) ?_
 | refine op_storeN rfl rfl rfl rfl (Nat.le_of_ble_eq_true rfl) ?_
 | (refine RunsL.pe hn rfl rfl rfl ?_; first
 | refine ⟨_, pu_add rfl rfl (by omega), ?_⟩
 | refine ⟨_, pu_indexAddr_map rfl rfl (by omega) (by assumption), ?_⟩
      ))
    obtain rfl : j = v.items.length := by omega
    exact rr_int (by rw [List.take_length, hq])
theorem impl_EqualValues1 : ∀ a : Tre, a.Ok → ∀ b : Tre, ACv Try.prog 23 [treR a, treR b] (.bool (decide (a = b))) := by
  refine Tre.ind fun a ih ha b => ?_
  obtain ⟨o1, o2, o3, o4⟩ := ha.out
  have he := tre_eq a b
  have o3' := o3
  unfold maxLen at o3'
  refine ac_enter Try.func23 rfl _ Try.ntmps23 (by simp) fun C hn hm => ?_
  by_cases h0 : a.number = b.number
  · by_cases h1 : a.bytes = b.bytes
    · by_cases hlen : a.items.length = b.items.length
      · repeat' (first
 | refine RunsL.step tabOk hn rfl ?_
 | refine RunsL.nil ?_
 | refine Runs.toRegion 30 rfl ?_
 | ((first | refine RunsL.pe hn rfl rfl rfl ?_ | refine RunsD.pe rfl rfl ?_); first
 | refine ⟨_, pu_callR (impl_EqualBytes a.bytes b.bytes) rfl, ?_⟩)
 | (refine Runs.ctls 30 rfl ?_; first | refine Runs.cond_t rfl ?_ | ((first | refine Runs.cond_yes rfl ?_ ?_ | refine Runs.cond_nno rfl ?_ ?_); · first | omega | rfl | assumption | (simp only [List.length_map]; omega)) | ((first | refine Runs.cond_no rfl ?_ ?_ | refine Runs.cond_nyes rfl ?_ ?_); · first | omega | rfl | assumption | (simp only [List.length_map]; omega)) | refine Runs.cond_ndec rfl (fun h => ?_) (fun h => ?_) | refine Runs.ret (ends_ro hm rfl rfl ?_) | exact Runs.ret (ends_cellR hm rfl rfl rfl (Nat.le_of_ble_eq_true rfl) rfl rfl))
 | refine op_box rfl (tl hn rfl) ?_
 | refine RunsD.step tabOk hn rfl rfl ?_
 | refine RunsD.nil ?_
 | refine Runs.toDraw 30 mixed hn rfl (by kernel_rfl) rfl ?_
 | ((first | refine RunsL.pe hn rfl rfl rfl ?_ | refine RunsD.pe rfl rfl ?_); first
 | refine ⟨_, pu_add rfl rfl (by omega), ?_⟩
 | refine ⟨_, pu_indexAddr_map rfl rfl (by omega) (by assumption), ?_⟩
 | refine ⟨_, pu_sub rfl rfl (by omega), ?_⟩
 | refine ⟨_, pu_pick_b rfl rfl rfl, ?_⟩
 | refine ⟨_, pu_mul rfl rfl (by omega), ?_⟩
 | refine ⟨_, pu_build rfl rfl rfl rfl rfl rfl, ?_⟩)
 | ((first | refine RunsL.guard_dec rfl rfl rfl ?_ ?_ | refine RunsL.guard_ndec rfl rfl rfl ?_ ?_ | refine RunsL.guard_nb rfl rfl rfl ?_ ?_ | refine RunsL.guard_b rfl rfl rfl ?_ ?_ | refine RunsD.guard_dec rfl rfl rfl ?_ ?_ | refine RunsD.guard_ndec rfl rfl rfl ?_ ?_ | refine RunsD.guard_nb rfl rfl rfl ?_ ?_ | refine RunsD.guard_b rfl rfl rfl ?_ ?_) <;> intro h <;> try (exfalso; first | omega | contradiction | (simp only [List.length_map] at h; omega))))
        refine Runs.loopN 30 rfl (fun j => [(2, .obj 0 0), (3, .obj 1 0), (30, .int (a.items.length : Int)), (31, .int (j : Int))]) (fun _ => [⟨29, 0, [.int a.number, .ro (bytesR a.bytes), .ro (tresR a.items)]⟩, ⟨29, 0, [.int b.number, .ro (bytesR b.bytes), .ro (tresR b.items)]⟩]) (fun j => a.items.take j = b.items.take j) a.items.length 0 (Nat.zero_le _) rfl ⟨rfl, rfl, by simp [look], rfl, trivial⟩ rfl fun j hj hQ next => ?_
        by_cases hlt : j < a.items.length
        · obtain ⟨x, hx⟩ : ∃ x, a.items[(j : Int).toNat]? = some x := ⟨_, List.getElem?_eq_getElem hlt⟩
          obtain ⟨y, hy⟩ : ∃ y, b.items[(j : Int).toNat]? = some y := ⟨_, List.getElem?_eq_getElem (by simp; omega)⟩
          have hx' : a.items[j]? = some x := hx
          have hy' : b.items[j]? = some y := hy
          have hm' := List.mem_of_getElem? hx'
          have hcall := ih x hm' (o4 x hm') y
          repeat' (first
 | refine RunsL.step tabOk hn rfl ?_
 | refine RunsL.nil ?_
 | refine Runs.toRegion 30 rfl ?_
 | ((first | refine RunsL.pe hn rfl rfl rfl ?_ | refine RunsD.pe rfl rfl ?_); first
 | refine ⟨_, pu_callR hcall rfl, ?_⟩
 | refine ⟨_, pu_loadN_eq rfl (Tre.cells_eq _) rfl, ?_⟩)
 | (refine Runs.ctls 30 rfl ?_; first | refine Runs.cond_t rfl ?_ | ((first | refine Runs.cond_yes rfl ?_ ?_ | refine Runs.cond_nno rfl ?_ ?_); · first | omega | rfl | assumption | (simp only [List.length_map]; omega)) | ((first | refine Runs.cond_no rfl ?_ ?_ | refine Runs.cond_nyes rfl ?_ ?_); · first | omega | rfl | assumption | (simp only [List.length_map]; omega)) | refine Runs.cond_ndec rfl (fun h => ?_) (fun h => ?_) | refine Runs.ret (ends_ro hm rfl rfl ?_) | exact Runs.ret (ends_cellR hm rfl rfl rfl (Nat.le_of_ble_eq_true rfl) rfl rfl))
 | refine op_box rfl (tl hn rfl) ?_
 | refine RunsD.step tabOk hn rfl rfl ?_
 | refine RunsD.nil ?_
 | refine Runs.toDraw 30 mixed hn rfl (by kernel_rfl) rfl ?_
 | ((first | refine RunsL.pe hn rfl rfl rfl ?_ | refine RunsD.pe rfl rfl ?_); first
 | refine ⟨_, pu_add rfl rfl (by omega), ?_⟩
 | refine ⟨_, pu_indexAddr_map rfl rfl (by omega) (by assumption), ?_⟩
 | refine ⟨_, pu_sub rfl rfl (by omega), ?_⟩
 | refine ⟨_, pu_pick_b rfl rfl rfl, ?_⟩
 | refine ⟨_, pu_mul rfl rfl (by omega), ?_⟩
 | refine ⟨_, pu_build rfl rfl rfl rfl rfl rfl, ?_⟩)
 | ((first | refine RunsL.guard_dec rfl rfl rfl ?_ ?_ | refine RunsL.guard_ndec rfl rfl rfl ?_ ?_ | refine RunsL.guard_nb rfl rfl rfl ?_ ?_ | refine RunsL.guard_b rfl rfl rfl ?_ ?_ | refine RunsD.guard_dec rfl rfl rfl ?_ ?_ | refine RunsD.guard_ndec rfl rfl rfl ?_ ?_ | refine RunsD.guard_nb rfl rfl rfl ?_ ?_ | refine RunsD.guard_b rfl rfl rfl ?_ ?_) <;> intro h <;> try (exfalso; first | omega | contradiction | (simp only [List.length_map] at h; omega))))
          · exact rr_bool (decide_eq_false (fun e => take_eq_not hx' hy' h (he.1 e).2.2)).symm
          · exact next _ _ ⟨rfl, rfl, rfl, rfl, trivial⟩ hlt (take_eq_next hQ hx' (by rw [hy', h])) rfl
        · repeat' (first
 | refine RunsL.step tabOk hn rfl ?_
 | refine RunsL.nil ?_
 | refine Runs.toRegion 30 rfl ?_
 | (refine Runs.ctls 30 rfl ?_; first | refine Runs.cond_t rfl ?_ | ((first | refine Runs.cond_yes rfl ?_ ?_ | refine Runs.cond_nno rfl ?_ ?_); · first | omega | rfl | assumption | (simp only [List.length_map]; omega)) | ((first | refine Runs.cond_no rfl ?_ ?_ | refine Runs.cond_nyes rfl ?_ ?_); · first | omega | rfl | assumption | (simp only [List.length_map]; omega)) | refine Runs.cond_ndec rfl (fun h => ?_) (fun h => ?_) | refine Runs.ret (ends_ro hm rfl rfl ?_) | exact Runs.ret (ends_cellR hm rfl rfl rfl (Nat.le_of_ble_eq_true rfl) rfl rfl))
 | refine op_box rfl (tl hn rfl) ?_
 | refine RunsD.step tabOk hn rfl rfl ?_
 | refine RunsD.nil ?_
 | refine Runs.toDraw 30 mixed hn rfl (by kernel_rfl) rfl ?_
 | ((first | refine RunsL.pe hn rfl rfl rfl ?_ | refine RunsD.pe rfl rfl ?_); first
 | refine ⟨_, pu_add rfl rfl (by omega), ?_⟩
 | refine ⟨_, pu_indexAddr_map rfl rfl (by omega) (by assumption), ?_⟩
 | refine ⟨_, pu_sub rfl rfl (by omega), ?_⟩
 | refine ⟨_, pu_pick_b rfl rfl rfl, ?_⟩
 | refine ⟨_, pu_mul rfl rfl (by omega), ?_⟩
 | refine ⟨_, pu_build rfl rfl rfl rfl rfl rfl, ?_⟩)
 | ((first | refine RunsL.guard_dec rfl rfl rfl ?_ ?_ | refine RunsL.guard_ndec rfl rfl rfl ?_ ?_ | refine RunsL.guard_nb rfl rfl rfl ?_ ?_ | refine RunsL.guard_b rfl rfl rfl ?_ ?_ | refine RunsD.guard_dec rfl rfl rfl ?_ ?_ | refine RunsD.guard_ndec rfl rfl rfl ?_ ?_ | refine RunsD.guard_nb rfl rfl rfl ?_ ?_ | refine RunsD.guard_b rfl rfl rfl ?_ ?_) <;> intro h <;> try (exfalso; first | omega | contradiction | (simp only [List.length_map] at h; omega))))
          exact rr_bool (decide_eq_true (he.2 ⟨h0, h1, take_eq_all (by rwa [show j = a.items.length by omega] at hQ) hlen⟩)).symm
      · repeat' (first
 | refine RunsL.step tabOk hn rfl ?_
 | refine RunsL.nil ?_
 | refine Runs.toRegion 30 rfl ?_
 | ((first | refine RunsL.pe hn rfl rfl rfl ?_ | refine RunsD.pe rfl rfl ?_); first
 | refine ⟨_, pu_callR (impl_EqualBytes a.bytes b.bytes) rfl, ?_⟩)
 | (refine Runs.ctls 30 rfl ?_; first | refine Runs.cond_t rfl ?_ | ((first | refine Runs.cond_yes rfl ?_ ?_ | refine Runs.cond_nno rfl ?_ ?_); · first | omega | rfl | assumption | (simp only [List.length_map]; omega)) | ((first | refine Runs.cond_no rfl ?_ ?_ | refine Runs.cond_nyes rfl ?_ ?_); · first | omega | rfl | assumption | (simp only [List.length_map]; omega)) | refine Runs.cond_ndec rfl (fun h => ?_) (fun h => ?_) | refine Runs.ret (ends_ro hm rfl rfl ?_) | exact Runs.ret (ends_cellR hm rfl rfl rfl (Nat.le_of_ble_eq_true rfl) rfl rfl))
 | refine op_box rfl (tl hn rfl) ?_
 | refine RunsD.step tabOk hn rfl rfl ?_
 | refine RunsD.nil ?_
 | refine Runs.toDraw 30 mixed hn rfl (by kernel_rfl) rfl ?_
 | ((first | refine RunsL.pe hn rfl rfl rfl ?_ | refine RunsD.pe rfl rfl ?_); first
 | refine ⟨_, pu_add rfl rfl (by omega), ?_⟩
 | refine ⟨_, pu_indexAddr_map rfl rfl (by omega) (by assumption), ?_⟩
 | refine ⟨_, pu_sub rfl rfl (by omega), ?_⟩
 | refine ⟨_, pu_pick_b rfl rfl rfl, ?_⟩
 | refine ⟨_, pu_mul rfl rfl (by omega), ?_⟩
 | refine ⟨_, pu_build rfl rfl rfl rfl rfl rfl, ?_⟩)
 | ((first | refine RunsL.guard_dec rfl rfl rfl ?_ ?_ | refine RunsL.guard_ndec rfl rfl rfl ?_ ?_ | refine RunsL.guard_nb rfl rfl rfl ?_ ?_ | refine RunsL.guard_b rfl rfl rfl ?_ ?_ | refine RunsD.guard_dec rfl rfl rfl ?_ ?_ | refine RunsD.guard_ndec rfl rfl rfl ?_ ?_ | refine RunsD.guard_nb rfl rfl rfl ?_ ?_ | refine RunsD.guard_b rfl rfl rfl ?_ ?_) <;> intro h <;> try (exfalso; first | omega | contradiction | (simp only [List.length_map] at h; omega))))
        all_goals exact rr_bool (decide_eq_false (fun e => hlen (by rw [e]))).symm
    · repeat' (first
 | refine RunsL.step tabOk hn rfl ?_
 | refine RunsL.nil ?_
 | refine Runs.toRegion 30 rfl ?_
 | ((first | refine RunsL.pe hn rfl rfl rfl ?_ | refine RunsD.pe rfl rfl ?_); first
 | refine ⟨_, pu_callR (impl_EqualBytes a.bytes b.bytes) rfl, ?_⟩)
 | (refine Runs.ctls 30 rfl ?_; first | refine Runs.cond_t rfl ?_ | ((first | refine Runs.cond_yes rfl ?_ ?_ | refine Runs.cond_nno rfl ?_ ?_); · first | omega | rfl | assumption | (simp only [List.length_map]; omega)) | ((first | refine Runs.cond_no rfl ?_ ?_ | refine Runs.cond_nyes rfl ?_ ?_); · first | omega | rfl | assumption | (simp only [List.length_map]; omega)) | refine Runs.cond_ndec rfl (fun h => ?_) (fun h => ?_) | refine Runs.ret (ends_ro hm rfl rfl ?_) | exact Runs.ret (ends_cellR hm rfl rfl rfl (Nat.le_of_ble_eq_true rfl) rfl rfl))
 | refine op_box rfl (tl hn rfl) ?_
 | refine RunsD.step tabOk hn rfl rfl ?_
 | refine RunsD.nil ?_
 | refine Runs.toDraw 30 mixed hn rfl (by kernel_rfl) rfl ?_
 | ((first | refine RunsL.pe hn rfl rfl rfl ?_ | refine RunsD.pe rfl rfl ?_); first
 | refine ⟨_, pu_add rfl rfl (by omega), ?_⟩
 | refine ⟨_, pu_indexAddr_map rfl rfl (by omega) (by assumption), ?_⟩
 | refine ⟨_, pu_sub rfl rfl (by omega), ?_⟩
 | refine ⟨_, pu_pick_b rfl rfl rfl, ?_⟩
 | refine ⟨_, pu_mul rfl rfl (by omega), ?_⟩
 | refine ⟨_, pu_build rfl rfl rfl rfl rfl rfl, ?_⟩)
 | ((first | refine RunsL.guard_dec rfl rfl rfl ?_ ?_ | refine RunsL.guard_ndec rfl rfl rfl ?_ ?_ | refine RunsL.guard_nb rfl rfl rfl ?_ ?_ | refine RunsL.guard_b rfl rfl rfl ?_ ?_ | refine RunsD.guard_dec rfl rfl rfl ?_ ?_ | refine RunsD.guard_ndec rfl rfl rfl ?_ ?_ | refine RunsD.guard_nb rfl rfl rfl ?_ ?_ | refine RunsD.guard_b rfl rfl rfl ?_ ?_) <;> intro h <;> try (exfalso; first | omega | contradiction | (simp only [List.length_map] at h; omega))))
      all_goals exact rr_bool (decide_eq_false (fun e => h1 (by rw [e]))).symm
  · repeat' (first
 | refine RunsL.step tabOk hn rfl ?_
 | refine RunsL.nil ?_
 | refine Runs.toRegion 30 rfl ?_
 | ((first | refine RunsL.pe hn rfl rfl rfl ?_ | refine RunsD.pe rfl rfl ?_); first
 | refine ⟨_, pu_callR (impl_EqualBytes a.bytes b.bytes) rfl, ?_⟩)
 | (refine Runs.ctls 30 rfl ?_; first | refine Runs.cond_t rfl ?_ | ((first | refine Runs.cond_yes rfl ?_ ?_ | refine Runs.cond_nno rfl ?_ ?_); · first | omega | rfl | assumption | (simp only [List.length_map]; omega)) | ((first | refine Runs.cond_no rfl ?_ ?_ | refine Runs.cond_nyes rfl ?_ ?_); · first | omega | rfl | assumption | (simp only [List.length_map]; omega)) | refine Runs.cond_ndec rfl (fun h => ?_) (fun h => ?_) | refine Runs.ret (ends_ro hm rfl rfl ?_) | exact Runs.ret (ends_cellR hm rfl rfl rfl (Nat.le_of_ble_eq_true rfl) rfl rfl))
 | refine op_box rfl (tl hn rfl) ?_
 | refine RunsD.step tabOk hn rfl rfl ?_
 | refine RunsD.nil ?_
 | refine Runs.toDraw 30 mixed hn rfl (by kernel_rfl) rfl ?_
 | ((first | refine RunsL.pe hn rfl rfl rfl ?_ | refine RunsD.pe rfl rfl ?_); first
 | refine ⟨_, pu_add rfl rfl (by omega), ?_⟩
 | refine ⟨_, pu_indexAddr_map rfl rfl (by omega) (by assumption), ?_⟩
 | refine ⟨_, pu_sub rfl rfl (by omega), ?_⟩
 | refine ⟨_, pu_pick_b rfl rfl rfl, ?_⟩
 | refine ⟨_, pu_mul rfl rfl (by omega), ?_⟩
 | refine ⟨_, pu_build rfl rfl rfl rfl rfl rfl, ?_⟩)
 | ((first | refine RunsL.guard_dec rfl rfl rfl ?_ ?_ | refine RunsL.guard_ndec rfl rfl rfl ?_ ?_ | refine RunsL.guard_nb rfl rfl rfl ?_ ?_ | refine RunsL.guard_b rfl rfl rfl ?_ ?_ | refine RunsD.guard_dec rfl rfl rfl ?_ ?_ | refine RunsD.guard_ndec rfl rfl rfl ?_ ?_ | refine RunsD.guard_nb rfl rfl rfl ?_ ?_ | refine RunsD.guard_b rfl rfl rfl ?_ ?_) <;> intro h <;> try (exfalso; first | omega | contradiction | (simp only [List.length_map] at h; omega))))
    all_goals exact rr_bool (decide_eq_false (fun e => h0 (by rw [e]))).symm
set_option maxHeartbeats 4000000 in
theorem impl_IsValidValue1 (d : Des) (ho : DesOk d) (hd : dtotal d ≤ 1048576) (r : Int) (v : Tre) (hv : v.Ok) : ACv Try.prog 21 [desR d, .int r, treR v] (.bool (decide (VldI d r v))) := by
  have hkn := known_ac d ho hd r
  have et : dtotal d = d.length + (d.map Rul.total).sum := rfl
  by_cases hK : Kn d r
  · obtain ⟨n, x, rfl, hn', hx⟩ := kn_nat hK
    have hc := validValue_ac hK.1 (by omega) v hv n x hx
    rw [Tre.cells_eq] at hc
    rw [decide_eq_true hK] at hkn
    refine ac_enter Try.func21 rfl _ Try.ntmps21 (by simp) fun C hn hm => ?_
    repeat' (first
 | refine RunsL.step tabOk hn rfl ?_
 | refine RunsL.nil ?_
 | refine Runs.toRegion 30 rfl ?_
 | (refine RunsL.pe hn rfl rfl rfl ?_; first
 | refine ⟨_, pu_callR hkn rfl, ?_⟩
 | refine ⟨_, pu_callL hc (.cons .ro (.cons .ro (.cons (Lends.obj rfl (.cons .ro (.cons .ro (.cons .ro .nil)))) .nil))), ?_⟩
 | refine ⟨_, pu_callL hc (.cons (Lends.agg (.cons .ro .nil)) (.cons .ro (.cons (Lends.obj rfl (.cons .ro (.cons .ro (.cons .ro .nil)))) .nil))), ?_⟩)
 | (refine Runs.ctls 30 rfl ?_; first | ((first | refine Runs.cond_yes rfl ?_ ?_ | refine Runs.cond_nno rfl ?_ ?_); · first | omega | rfl | assumption | (simp only [List.length_map]; omega)) | ((first | refine Runs.cond_no rfl ?_ ?_ | refine Runs.cond_nyes rfl ?_ ?_); · first | omega | rfl | assumption | (simp only [List.length_map]; omega)) | refine Runs.ret (ends_ro hm rfl rfl ?_) | exact Runs.ret (ends_cellR hm rfl rfl rfl (Nat.le_of_ble_eq_true rfl) rfl rfl))
 | refine op_box rfl (tl hn rfl) ?_
 | ((first | refine RunsL.guard_dec rfl rfl rfl ?_ ?_ | refine RunsL.guard_ndec rfl rfl rfl ?_ ?_ | refine RunsL.guard_nb rfl rfl rfl ?_ ?_ | refine RunsL.guard_b rfl rfl rfl ?_ ?_) <;> intro h <;> try (exfalso; first | omega | contradiction | (simp only [List.length_map] at h; omega))))
    all_goals exact rr_bool (decide_eq_decide.2 ⟨fun h => ⟨hK, h⟩, fun h => h.2⟩)
  · rw [decide_eq_false hK] at hkn
    refine ac_enter Try.func21 rfl _ Try.ntmps21 (by simp) fun C hn hm => ?_
    repeat' (first
 | refine RunsL.step tabOk hn rfl ?_
 | refine RunsL.nil ?_
 | refine Runs.toRegion 30 rfl ?_
 | (refine RunsL.pe hn rfl rfl rfl ?_; first
 | refine ⟨_, pu_callR hkn rfl, ?_⟩)
 | (refine Runs.ctls 30 rfl ?_; first | ((first | refine Runs.cond_yes rfl ?_ ?_ | refine Runs.cond_nno rfl ?_ ?_); · first | omega | rfl | assumption | (simp only [List.length_map]; omega)) | ((first | refine Runs.cond_no rfl ?_ ?_ | refine Runs.cond_nyes rfl ?_ ?_); · first | omega | rfl | assumption | (simp only [List.length_map]; omega)) | refine Runs.ret (ends_ro hm rfl rfl ?_) | exact Runs.ret (ends_cellR hm rfl rfl rfl (Nat.le_of_ble_eq_true rfl) rfl rfl))
 | refine op_box rfl (tl hn rfl) ?_
 | ((first | refine RunsL.guard_dec rfl rfl rfl ?_ ?_ | refine RunsL.guard_ndec rfl rfl rfl ?_ ?_ | refine RunsL.guard_nb rfl rfl rfl ?_ ?_ | refine RunsL.guard_b rfl rfl rfl ?_ ?_) <;> intro h <;> try (exfalso; first | omega | contradiction | (simp only [List.length_map] at h; omega))))
    all_goals exact rr_bool (decide_eq_false fun h => hK h.1).symm
end Go.Proofs.Ytnecoghfhcimeaa
