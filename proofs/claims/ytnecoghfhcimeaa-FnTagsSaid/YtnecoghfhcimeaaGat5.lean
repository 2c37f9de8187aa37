/- Gathered texts. -/
import Derived.Test.YtnecoghfhcimeaaGat0
import Derived.Test.YtnecoghfhcimeaaGat1
import Derived.Test.YtnecoghfhcimeaaGat2
import Derived.Test.YtnecoghfhcimeaaGat3
import Derived.Test.YtnecoghfhcimeaaGat4
/- The draw of a description that may be spoilt: the walk. -/
namespace Go.Proofs.Ytnecoghfhcimeaa
set_option linter.unusedSimpArgs false
set_option linter.unusedVariables false
set_option linter.unusedSectionVars false
open Go.RowKit
open AV (Mem Keeps)
set_option maxHeartbeats 16000000 in
theorem l4Any_d (b : List UInt8) (hb : b.length ≤ 1048576) : Drw Try.prog 123 73 b [] QAny := by
  refine drw_enter Try.func73 rfl _ Try.ntmps73 (by simp) fun C0 g u i h hn hm hu hi => Runs.know fun hnew0 => ?_
  have sd := Sd.start hm
  repeat' (first
 | refine RunsL.step tabOk hn rfl ?_
 | refine RunsL.nil ?_
 | refine Runs.toRegion 30 rfl ?_
 | (refine Runs.ctls 30 rfl ?_; first | refine Runs.cond_t rfl ?_ | refine Runs.cond_f rfl ?_ | (refine Runs.cond_no rfl ?_ ?_; · first | omega | rfl | assumption | (simp only [List.length_map]; omega)) | refine Runs.ret (ends_ro hm rfl rfl ?_) | exact Runs.ret (ends_cellR hm rfl rfl rfl (Nat.le_of_ble_eq_true rfl) rfl rfl))
 | refine op_storeF rfl rfl rfl rfl (Nat.le_of_ble_eq_true rfl) ?_
 | refine op_alloc (tl hn rfl) ?_
 | refine op_storeN rfl rfl rfl rfl (Nat.le_of_ble_eq_true rfl) ?_
 | (refine RunsL.pe hn rfl rfl rfl ?_; first
 | refine ⟨_, pu_sub rfl rfl (by omega), ?_⟩
 | refine ⟨_, pu_build rfl rfl rfl rfl rfl rfl, ?_⟩))
  refine op_drawX (l4Description_x b hb) rfl hu hi rfl .nil rfl (by first | rfl | repeat' (first | rfl | exact clns_ro _ | refine clnO_cons ?_ ?_)) (tl hn rfl) ?_
  rintro C1 i h v bs nx hu hi ⟨d, hD, hov⟩ hfix hnd hnew
  have hn := nx.n.trans hn
  have sd := sd.next nx (by simp)
  have hok : ∀ z, C1.ok z → C0.ok z := nx.ok
  obtain ⟨gR, cap, us, bs', rfl, rfl, hul, h1c, hrow, hov⟩ := rulsQ_open hD.pos hov
  have hgR := hfix gR (by simp)
  repeat' (first
 | (refine Runs.adopt 2 0 (e := 52) (sz := 8) rfl rfl hul (by decide) h1c hrow hgR ?_)
 | refine RunsL.step tabOk hn rfl ?_
 | refine RunsL.nil ?_
 | refine Runs.toRegion 30 rfl ?_
 | (refine Runs.ctls 30 rfl ?_; first | refine Runs.cond_t rfl ?_ | refine Runs.cond_f rfl ?_ | (refine Runs.cond_no rfl ?_ ?_; · first | omega | rfl | assumption | (simp only [List.length_map]; omega)) | refine Runs.ret (ends_ro hm rfl rfl ?_) | exact Runs.ret (ends_cellR hm rfl rfl rfl (Nat.le_of_ble_eq_true rfl) rfl rfl))
 | refine op_storeF rfl rfl rfl rfl (Nat.le_of_ble_eq_true rfl) ?_
 | refine op_alloc (tl hn rfl) ?_
 | refine op_storeN rfl rfl rfl rfl (Nat.le_of_ble_eq_true rfl) ?_
 | (refine RunsL.pe hn rfl rfl rfl ?_; first
 | refine ⟨_, pu_sub rfl rfl (by omega), ?_⟩
 | refine ⟨_, pu_build rfl rfl rfl rfl rfl rfl, ?_⟩))
  have hrowl : ((us.map RV.c).map AV.ro).length = d.length * 8 := by rw [List.length_map, List.length_map, hul]
  have hn : (adoptC C1 gR).n = 140 := hn
  have hu := adopt_hu hu hgR.2.2
  have sd := adopt_sd (g := gR) sd (hnew gR (by simp))
  have hnd' := List.nodup_cons.1 hnd
  have hfix : ∀ y ∈ bs', y < (adoptC C1 gR).w0.heap.size ∧ ¬ (adoptC C1 gR).mu y ∧ ¬ (adoptC C1 gR).ok y := fun y hy => ⟨(hfix y (by simp [hy])).1, fun q => q.elim (hfix y (by simp [hy])).2.1 fun e => hnd'.1 (e ▸ hy), (hfix y (by simp [hy])).2.2⟩
  have hnw : ∀ y ∈ bs', C0.w0.heap.size ≤ y := fun y hy => hnew y (by simp [hy])
  have hov : OV.rels (adoptC C1 gR).w0 (d.flatMap rulQ) us bs' := hov
  have hok : ∀ z, (adoptC C1 gR).ok z → C0.ok z := hok
  have hnd := hnd'.2
  clear hrow hgR hnew hnd'
  generalize adoptC C1 gR = C at *
  have hd6 := hD.most
  have hd1 := hD.pos
  repeat' (first
 | (refine op_drawI (t := 11) (l1Below_d b hb (d.length : Int) (by omega)) rfl hu hi rfl (LendsPL.ros [.int (d.length : Int)]) rfl (by first | rfl | repeat' (first | rfl | exact clns_ro _ | refine clnO_cons ?_ ?_)) (tl hn rfl) ?_; intro i h kk hi hk; obtain ⟨hka, hkb⟩ := hk.2 (by omega))
 | refine RunsL.step tabOk hn rfl ?_
 | refine RunsL.nil ?_
 | refine Runs.toRegion 30 rfl ?_
 | (refine RunsL.pe hn rfl rfl rfl ?_; first
 | refine ⟨_, pu_len_own (n := d.length) rfl rfl hrowl, ?_⟩)
 | (refine Runs.ctls 30 rfl ?_; first | refine Runs.cond_t rfl ?_ | refine Runs.cond_f rfl ?_ | (refine Runs.cond_no rfl ?_ ?_; · first | omega | rfl | assumption | (simp only [List.length_map]; omega)) | refine Runs.ret (ends_ro hm rfl rfl ?_) | exact Runs.ret (ends_cellR hm rfl rfl rfl (Nat.le_of_ble_eq_true rfl) rfl rfl))
 | refine op_storeF rfl rfl rfl rfl (Nat.le_of_ble_eq_true rfl) ?_
 | refine op_alloc (tl hn rfl) ?_
 | refine op_storeN rfl rfl rfl rfl (Nat.le_of_ble_eq_true rfl) ?_
 | (refine RunsL.pe hn rfl rfl rfl ?_; first
 | refine ⟨_, pu_sub rfl rfl (by omega), ?_⟩
 | refine ⟨_, pu_build rfl rfl rfl rfl rfl rfl, ?_⟩))
  refine op_drawI (t := 13) (l1Below_d b hb 16 (by omega)) rfl hu hi rfl (LendsPL.ros [.int 16]) rfl (by first | rfl | repeat' (first | rfl | exact clns_ro _ | refine clnO_cons ?_ ?_)) (tl hn rfl) ?_
  intro i h q hi hq
  refine RunsL.as [(0, .pin 0 0 g), (2, .obj 1 0), (3, .obj 2 0), (4, .int kk), (13, .int q)] [curOb 123 u i h, ⟨38, 0, [.nil]⟩, ⟨38, 0, [.own 3]⟩, ⟨52, 8, (us.map RV.c).map .ro⟩] ⟨rfl, rfl, rfl, rfl, rfl, trivial⟩ rfl ?_
  obtain ⟨hqa, hqb⟩ := hq.2 (by omega)
  obtain ⟨n, rfl⟩ : ∃ n : Nat, kk = n := ⟨kk.toNat, by omega⟩
  have hnl : n < d.length := by omega
  obtain ⟨r, hr⟩ : ∃ r, d[n]? = some r := ⟨_, List.getElem?_eq_getElem hnl⟩
  obtain ⟨r0, hr0, _⟩ := hD.first
  have hro := hD.ruleOk hr
  have hrt := hD.ruleTotal hr
  have hst : ∀ j, j < 8 → n * 8 + j < ((us.map RV.c).map AV.ro).length := fun j hj => by rw [hrowl]; omega
  obtain ⟨⟨hl0, hl1, hl2, hl3, hl4, hl5, _⟩, hxm⟩ : _ ∧ (1000 ≤ maxLen) := ⟨hro.lens, by decide⟩
  have hq' : q = 0 ∨ q = 1 ∨ q = 2 ∨ q = 3 ∨ q = 4 ∨ q = 5 ∨ q = 6 ∨ q = 7 ∨ q = 8 ∨ 8 < q := by omega
  rcases hq' with rfl | rfl | rfl | rfl | rfl | rfl | rfl | rfl | rfl | hq9
  · -- case 0
    obtain ⟨v, b1, b0, b2, hv, rfl, hvo, hset⟩ := rels_set _ _ _ _ _ hov (flat_at d n 0 r _ hr rfl)
    simp only [OV.rel] at hvo
    obtain ⟨rfl, rfl⟩ := hvo
    have hc := cells_at hv
    obtain ⟨v0, _, _, _, hv0, _, hvo0, _⟩ := rels_set _ _ _ _ _ hov (flat_at d 0 0 r0 _ hr0 rfl)
    simp only [OV.rel] at hvo0
    obtain ⟨rfl, _⟩ := hvo0
    have hc0 := cells_at hv0
    have hr0t := hD.ruleTotal hr0
    repeat' (first
 | refine Runs.toLag (id := 5) 30 [0, 1, 2, 3, 4, 5, 6, 7, 8, 9] [10, 11, 12, 13] mixed rfl rfl (by kernel_rfl) (by kernel_rfl) (by kernel_rfl) ?_
 | (refine RunsG.drawF (t := 26) (l1Str_d b hb [⟨#[]⟩, ⟨#[65]⟩, r0.name, ⟨#[118, 101, 114, 121, 108, 111, 110, 103, 110, 97, 109, 101, 105, 110, 100, 101, 101, 100]⟩] (Nat.le_of_ble_eq_true rfl) (Nat.le_of_ble_eq_true rfl)) qs_ok rfl hu hi (fun _ => LendsPL.ros [strsR [⟨#[]⟩, ⟨#[65]⟩, r0.name, ⟨#[118, 101, 114, 121, 108, 111, 110, 103, 110, 97, 109, 101, 105, 110, 100, 101, 101, 100]⟩]]) rfl (by first | rfl | repeat' (first | rfl | exact clns_ro _ | refine clnO_cons ?_ ?_)) (tl hn rfl) ?_; rintro i h _ hi ⟨x, rfl, hx⟩; have hxs := strs4 hr0t hx)
 | refine RunsG.done (RunsP.done 11 rfl (Nat.le_of_ble_eq_true rfl) (by kernel_rfl) (by kernel_rfl) ?_)
 | refine op_storeF rfl rfl rfl rfl (hst 0 (by decide)) ?_
 | refine RunsI.pur (fun _ _ _ _ => pu_auto tabOk rfl) rfl (tl hn rfl) rfl ?_
 | refine RunsI.pur (fun _ _ _ _ => pu_indexAddr_own (n := d.length) (p := 0) rfl rfl rfl rfl hrowl (by omega) (by omega)) rfl (tl hn rfl) rfl ?_
 | refine RunsI.pur (fun _ _ _ _ => pu_indexAddr_own (n := d.length) rfl rfl rfl rfl hrowl (by omega) (by omega)) rfl (tl hn rfl) rfl ?_
 | refine RunsI.pur (fun _ _ _ _ => pu_load_obj rfl rfl hc0) rfl (tl hn rfl) rfl ?_
 | refine RunsI.pur (fun _ _ _ _ => pu_load_obj rfl rfl hc) rfl (tl hn rfl) rfl ?_
 | refine RunsI.pur (fun _ _ _ _ => pu_sub rfl rfl (by omega)) rfl (tl hn rfl) rfl ?_
 | refine RunsI.pur (fun _ _ _ _ => pu_build rfl rfl rfl rfl rfl rfl) rfl (tl hn rfl) rfl ?_
 | refine RunsI.nil ?_
 | refine RunsG.pur (pu_auto tabOk rfl) rfl rfl (tl hn rfl) (by first | rfl | repeat' (first | rfl | exact clns_ro _ | refine clnO_cons ?_ ?_)) ?_
 | refine RunsG.pur (pu_indexAddr_own (n := d.length) (p := 0) rfl rfl rfl rfl hrowl (by omega) (by omega)) rfl rfl (tl hn rfl) (by first | rfl | repeat' (first | rfl | exact clns_ro _ | refine clnO_cons ?_ ?_)) ?_
 | refine RunsG.pur (pu_indexAddr_own (n := d.length) rfl rfl rfl rfl hrowl (by omega) (by omega)) rfl rfl (tl hn rfl) (by first | rfl | repeat' (first | rfl | exact clns_ro _ | refine clnO_cons ?_ ?_)) ?_
 | refine RunsG.pur (pu_load_obj rfl rfl hc0) rfl rfl (tl hn rfl) (by first | rfl | repeat' (first | rfl | exact clns_ro _ | refine clnO_cons ?_ ?_)) ?_
 | refine RunsG.pur (pu_load_obj rfl rfl hc) rfl rfl (tl hn rfl) (by first | rfl | repeat' (first | rfl | exact clns_ro _ | refine clnO_cons ?_ ?_)) ?_
 | refine RunsG.pur (pu_sub rfl rfl (by omega)) rfl rfl (tl hn rfl) (by first | rfl | repeat' (first | rfl | exact clns_ro _ | refine clnO_cons ?_ ?_)) ?_
 | refine RunsG.pur (pu_build rfl rfl rfl rfl rfl rfl) rfl rfl (tl hn rfl) (by first | rfl | repeat' (first | rfl | exact clns_ro _ | refine clnO_cons ?_ ?_)) ?_
 | (refine RunsL.pe hn rfl rfl rfl ?_; first
 | refine ⟨_, pu_indexAddr_own (n := d.length) (p := 0) rfl rfl rfl rfl hrowl (by omega) (by omega), ?_⟩
 | refine ⟨_, pu_indexAddr_own (n := d.length) rfl rfl rfl rfl hrowl (by omega) (by omega), ?_⟩)
 | refine RunsL.step tabOk hn rfl ?_
 | refine RunsL.nil ?_
 | refine Runs.toRegion 30 rfl ?_
 | (refine RunsL.pe hn rfl rfl rfl ?_; first
 | refine ⟨_, pu_load_obj rfl rfl hc0, ?_⟩
 | refine ⟨_, pu_load_obj rfl rfl hc, ?_⟩)
 | (refine Runs.ctls 30 rfl ?_; first | refine Runs.cond_t rfl ?_ | refine Runs.cond_f rfl ?_ | (refine Runs.cond_no rfl ?_ ?_; · first | omega | rfl | assumption | (simp only [List.length_map]; omega)) | refine Runs.ret (ends_ro hm rfl rfl ?_) | exact Runs.ret (ends_cellR hm rfl rfl rfl (Nat.le_of_ble_eq_true rfl) rfl rfl))
 | refine op_storeF rfl rfl rfl rfl (Nat.le_of_ble_eq_true rfl) ?_
 | refine op_alloc (tl hn rfl) ?_
 | refine op_storeN rfl rfl rfl rfl (Nat.le_of_ble_eq_true rfl) ?_
 | (refine RunsL.pe hn rfl rfl rfl ?_; first
 | refine ⟨_, pu_sub rfl rfl (by omega), ?_⟩
 | refine ⟨_, pu_build rfl rfl rfl rfl rfl rfl, ?_⟩))
    refine Runs.ctls 30 rfl (Runs.ret fun a w hs => ?_)
    exact any_end (us := us.set (n * 8 + 0) (.string x)) (bs := b1 ++ ([] ++ b2)) (d := d.set n ({ r with name := x })) (by decide) sd hok hnew0 rfl rfl rfl hi rfl rfl rfl (cells_set _ _ _) (by rw [← flat_set (j := 0) (o' := .c (.string x)) (by decide) rfl d n hr]; exact hset _ _ _ [] ⟨rfl, rfl⟩ fun _ _ => rfl) (fun y hy => hfix y (by simpa using hy)) (fun y hy => hnw y (by simpa using hy)) (anyD_set hD (ok_name hro (by omega)) (tot_name hrt hxs)) a w hs
  · -- case 1
    obtain ⟨v, b1, b0, b2, hv, rfl, hvo, hset⟩ := rels_set _ _ _ _ _ hov (flat_at d n 1 r _ hr rfl)
    simp only [OV.rel] at hvo
    obtain ⟨rfl, rfl⟩ := hvo
    have hc := cells_at hv
    repeat' (first
 | refine Runs.toLag (id := 7) 30 [0, 1, 2, 3] [4, 5, 6, 7, 8] mixed rfl rfl (by kernel_rfl) (by kernel_rfl) (by kernel_rfl) ?_
 | (refine RunsG.drawI (t := 35) (l1Below_d b hb 13 (by omega)) rfl hu hi (fun _ => LendsPL.ros [.int 13]) rfl (by first | rfl | repeat' (first | rfl | exact clns_ro _ | refine clnO_cons ?_ ?_)) (tl hn rfl) ?_; intro i h x hi hx; obtain ⟨hxa, hxb⟩ := hx.2 (by omega))
 | refine RunsG.done (RunsP.done 6 rfl (Nat.le_of_ble_eq_true rfl) (by kernel_rfl) (by kernel_rfl) ?_)
 | refine op_storeF rfl rfl rfl rfl (hst 1 (by decide)) ?_
 | refine RunsI.pur (fun _ _ _ _ => pu_auto tabOk rfl) rfl (tl hn rfl) rfl ?_
 | refine RunsI.pur (fun _ _ _ _ => pu_indexAddr_own (n := d.length) rfl rfl rfl rfl hrowl (by omega) (by omega)) rfl (tl hn rfl) rfl ?_
 | refine RunsI.pur (fun _ _ _ _ => pu_load_obj rfl rfl hc) rfl (tl hn rfl) rfl ?_
 | refine RunsI.pur (fun _ _ _ _ => pu_sub rfl rfl (by omega)) rfl (tl hn rfl) rfl ?_
 | refine RunsI.pur (fun _ _ _ _ => pu_build rfl rfl rfl rfl rfl rfl) rfl (tl hn rfl) rfl ?_
 | refine RunsI.nil ?_
 | refine RunsG.pur (pu_auto tabOk rfl) rfl rfl (tl hn rfl) (by first | rfl | repeat' (first | rfl | exact clns_ro _ | refine clnO_cons ?_ ?_)) ?_
 | refine RunsG.pur (pu_indexAddr_own (n := d.length) rfl rfl rfl rfl hrowl (by omega) (by omega)) rfl rfl (tl hn rfl) (by first | rfl | repeat' (first | rfl | exact clns_ro _ | refine clnO_cons ?_ ?_)) ?_
 | refine RunsG.pur (pu_load_obj rfl rfl hc) rfl rfl (tl hn rfl) (by first | rfl | repeat' (first | rfl | exact clns_ro _ | refine clnO_cons ?_ ?_)) ?_
 | refine RunsG.pur (pu_sub rfl rfl (by omega)) rfl rfl (tl hn rfl) (by first | rfl | repeat' (first | rfl | exact clns_ro _ | refine clnO_cons ?_ ?_)) ?_
 | refine RunsG.pur (pu_build rfl rfl rfl rfl rfl rfl) rfl rfl (tl hn rfl) (by first | rfl | repeat' (first | rfl | exact clns_ro _ | refine clnO_cons ?_ ?_)) ?_
 | (refine RunsL.pe hn rfl rfl rfl ?_; first
 | refine ⟨_, pu_indexAddr_own (n := d.length) rfl rfl rfl rfl hrowl (by omega) (by omega), ?_⟩)
 | refine RunsL.step tabOk hn rfl ?_
 | refine RunsL.nil ?_
 | refine Runs.toRegion 30 rfl ?_
 | (refine RunsL.pe hn rfl rfl rfl ?_; first
 | refine ⟨_, pu_load_obj rfl rfl hc, ?_⟩)
 | (refine Runs.ctls 30 rfl ?_; first | refine Runs.cond_t rfl ?_ | refine Runs.cond_f rfl ?_ | (refine Runs.cond_no rfl ?_ ?_; · first | omega | rfl | assumption | (simp only [List.length_map]; omega)) | refine Runs.ret (ends_ro hm rfl rfl ?_) | exact Runs.ret (ends_cellR hm rfl rfl rfl (Nat.le_of_ble_eq_true rfl) rfl rfl))
 | refine op_storeF rfl rfl rfl rfl (Nat.le_of_ble_eq_true rfl) ?_
 | refine op_alloc (tl hn rfl) ?_
 | refine op_storeN rfl rfl rfl rfl (Nat.le_of_ble_eq_true rfl) ?_
 | (refine RunsL.pe hn rfl rfl rfl ?_; first
 | refine ⟨_, pu_sub rfl rfl (by omega), ?_⟩
 | refine ⟨_, pu_build rfl rfl rfl rfl rfl rfl, ?_⟩))
    refine Runs.ctls 30 rfl (Runs.ret fun a w hs => ?_)
    exact any_end (us := us.set (n * 8 + 1) (.int .i64 (x - 1))) (bs := b1 ++ ([] ++ b2)) (d := d.set n ({ r with kind := x - 1 })) (by decide) sd hok hnew0 rfl rfl rfl hi rfl rfl rfl (cells_set _ _ _) (by rw [← flat_set (j := 1) (o' := .c (.int .i64 (x - 1))) (by decide) rfl d n hr]; exact hset _ _ _ [] ⟨rfl, rfl⟩ fun _ _ => rfl) (fun y hy => hfix y (by simpa using hy)) (fun y hy => hnw y (by simpa using hy)) (anyD_set hD (ok_kind hro (by constructor <;> omega)) (Nat.le_trans hrt (by decide))) a w hs
  · -- case 2
    obtain ⟨v, b1, b0, b2, hv, rfl, hvo, hset⟩ := rels_set _ _ _ _ _ hov (flat_at d n 2 r _ hr rfl)
    simp only [OV.rel] at hvo
    obtain ⟨rfl, rfl⟩ := hvo
    have hc := cells_at hv
    repeat' (first
 | refine Runs.toLag (id := 9) 30 [0, 1, 2, 3, 4] [5, 6, 7, 8] mixed rfl rfl (by kernel_rfl) (by kernel_rfl) (by kernel_rfl) ?_
 | (refine RunsG.drawI (t := 46) (l1Int_d b hb [-1, 0, 1, 4, 5, 64, 65] (by decide) (by decide)) rfl hu hi (fun _ => LendsPL.ros [intsR [-1, 0, 1, 4, 5, 64, 65]]) rfl (by first | rfl | repeat' (first | rfl | exact clns_ro _ | refine clnO_cons ?_ ?_)) (tl hn rfl) ?_; intro i h x hi hx)
 | refine RunsG.done (RunsP.done 6 rfl (Nat.le_of_ble_eq_true rfl) (by kernel_rfl) (by kernel_rfl) ?_)
 | refine op_storeF rfl rfl rfl rfl (hst 2 (by decide)) ?_
 | refine RunsI.pur (fun _ _ _ _ => pu_auto tabOk rfl) rfl (tl hn rfl) rfl ?_
 | refine RunsI.pur (fun _ _ _ _ => pu_indexAddr_own (n := d.length) rfl rfl rfl rfl hrowl (by omega) (by omega)) rfl (tl hn rfl) rfl ?_
 | refine RunsI.pur (fun _ _ _ _ => pu_load_obj rfl rfl hc) rfl (tl hn rfl) rfl ?_
 | refine RunsI.pur (fun _ _ _ _ => pu_sub rfl rfl (by omega)) rfl (tl hn rfl) rfl ?_
 | refine RunsI.pur (fun _ _ _ _ => pu_build rfl rfl rfl rfl rfl rfl) rfl (tl hn rfl) rfl ?_
 | refine RunsI.nil ?_
 | refine RunsG.pur (pu_auto tabOk rfl) rfl rfl (tl hn rfl) (by first | rfl | repeat' (first | rfl | exact clns_ro _ | refine clnO_cons ?_ ?_)) ?_
 | refine RunsG.pur (pu_indexAddr_own (n := d.length) rfl rfl rfl rfl hrowl (by omega) (by omega)) rfl rfl (tl hn rfl) (by first | rfl | repeat' (first | rfl | exact clns_ro _ | refine clnO_cons ?_ ?_)) ?_
 | refine RunsG.pur (pu_load_obj rfl rfl hc) rfl rfl (tl hn rfl) (by first | rfl | repeat' (first | rfl | exact clns_ro _ | refine clnO_cons ?_ ?_)) ?_
 | refine RunsG.pur (pu_sub rfl rfl (by omega)) rfl rfl (tl hn rfl) (by first | rfl | repeat' (first | rfl | exact clns_ro _ | refine clnO_cons ?_ ?_)) ?_
 | refine RunsG.pur (pu_build rfl rfl rfl rfl rfl rfl) rfl rfl (tl hn rfl) (by first | rfl | repeat' (first | rfl | exact clns_ro _ | refine clnO_cons ?_ ?_)) ?_
 | (refine RunsL.pe hn rfl rfl rfl ?_; first
 | refine ⟨_, pu_indexAddr_own (n := d.length) rfl rfl rfl rfl hrowl (by omega) (by omega), ?_⟩)
 | refine RunsL.step tabOk hn rfl ?_
 | refine RunsL.nil ?_
 | refine Runs.toRegion 30 rfl ?_
 | (refine RunsL.pe hn rfl rfl rfl ?_; first
 | refine ⟨_, pu_load_obj rfl rfl hc, ?_⟩)
 | (refine Runs.ctls 30 rfl ?_; first | refine Runs.cond_t rfl ?_ | refine Runs.cond_f rfl ?_ | (refine Runs.cond_no rfl ?_ ?_; · first | omega | rfl | assumption | (simp only [List.length_map]; omega)) | refine Runs.ret (ends_ro hm rfl rfl ?_) | exact Runs.ret (ends_cellR hm rfl rfl rfl (Nat.le_of_ble_eq_true rfl) rfl rfl))
 | refine op_storeF rfl rfl rfl rfl (Nat.le_of_ble_eq_true rfl) ?_
 | refine op_alloc (tl hn rfl) ?_
 | refine op_storeN rfl rfl rfl rfl (Nat.le_of_ble_eq_true rfl) ?_
 | (refine RunsL.pe hn rfl rfl rfl ?_; first
 | refine ⟨_, pu_sub rfl rfl (by omega), ?_⟩
 | refine ⟨_, pu_build rfl rfl rfl rfl rfl rfl, ?_⟩))
    refine Runs.ctls 30 rfl (Runs.ret fun a w hs => ?_)
    exact any_end (us := us.set (n * 8 + 2) (.int .i64 x)) (bs := b1 ++ ([] ++ b2)) (d := d.set n ({ r with size := x })) (by decide) sd hok hnew0 rfl rfl rfl hi rfl rfl rfl (cells_set _ _ _) (by rw [← flat_set (j := 2) (o' := .c (.int .i64 x)) (by decide) rfl d n hr]; exact hset _ _ _ [] ⟨rfl, rfl⟩ fun _ _ => rfl) (fun y hy => hfix y (by simpa using hy)) (fun y hy => hnw y (by simpa using hy)) (anyD_set hD (ok_size hro (by simp only [List.mem_cons, List.not_mem_nil, or_false] at hx; constructor <;> omega)) (Nat.le_trans hrt (by decide))) a w hs
  · -- case 3
    obtain ⟨v, b1, b0, b2, hv, rfl, hvo, hset⟩ := rels_set _ _ _ _ _ hov (flat_at d n 3 r _ hr rfl)
    simp only [OV.rel] at hvo
    obtain ⟨rfl, rfl⟩ := hvo
    have hc := cells_at hv
    repeat' (first
 | refine Runs.toLag (id := 11) 30 [0, 1, 2, 3, 4, 5, 6, 7, 8, 9] [10, 11, 12] mixed rfl rfl (by kernel_rfl) (by kernel_rfl) (by kernel_rfl) ?_
 | refine RunsG.done (RunsP.done 10 rfl (Nat.le_of_ble_eq_true rfl) (by kernel_rfl) (by kernel_rfl) ?_)
 | refine op_storeF rfl rfl rfl rfl (hst 3 (by decide)) ?_
 | refine RunsI.pur (fun _ _ _ _ => pu_auto tabOk rfl) rfl (tl hn rfl) rfl ?_
 | refine RunsI.pur (fun _ _ _ _ => pu_indexAddr_own (n := d.length) rfl rfl rfl rfl hrowl (by omega) (by omega)) rfl (tl hn rfl) rfl ?_
 | refine RunsI.pur (fun _ _ _ _ => pu_load_obj rfl rfl hc) rfl (tl hn rfl) rfl ?_
 | refine RunsI.pur (fun _ _ _ _ => pu_sub rfl rfl (by omega)) rfl (tl hn rfl) rfl ?_
 | refine RunsI.pur (fun _ _ _ _ => pu_build rfl rfl rfl rfl rfl rfl) rfl (tl hn rfl) rfl ?_
 | refine RunsI.nil ?_
 | refine RunsG.pur (pu_auto tabOk rfl) rfl rfl (tl hn rfl) (by first | rfl | repeat' (first | rfl | exact clns_ro _ | refine clnO_cons ?_ ?_)) ?_
 | refine RunsG.pur (pu_indexAddr_own (n := d.length) rfl rfl rfl rfl hrowl (by omega) (by omega)) rfl rfl (tl hn rfl) (by first | rfl | repeat' (first | rfl | exact clns_ro _ | refine clnO_cons ?_ ?_)) ?_
 | refine RunsG.pur (pu_load_obj rfl rfl hc) rfl rfl (tl hn rfl) (by first | rfl | repeat' (first | rfl | exact clns_ro _ | refine clnO_cons ?_ ?_)) ?_
 | refine RunsG.pur (pu_sub rfl rfl (by omega)) rfl rfl (tl hn rfl) (by first | rfl | repeat' (first | rfl | exact clns_ro _ | refine clnO_cons ?_ ?_)) ?_
 | refine RunsG.pur (pu_build rfl rfl rfl rfl rfl rfl) rfl rfl (tl hn rfl) (by first | rfl | repeat' (first | rfl | exact clns_ro _ | refine clnO_cons ?_ ?_)) ?_
 | (refine RunsL.pe hn rfl rfl rfl ?_; first
 | refine ⟨_, pu_indexAddr_own (n := d.length) rfl rfl rfl rfl hrowl (by omega) (by omega), ?_⟩)
 | refine RunsL.step tabOk hn rfl ?_
 | refine RunsL.nil ?_
 | refine Runs.toRegion 30 rfl ?_
 | (refine RunsL.pe hn rfl rfl rfl ?_; first
 | refine ⟨_, pu_load_obj rfl rfl hc, ?_⟩)
 | (refine Runs.ctls 30 rfl ?_; first | refine Runs.cond_t rfl ?_ | refine Runs.cond_f rfl ?_ | (refine Runs.cond_no rfl ?_ ?_; · first | omega | rfl | assumption | (simp only [List.length_map]; omega)) | refine Runs.ret (ends_ro hm rfl rfl ?_) | exact Runs.ret (ends_cellR hm rfl rfl rfl (Nat.le_of_ble_eq_true rfl) rfl rfl))
 | refine op_storeF rfl rfl rfl rfl (Nat.le_of_ble_eq_true rfl) ?_
 | refine op_alloc (tl hn rfl) ?_
 | refine op_storeN rfl rfl rfl rfl (Nat.le_of_ble_eq_true rfl) ?_
 | (refine RunsL.pe hn rfl rfl rfl ?_; first
 | refine ⟨_, pu_sub rfl rfl (by omega), ?_⟩
 | refine ⟨_, pu_build rfl rfl rfl rfl rfl rfl, ?_⟩))
    refine Runs.ctls 30 rfl (Runs.ret fun a w hs => ?_)
    exact any_end (us := us.set (n * 8 + 3) (.bool (!r.little))) (bs := b1 ++ ([] ++ b2)) (d := d.set n ({ r with little := !r.little })) (by decide) sd hok hnew0 rfl rfl rfl hi rfl rfl rfl (cells_set _ _ _) (by rw [← flat_set (j := 3) (o' := .c (.bool (!r.little))) (by decide) rfl d n hr]; exact hset _ _ _ [] ⟨rfl, rfl⟩ fun _ _ => rfl) (fun y hy => hfix y (by simpa using hy)) (fun y hy => hnw y (by simpa using hy)) (anyD_set hD (ok_little hro) (Nat.le_trans hrt (by decide))) a w hs
  · -- case 4
    obtain ⟨v, b1, b0, b2, hv, rfl, hvo, hset⟩ := rels_set _ _ _ _ _ hov (flat_at d n 7 r _ hr rfl)
    have hc := cells_at hv
    repeat' (first
 | refine Runs.toLag (id := 13) 30 [0, 1, 2, 3, 4, 5, 6, 7, 8, 9] [10, 11, 12, 13, 14, 15, 16] mixed rfl rfl (by kernel_rfl) (by kernel_rfl) (by kernel_rfl) ?_
 | refine RunsG.done (RunsP.done 14 rfl (Nat.le_of_ble_eq_true rfl) (by kernel_rfl) (by kernel_rfl) ?_)
 | (refine RunsG.app (t := 78) (us := r.kids.map fun z => Value.int .i64 z) rfl rfl hvo (fun q hq => hfix q (by simp [hq])) (by rw [List.length_map]; have := tot_lens hrt; omega) rfl (by first | rfl | repeat' (first | rfl | exact clns_ro _ | refine clnO_cons ?_ ?_)) (tl hn rfl) ?_; intro C2 v2 b' nx2 hov2 hfix2 hnd2; obtain ⟨A2, n2, c2, rfl⟩ := row_slice hov2; have hn := nx2.n.trans hn; obtain ⟨sd, hkp, hfix3, hnw3, hok⟩ := any_grow sd nx2 hfix hnd hnw hok hfix2)
 | (refine RunsG.drawI (t := 75) (l1Below_d b hb 8 (by omega)) rfl hu hi (fun _ => LendsPL.ros [.int 8]) rfl (by first | rfl | repeat' (first | rfl | exact clns_ro _ | refine clnO_cons ?_ ?_)) (tl hn rfl) ?_; intro i h x hi hx; obtain ⟨hxa, hxb⟩ := hx.2 (by omega))
 | refine op_storeF rfl rfl rfl rfl (hst 7 (by decide)) ?_
 | refine RunsI.pur (fun _ _ _ _ => pu_auto tabOk rfl) rfl (tl hn rfl) rfl ?_
 | refine RunsI.pur (fun _ _ _ _ => pu_indexAddr_own (n := d.length) rfl rfl rfl rfl hrowl (by omega) (by omega)) rfl (tl hn rfl) rfl ?_
 | refine RunsI.pur (fun _ _ _ _ => pu_load_obj rfl rfl hc) rfl (tl hn rfl) rfl ?_
 | refine RunsI.pur (fun _ _ _ _ => pu_sub rfl rfl (by omega)) rfl (tl hn rfl) rfl ?_
 | refine RunsI.pur (fun _ _ _ _ => pu_build rfl rfl rfl rfl rfl rfl) rfl (tl hn rfl) rfl ?_
 | refine RunsI.nil ?_
 | refine RunsG.pur (pu_auto tabOk rfl) rfl rfl (tl hn rfl) (by first | rfl | repeat' (first | rfl | exact clns_ro _ | refine clnO_cons ?_ ?_)) ?_
 | refine RunsG.pur (pu_indexAddr_own (n := d.length) rfl rfl rfl rfl hrowl (by omega) (by omega)) rfl rfl (tl hn rfl) (by first | rfl | repeat' (first | rfl | exact clns_ro _ | refine clnO_cons ?_ ?_)) ?_
 | refine RunsG.pur (pu_load_obj rfl rfl hc) rfl rfl (tl hn rfl) (by first | rfl | repeat' (first | rfl | exact clns_ro _ | refine clnO_cons ?_ ?_)) ?_
 | refine RunsG.pur (pu_sub rfl rfl (by omega)) rfl rfl (tl hn rfl) (by first | rfl | repeat' (first | rfl | exact clns_ro _ | refine clnO_cons ?_ ?_)) ?_
 | refine RunsG.pur (pu_build rfl rfl rfl rfl rfl rfl) rfl rfl (tl hn rfl) (by first | rfl | repeat' (first | rfl | exact clns_ro _ | refine clnO_cons ?_ ?_)) ?_
 | (refine RunsL.pe hn rfl rfl rfl ?_; first
 | refine ⟨_, pu_indexAddr_own (n := d.length) rfl rfl rfl rfl hrowl (by omega) (by omega), ?_⟩)
 | refine RunsL.step tabOk hn rfl ?_
 | refine RunsL.nil ?_
 | refine Runs.toRegion 30 rfl ?_
 | (refine RunsL.pe hn rfl rfl rfl ?_; first
 | refine ⟨_, pu_load_obj rfl rfl hc, ?_⟩)
 | (refine Runs.ctls 30 rfl ?_; first | refine Runs.cond_t rfl ?_ | refine Runs.cond_f rfl ?_ | (refine Runs.cond_no rfl ?_ ?_; · first | omega | rfl | assumption | (simp only [List.length_map]; omega)) | refine Runs.ret (ends_ro hm rfl rfl ?_) | exact Runs.ret (ends_cellR hm rfl rfl rfl (Nat.le_of_ble_eq_true rfl) rfl rfl))
 | refine op_storeF rfl rfl rfl rfl (Nat.le_of_ble_eq_true rfl) ?_
 | refine op_alloc (tl hn rfl) ?_
 | refine op_storeN rfl rfl rfl rfl (Nat.le_of_ble_eq_true rfl) ?_
 | (refine RunsL.pe hn rfl rfl rfl ?_; first
 | refine ⟨_, pu_sub rfl rfl (by omega), ?_⟩
 | refine ⟨_, pu_build rfl rfl rfl rfl rfl rfl, ?_⟩))
    refine Runs.ctls 30 rfl (Runs.ret fun a w hs => ?_)
    exact any_end (us := us.set (n * 8 + 7) (.slice A2 n2 c2)) (bs := b1 ++ (b' ++ b2)) (d := d.set n ({ r with kids := r.kids ++ [x - 1] })) (by decide) sd hok hnew0 rfl rfl rfl hi rfl rfl rfl (cells_set _ _ _) (by rw [← flat_set (r := r) (j := 7) (o' := intsQ (r.kids ++ [x - 1])) (r' := { r with kids := r.kids ++ [x - 1] }) (by decide) rfl d n hr]; exact hset _ _ _ _ (ints_snoc hov2) hkp) hfix3 hnw3 (anyD_set hD (ok_kids hro hrt (by constructor <;> omega)) (tot_kids hrt)) a w hs
  · -- case 5
    obtain ⟨v, b1, b0, b2, hv, rfl, hvo, hset⟩ := rels_set _ _ _ _ _ hov (flat_at d n 4 r _ hr rfl)
    have hc := cells_at hv
    repeat' (first
 | refine Runs.toLag (id := 15) 30 [0, 1, 2, 3, 4, 5, 6, 7, 8, 9, 10] [11, 12, 13, 14, 15, 16, 17] mixed rfl rfl (by kernel_rfl) (by kernel_rfl) (by kernel_rfl) ?_
 | refine RunsG.done (RunsP.done 15 rfl (Nat.le_of_ble_eq_true rfl) (by kernel_rfl) (by kernel_rfl) ?_)
 | (refine RunsG.app (t := 97) (us := r.bytes.map fun z : UInt8 => Value.int .u8 (z.toNat : Int)) (new := .int .u8 ((u8i x).toNat : Int)) rfl rfl hvo (fun q hq => hfix q (by simp [hq])) (by rw [List.length_map]; have := tot_lens hrt; omega) rfl (by first | rfl | repeat' (first | rfl | exact clns_ro _ | refine clnO_cons ?_ ?_)) (tl hn rfl) ?_; intro C2 v2 b' nx2 hov2 hfix2 hnd2; obtain ⟨A2, n2, c2, rfl⟩ := row_slice hov2; have hn := nx2.n.trans hn; obtain ⟨sd, hkp, hfix3, hnw3, hok⟩ := any_grow sd nx2 hfix hnd hnw hok hfix2)
 | (refine RunsG.drawI (t := 94) (l1Int_d b hb [0, 92] (by decide) (by decide)) rfl hu hi (fun _ => LendsPL.ros [intsR [0, 92]]) rfl (by first | rfl | repeat' (first | rfl | exact clns_ro _ | refine clnO_cons ?_ ?_)) (tl hn rfl) ?_; intro i h x hi hx)
 | refine op_storeF rfl rfl rfl rfl (hst 4 (by decide)) ?_
 | refine RunsI.pur (fun _ _ _ _ => pu_auto tabOk rfl) rfl (tl hn rfl) rfl ?_
 | refine RunsI.pur (fun _ _ _ _ => pu_toU8 rfl) rfl (tl hn rfl) rfl ?_
 | refine RunsI.pur (fun _ _ _ _ => pu_indexAddr_own (n := d.length) rfl rfl rfl rfl hrowl (by omega) (by omega)) rfl (tl hn rfl) rfl ?_
 | refine RunsI.pur (fun _ _ _ _ => pu_load_obj rfl rfl hc) rfl (tl hn rfl) rfl ?_
 | refine RunsI.pur (fun _ _ _ _ => pu_sub rfl rfl (by omega)) rfl (tl hn rfl) rfl ?_
 | refine RunsI.pur (fun _ _ _ _ => pu_build rfl rfl rfl rfl rfl rfl) rfl (tl hn rfl) rfl ?_
 | refine RunsI.nil ?_
 | refine RunsG.pur (pu_auto tabOk rfl) rfl rfl (tl hn rfl) (by first | rfl | repeat' (first | rfl | exact clns_ro _ | refine clnO_cons ?_ ?_)) ?_
 | refine RunsG.pur (pu_toU8 rfl) rfl rfl (tl hn rfl) (by first | rfl | repeat' (first | rfl | exact clns_ro _ | refine clnO_cons ?_ ?_)) ?_
 | refine RunsG.pur (pu_indexAddr_own (n := d.length) rfl rfl rfl rfl hrowl (by omega) (by omega)) rfl rfl (tl hn rfl) (by first | rfl | repeat' (first | rfl | exact clns_ro _ | refine clnO_cons ?_ ?_)) ?_
 | refine RunsG.pur (pu_load_obj rfl rfl hc) rfl rfl (tl hn rfl) (by first | rfl | repeat' (first | rfl | exact clns_ro _ | refine clnO_cons ?_ ?_)) ?_
 | refine RunsG.pur (pu_sub rfl rfl (by omega)) rfl rfl (tl hn rfl) (by first | rfl | repeat' (first | rfl | exact clns_ro _ | refine clnO_cons ?_ ?_)) ?_
 | refine RunsG.pur (pu_build rfl rfl rfl rfl rfl rfl) rfl rfl (tl hn rfl) (by first | rfl | repeat' (first | rfl | exact clns_ro _ | refine clnO_cons ?_ ?_)) ?_
 | (refine RunsL.pe hn rfl rfl rfl ?_; first
 | refine ⟨_, pu_toU8 rfl, ?_⟩
 | refine ⟨_, pu_indexAddr_own (n := d.length) rfl rfl rfl rfl hrowl (by omega) (by omega), ?_⟩)
 | refine RunsL.step tabOk hn rfl ?_
 | refine RunsL.nil ?_
 | refine Runs.toRegion 30 rfl ?_
 | (refine RunsL.pe hn rfl rfl rfl ?_; first
 | refine ⟨_, pu_load_obj rfl rfl hc, ?_⟩)
 | (refine Runs.ctls 30 rfl ?_; first | refine Runs.cond_t rfl ?_ | refine Runs.cond_f rfl ?_ | (refine Runs.cond_no rfl ?_ ?_; · first | omega | rfl | assumption | (simp only [List.length_map]; omega)) | refine Runs.ret (ends_ro hm rfl rfl ?_) | exact Runs.ret (ends_cellR hm rfl rfl rfl (Nat.le_of_ble_eq_true rfl) rfl rfl))
 | refine op_storeF rfl rfl rfl rfl (Nat.le_of_ble_eq_true rfl) ?_
 | refine op_alloc (tl hn rfl) ?_
 | refine op_storeN rfl rfl rfl rfl (Nat.le_of_ble_eq_true rfl) ?_
 | (refine RunsL.pe hn rfl rfl rfl ?_; first
 | refine ⟨_, pu_sub rfl rfl (by omega), ?_⟩
 | refine ⟨_, pu_build rfl rfl rfl rfl rfl rfl, ?_⟩))
    refine Runs.ctls 30 rfl (Runs.ret fun a w hs => ?_)
    exact any_end (us := us.set (n * 8 + 4) (.slice A2 n2 c2)) (bs := b1 ++ (b' ++ b2)) (d := d.set n ({ r with bytes := r.bytes ++ [u8i x] })) (by decide) sd hok hnew0 rfl rfl rfl hi rfl rfl rfl (cells_set _ _ _) (by rw [← flat_set (r := r) (j := 4) (o' := bytesQ (r.bytes ++ [u8i x])) (r' := { r with bytes := r.bytes ++ [u8i x] }) (by decide) rfl d n hr]; exact hset _ _ _ _ (bytes_snoc hov2) hkp) hfix3 hnw3 (anyD_set hD (ok_bytes hro hrt) (tot_bytes hrt)) a w hs
  · -- case 6
    obtain ⟨v, b1, b0, b2, hv, rfl, hvo, hset⟩ := rels_set _ _ _ _ _ hov (flat_at d n 5 r _ hr rfl)
    have hc := cells_at hv
    repeat' (first
 | refine Runs.toLag (id := 17) 30 [0, 1, 2, 3, 4, 5, 6, 7, 8, 9, 10] [11, 12, 13, 14, 15, 16, 17] mixed rfl rfl (by kernel_rfl) (by kernel_rfl) (by kernel_rfl) ?_
 | refine RunsG.done (RunsP.done 15 rfl (Nat.le_of_ble_eq_true rfl) (by kernel_rfl) (by kernel_rfl) ?_)
 | (refine RunsG.app (t := 115) (us := r.names.map fun z => Value.string z) rfl rfl hvo (fun q hq => hfix q (by simp [hq])) (by rw [List.length_map]; have := tot_lens hrt; omega) rfl (by first | rfl | repeat' (first | rfl | exact clns_ro _ | refine clnO_cons ?_ ?_)) (tl hn rfl) ?_; intro C2 v2 b' nx2 hov2 hfix2 hnd2; obtain ⟨A2, n2, c2, rfl⟩ := row_slice hov2; have hn := nx2.n.trans hn; obtain ⟨sd, hkp, hfix3, hnw3, hok⟩ := any_grow sd nx2 hfix hnd hnw hok hfix2)
 | (refine RunsG.drawF (t := 113) (l1Str_d b hb [⟨#[112, 49]⟩, ⟨#[81]⟩, ⟨#[122]⟩] (by decide) (by decide)) qs_ok rfl hu hi (fun _ => LendsPL.ros [strsR [⟨#[112, 49]⟩, ⟨#[81]⟩, ⟨#[122]⟩]]) rfl (by first | rfl | repeat' (first | rfl | exact clns_ro _ | refine clnO_cons ?_ ?_)) (tl hn rfl) ?_; rintro i h _ hi ⟨x, rfl, hx⟩; have hxs := strs3 hx)
 | refine op_storeF rfl rfl rfl rfl (hst 5 (by decide)) ?_
 | refine RunsI.pur (fun _ _ _ _ => pu_auto tabOk rfl) rfl (tl hn rfl) rfl ?_
 | refine RunsI.pur (fun _ _ _ _ => pu_indexAddr_own (n := d.length) rfl rfl rfl rfl hrowl (by omega) (by omega)) rfl (tl hn rfl) rfl ?_
 | refine RunsI.pur (fun _ _ _ _ => pu_load_obj rfl rfl hc) rfl (tl hn rfl) rfl ?_
 | refine RunsI.pur (fun _ _ _ _ => pu_sub rfl rfl (by omega)) rfl (tl hn rfl) rfl ?_
 | refine RunsI.pur (fun _ _ _ _ => pu_build rfl rfl rfl rfl rfl rfl) rfl (tl hn rfl) rfl ?_
 | refine RunsI.nil ?_
 | refine RunsG.pur (pu_auto tabOk rfl) rfl rfl (tl hn rfl) (by first | rfl | repeat' (first | rfl | exact clns_ro _ | refine clnO_cons ?_ ?_)) ?_
 | refine RunsG.pur (pu_indexAddr_own (n := d.length) rfl rfl rfl rfl hrowl (by omega) (by omega)) rfl rfl (tl hn rfl) (by first | rfl | repeat' (first | rfl | exact clns_ro _ | refine clnO_cons ?_ ?_)) ?_
 | refine RunsG.pur (pu_load_obj rfl rfl hc) rfl rfl (tl hn rfl) (by first | rfl | repeat' (first | rfl | exact clns_ro _ | refine clnO_cons ?_ ?_)) ?_
 | refine RunsG.pur (pu_sub rfl rfl (by omega)) rfl rfl (tl hn rfl) (by first | rfl | repeat' (first | rfl | exact clns_ro _ | refine clnO_cons ?_ ?_)) ?_
 | refine RunsG.pur (pu_build rfl rfl rfl rfl rfl rfl) rfl rfl (tl hn rfl) (by first | rfl | repeat' (first | rfl | exact clns_ro _ | refine clnO_cons ?_ ?_)) ?_
 | (refine RunsL.pe hn rfl rfl rfl ?_; first
 | refine ⟨_, pu_indexAddr_own (n := d.length) rfl rfl rfl rfl hrowl (by omega) (by omega), ?_⟩)
 | refine RunsL.step tabOk hn rfl ?_
 | refine RunsL.nil ?_
 | refine Runs.toRegion 30 rfl ?_
 | (refine RunsL.pe hn rfl rfl rfl ?_; first
 | refine ⟨_, pu_load_obj rfl rfl hc, ?_⟩)
 | (refine Runs.ctls 30 rfl ?_; first | refine Runs.cond_t rfl ?_ | refine Runs.cond_f rfl ?_ | (refine Runs.cond_no rfl ?_ ?_; · first | omega | rfl | assumption | (simp only [List.length_map]; omega)) | refine Runs.ret (ends_ro hm rfl rfl ?_) | exact Runs.ret (ends_cellR hm rfl rfl rfl (Nat.le_of_ble_eq_true rfl) rfl rfl))
 | refine op_storeF rfl rfl rfl rfl (Nat.le_of_ble_eq_true rfl) ?_
 | refine op_alloc (tl hn rfl) ?_
 | refine op_storeN rfl rfl rfl rfl (Nat.le_of_ble_eq_true rfl) ?_
 | (refine RunsL.pe hn rfl rfl rfl ?_; first
 | refine ⟨_, pu_sub rfl rfl (by omega), ?_⟩
 | refine ⟨_, pu_build rfl rfl rfl rfl rfl rfl, ?_⟩))
    refine Runs.ctls 30 rfl (Runs.ret fun a w hs => ?_)
    exact any_end (us := us.set (n * 8 + 5) (.slice A2 n2 c2)) (bs := b1 ++ (b' ++ b2)) (d := d.set n ({ r with names := r.names ++ [x] })) (by decide) sd hok hnew0 rfl rfl rfl hi rfl rfl rfl (cells_set _ _ _) (by rw [← flat_set (r := r) (j := 5) (o' := strsQ (r.names ++ [x])) (r' := { r with names := r.names ++ [x] }) (by decide) rfl d n hr]; exact hset _ _ _ _ (strs_snoc hov2) hkp) hfix3 hnw3 (anyD_set hD (ok_names hro hrt hxs) (tot_names hrt hxs)) a w hs
  · -- case 7
    obtain ⟨v, b1, b0, b2, hv, rfl, hvo, hset⟩ := rels_set _ _ _ _ _ hov (flat_at d n 6 r _ hr rfl)
    have hc := cells_at hv
    repeat' (first
 | refine Runs.toLag (id := 19) 30 [0, 1, 2, 3, 4, 5, 6, 7, 8, 9, 10] [11, 12, 13, 14, 15, 16, 17] mixed rfl rfl (by kernel_rfl) (by kernel_rfl) (by kernel_rfl) ?_
 | refine RunsG.done (RunsP.done 15 rfl (Nat.le_of_ble_eq_true rfl) (by kernel_rfl) (by kernel_rfl) ?_)
 | (refine RunsG.app (t := 133) (us := r.tags.map fun z => Value.int .i64 z) rfl rfl hvo (fun q hq => hfix q (by simp [hq])) (by rw [List.length_map]; have := tot_lens hrt; omega) rfl (by first | rfl | repeat' (first | rfl | exact clns_ro _ | refine clnO_cons ?_ ?_)) (tl hn rfl) ?_; intro C2 v2 b' nx2 hov2 hfix2 hnd2; obtain ⟨A2, n2, c2, rfl⟩ := row_slice hov2; have hn := nx2.n.trans hn; obtain ⟨sd, hkp, hfix3, hnw3, hok⟩ := any_grow sd nx2 hfix hnd hnw hok hfix2)
 | (refine RunsG.drawI (t := 131) (l1Int_d b hb [-1, 0, 5, 256, 70000] (by decide) (by decide)) rfl hu hi (fun _ => LendsPL.ros [intsR [-1, 0, 5, 256, 70000]]) rfl (by first | rfl | repeat' (first | rfl | exact clns_ro _ | refine clnO_cons ?_ ?_)) (tl hn rfl) ?_; intro i h x hi hx)
 | refine op_storeF rfl rfl rfl rfl (hst 6 (by decide)) ?_
 | refine RunsI.pur (fun _ _ _ _ => pu_auto tabOk rfl) rfl (tl hn rfl) rfl ?_
 | refine RunsI.pur (fun _ _ _ _ => pu_indexAddr_own (n := d.length) rfl rfl rfl rfl hrowl (by omega) (by omega)) rfl (tl hn rfl) rfl ?_
 | refine RunsI.pur (fun _ _ _ _ => pu_load_obj rfl rfl hc) rfl (tl hn rfl) rfl ?_
 | refine RunsI.pur (fun _ _ _ _ => pu_sub rfl rfl (by omega)) rfl (tl hn rfl) rfl ?_
 | refine RunsI.pur (fun _ _ _ _ => pu_build rfl rfl rfl rfl rfl rfl) rfl (tl hn rfl) rfl ?_
 | refine RunsI.nil ?_
 | refine RunsG.pur (pu_auto tabOk rfl) rfl rfl (tl hn rfl) (by first | rfl | repeat' (first | rfl | exact clns_ro _ | refine clnO_cons ?_ ?_)) ?_
 | refine RunsG.pur (pu_indexAddr_own (n := d.length) rfl rfl rfl rfl hrowl (by omega) (by omega)) rfl rfl (tl hn rfl) (by first | rfl | repeat' (first | rfl | exact clns_ro _ | refine clnO_cons ?_ ?_)) ?_
 | refine RunsG.pur (pu_load_obj rfl rfl hc) rfl rfl (tl hn rfl) (by first | rfl | repeat' (first | rfl | exact clns_ro _ | refine clnO_cons ?_ ?_)) ?_
 | refine RunsG.pur (pu_sub rfl rfl (by omega)) rfl rfl (tl hn rfl) (by first | rfl | repeat' (first | rfl | exact clns_ro _ | refine clnO_cons ?_ ?_)) ?_
 | refine RunsG.pur (pu_build rfl rfl rfl rfl rfl rfl) rfl rfl (tl hn rfl) (by first | rfl | repeat' (first | rfl | exact clns_ro _ | refine clnO_cons ?_ ?_)) ?_
 | (refine RunsL.pe hn rfl rfl rfl ?_; first
 | refine ⟨_, pu_indexAddr_own (n := d.length) rfl rfl rfl rfl hrowl (by omega) (by omega), ?_⟩)
 | refine RunsL.step tabOk hn rfl ?_
 | refine RunsL.nil ?_
 | refine Runs.toRegion 30 rfl ?_
 | (refine RunsL.pe hn rfl rfl rfl ?_; first
 | refine ⟨_, pu_load_obj rfl rfl hc, ?_⟩)
 | (refine Runs.ctls 30 rfl ?_; first | refine Runs.cond_t rfl ?_ | refine Runs.cond_f rfl ?_ | (refine Runs.cond_no rfl ?_ ?_; · first | omega | rfl | assumption | (simp only [List.length_map]; omega)) | refine Runs.ret (ends_ro hm rfl rfl ?_) | exact Runs.ret (ends_cellR hm rfl rfl rfl (Nat.le_of_ble_eq_true rfl) rfl rfl))
 | refine op_storeF rfl rfl rfl rfl (Nat.le_of_ble_eq_true rfl) ?_
 | refine op_alloc (tl hn rfl) ?_
 | refine op_storeN rfl rfl rfl rfl (Nat.le_of_ble_eq_true rfl) ?_
 | (refine RunsL.pe hn rfl rfl rfl ?_; first
 | refine ⟨_, pu_sub rfl rfl (by omega), ?_⟩
 | refine ⟨_, pu_build rfl rfl rfl rfl rfl rfl, ?_⟩))
    refine Runs.ctls 30 rfl (Runs.ret fun a w hs => ?_)
    exact any_end (us := us.set (n * 8 + 6) (.slice A2 n2 c2)) (bs := b1 ++ (b' ++ b2)) (d := d.set n ({ r with tags := r.tags ++ [x] })) (by decide) sd hok hnew0 rfl rfl rfl hi rfl rfl rfl (cells_set _ _ _) (by rw [← flat_set (r := r) (j := 6) (o' := intsQ (r.tags ++ [x])) (r' := { r with tags := r.tags ++ [x] }) (by decide) rfl d n hr]; exact hset _ _ _ _ (ints_snoc hov2) hkp) hfix3 hnw3 (anyD_set hD (ok_tags hro hrt (by simp only [List.mem_cons, List.not_mem_nil, or_false] at hx; constructor <;> omega)) (tot_tags hrt)) a w hs
  · -- case 8
    repeat' (first
 | refine RunsL.step tabOk hn rfl ?_
 | refine RunsL.nil ?_
 | refine Runs.toRegion 30 rfl ?_
 | (refine RunsL.pe hn rfl rfl rfl ?_; first
 | refine ⟨_, pu_buildS rfl, ?_⟩)
 | (refine Runs.ctls 30 rfl ?_; first | refine Runs.cond_t rfl ?_ | refine Runs.cond_f rfl ?_ | (refine Runs.cond_no rfl ?_ ?_; · first | omega | rfl | assumption | (simp only [List.length_map]; omega)) | refine Runs.ret (ends_ro hm rfl rfl ?_) | exact Runs.ret (ends_cellR hm rfl rfl rfl (Nat.le_of_ble_eq_true rfl) rfl rfl))
 | refine op_storeF rfl rfl rfl rfl (Nat.le_of_ble_eq_true rfl) ?_
 | refine op_alloc (tl hn rfl) ?_
 | refine op_storeN rfl rfl rfl rfl (Nat.le_of_ble_eq_true rfl) ?_
 | (refine RunsL.pe hn rfl rfl rfl ?_; first
 | refine ⟨_, pu_sub rfl rfl (by omega), ?_⟩
 | refine ⟨_, pu_build rfl rfl rfl rfl rfl rfl, ?_⟩))
    refine Runs.nilCell (e := 52) (sz := 8) 1 0 (by decide) rfl rfl ?_
    refine Runs.ctls 30 rfl (Runs.ret fun a w hs => ?_)
    exact any_end (p := 4) (us := []) (bs := []) (d := []) (by decide) sd hok hnew0 rfl rfl rfl hi rfl rfl rfl rfl ⟨rfl, rfl⟩ (by simp) (by simp) anyD_nil a w hs
  · -- none of them
    repeat' (first
 | refine RunsL.step tabOk hn rfl ?_
 | refine RunsL.nil ?_
 | refine Runs.toRegion 30 rfl ?_
 | (refine Runs.ctls 30 rfl ?_; first | refine Runs.cond_t rfl ?_ | refine Runs.cond_f rfl ?_ | (refine Runs.cond_no rfl ?_ ?_; · first | omega | rfl | assumption | (simp only [List.length_map]; omega)) | refine Runs.ret (ends_ro hm rfl rfl ?_) | exact Runs.ret (ends_cellR hm rfl rfl rfl (Nat.le_of_ble_eq_true rfl) rfl rfl))
 | refine op_storeF rfl rfl rfl rfl (Nat.le_of_ble_eq_true rfl) ?_
 | refine op_alloc (tl hn rfl) ?_
 | refine op_storeN rfl rfl rfl rfl (Nat.le_of_ble_eq_true rfl) ?_
 | (refine RunsL.pe hn rfl rfl rfl ?_; first
 | refine ⟨_, pu_sub rfl rfl (by omega), ?_⟩
 | refine ⟨_, pu_build rfl rfl rfl rfl rfl rfl, ?_⟩))
    refine Runs.ctls 30 rfl (Runs.ret fun a w hs => ?_)
    exact any_end (us := us) (bs := bs') (d := d) (by decide) sd hok hnew0 rfl rfl rfl hi rfl rfl rfl rfl hov hfix hnw (anyD_of hD) a w hs
end Go.Proofs.Ytnecoghfhcimeaa
