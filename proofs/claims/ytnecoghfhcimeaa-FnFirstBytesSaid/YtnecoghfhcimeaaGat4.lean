/- Gathered texts. -/
import Derived.Test.YtnecoghfhcimeaaGat0
import Derived.Test.YtnecoghfhcimeaaGat1
import Derived.Test.YtnecoghfhcimeaaGat2
import Derived.Test.YtnecoghfhcimeaaGat3
/- The draw of a description. -/
namespace Go.Proofs.Ytnecoghfhcimeaa
set_option linter.unusedSimpArgs false
set_option linter.unusedVariables false
open Go.RowKit
open AV (Mem Keeps)
structure DrawD (d : Des) : Prop where
  pos : 1 ≤ d.length
  most : d.length ≤ 6
  first : ∃ r0, d[0]? = some r0 ∧ r0.kind = 1
  rule : ∀ (j : Nat) r, d[j]? = some r → ∃ k, 1 ≤ k ∧ k ≤ 10 ∧ RuleD (d.take j) k r
theorem l4Make_d (b : List UInt8) (hb : b.length ≤ 1048576) (d : Des) (hd : d.length ≤ 24) (k : Int) (hk : 1 ≤ k ∧ k ≤ 10) (hi : k = 1 ∨ ∃ r0, d[0]? = some r0 ∧ r0.kind = 1) : Drw Try.prog 123 117 b [desR d, .int k] (QRul (RuleD d k)) := by
  by_cases h1 : k = 1
  · subst h1; exact l4Make1_d b hb d hd
  obtain ⟨r0, h0, hk0⟩ := hi.resolve_left h1
  have : k = 2 ∨ k = 3 ∨ k = 4 ∨ k = 5 ∨ k = 6 ∨ k = 7 ∨ k = 8 ∨ k = 9 ∨ k = 10 := by omega
  rcases this with rfl | rfl | rfl | rfl | rfl | rfl | rfl | rfl | rfl
  · exact l4Make2_d b hb d hd
  · exact l4Make3_d b hb d hd
  · exact l4Make4_d b hb d hd r0 h0 hk0
  · exact l4Make5_d b hb d hd r0 h0 hk0
  · exact l4Make6_d b hb d hd
  · exact l4Make7_d b hb d hd r0 h0 hk0
  · exact l4Make8_d b hb d hd
  · exact l4Make9_d b hb d hd
  · exact l4Make10_d b hb d hd
theorem DrawD.app {d : Des} {k : Int} {r : Rul} (h : DrawD d) (hl : d.length < 6) (hk : 1 ≤ k ∧ k ≤ 10) (hr : RuleD d k r) : DrawD (d ++ [r]) := by
  obtain ⟨r0, e0, k0⟩ := h.first
  refine ⟨by simp, by simp; omega, ⟨r0, ?_, k0⟩, fun j x hx => ?_⟩
  · rw [List.getElem?_append_left (by have := h.pos; omega)]; exact e0
  · rcases Nat.lt_or_ge j d.length with hj | hj
    · rw [List.getElem?_append_left hj] at hx
      rw [List.take_append_of_le_length (by omega)]
      exact h.rule j x hx
    · have hjl := (List.getElem?_eq_some_iff.1 hx).1
      simp only [List.length_append, List.length_singleton] at hjl
      have ej : j = d.length := by omega
      subst ej
      simp at hx; subst hx
      rw [List.take_left']
      · exact ⟨k, hk.1, hk.2, hr⟩
      · rfl
theorem DrawD.one {r : Rul} (hr : RuleD [] 1 r) : DrawD [r] := by
  refine ⟨by simp, by simp, ⟨r, rfl, hr.hkind⟩, fun j x hx => ?_⟩
  cases j with
  | zero => simp at hx; subst hx; exact ⟨1, by decide, by decide, hr⟩
  | succ j => simp at hx
set_option maxRecDepth 100000 in
instance tb_des : TB Try.prog 38 [(0, 1)] [.slice none 0 0] := ⟨_, _, _, rfl, rfl, rfl, rfl, by kernel_rfl, by decide⟩
def desRR (d : Des) : RR := .agg [.row 52 8 (d.map rulR).flatten]
def QDes (p : Des → Prop) (rr : RR) : Prop := ∃ d, rr = desRR d ∧ p d
theorem qdes_ok {p : Des → Prop} : ∀ rr, QDes p rr → ∃ r, Seals rr r ∧ ∃ d, r = desR d ∧ p d := by
  rintro _ ⟨d, rfl, hd⟩
  refine ⟨desR d, ?_, d, rfl, hd⟩
  unfold desRR desR rulsR
  simp only [Seals, SealsL]
  exact ⟨_, rfl, _, _, rfl, ⟨_, rfl, rfl, fun x hx => by obtain ⟨r, _, rfl⟩ := List.mem_map.1 hx; rfl⟩, rfl⟩
theorem ruls_len (d : Des) : (d.map rulR).flatten.length = d.length * 8 := by rw [flatten_len (sz := 8) fun x hx => by obtain ⟨r, _, rfl⟩ := List.mem_map.1 hx; rfl, List.length_map]
set_option maxHeartbeats 8000000 in
theorem l4Description_d (b : List UInt8) (hb : b.length ≤ 1048576) : Drw Try.prog 123 65 b [] (QDes DrawD) := by
  refine drw_enter Try.func65 rfl _ Try.ntmps65 (by simp) fun C g u i h hn hm hu hi => ?_
  have rl : ∀ d : Des, ∀ x ∈ d.map rulR, x.length = 8 := fun d x hx => by obtain ⟨r, _, rfl⟩ := List.mem_map.1 hx; rfl
  repeat' (first
 | refine Runs.nilCell (e := 52) (sz := 8) 2 0 (by decide) rfl rfl ?_
 | refine Runs.toLate (id := 2) 30 [0, 1, 2, 3] [4, 5, 6, 7, 8] mixed rfl rfl (by kernel_rfl) (by kernel_rfl) (by kernel_rfl) ?_
 | (refine RunsP.drawF (t := 10) (l4Make_d b hb [] (by simp) 1 (by omega) (.inl rfl)) qrul_ok rfl hu hi (fun _ => .cons (LendsP.agg (.cons (LendsP.own (i := 3) (o := ⟨52, 8, _⟩) (els := List.map rulR []) (by decide) rfl rfl (rl [])) .nil)) (.cons .ro .nil)) rfl (by first | rfl | repeat' (first | rfl | exact clns_ro _ | refine clnO_cons ?_ ?_)) (tl hn rfl) ?_; rintro i h _ hi ⟨r, rfl, hr⟩)
 | (refine op_drawI (l1Below_d b hb _ (by omega)) rfl hu hi rfl (LendsPL.ros [.int _]) rfl (by first | rfl | repeat' (first | rfl | exact clns_ro _ | refine clnO_cons ?_ ?_)) (tl hn rfl) ?_; intro i h x hi hx; obtain ⟨hxa, hxb⟩ := hx.2 (by omega))
 | refine RunsH.pur (fun _ _ => pu_auto tabOk rfl) rfl (tl hn rfl) rfl ?_
 | refine RunsH.pur (fun _ _ => pu_buildS rfl) rfl (tl hn rfl) rfl ?_
 | refine RunsH.pur (fun _ _ => pu_build rfl rfl rfl rfl rfl rfl) rfl (tl hn rfl) rfl ?_
 | refine RunsH.pur (fun _ _ => pu_add rfl rfl (by omega)) rfl (tl hn rfl) rfl ?_
 | refine RunsH.pur (fun _ _ => pu_sub rfl rfl (by omega)) rfl (tl hn rfl) rfl ?_
 | refine RunsH.pur (fun _ _ => pu_build rfl rfl rfl rfl rfl rfl) rfl (tl hn rfl) rfl ?_
 | refine RunsH.nil ?_
 | refine RunsP.pur (pu_auto tabOk rfl) rfl rfl (tl hn rfl) (by first | rfl | repeat' (first | rfl | exact clns_ro _ | refine clnO_cons ?_ ?_)) ?_
 | refine RunsP.pur (pu_buildS rfl) rfl rfl (tl hn rfl) (by first | rfl | repeat' (first | rfl | exact clns_ro _ | refine clnO_cons ?_ ?_)) ?_
 | refine RunsP.pur (pu_build rfl rfl rfl rfl rfl rfl) rfl rfl (tl hn rfl) (by first | rfl | repeat' (first | rfl | exact clns_ro _ | refine clnO_cons ?_ ?_)) ?_
 | refine RunsP.pur (pu_add rfl rfl (by omega)) rfl rfl (tl hn rfl) (by first | rfl | repeat' (first | rfl | exact clns_ro _ | refine clnO_cons ?_ ?_)) ?_
 | refine RunsP.pur (pu_sub rfl rfl (by omega)) rfl rfl (tl hn rfl) (by first | rfl | repeat' (first | rfl | exact clns_ro _ | refine clnO_cons ?_ ?_)) ?_
 | refine RunsP.pur (pu_build rfl rfl rfl rfl rfl rfl) rfl rfl (tl hn rfl) (by first | rfl | repeat' (first | rfl | exact clns_ro _ | refine clnO_cons ?_ ?_)) ?_
 | refine RunsL.step tabOk hn rfl ?_
 | refine RunsL.nil ?_
 | refine Runs.toRegion 30 rfl ?_
 | refine RunsP.done 6 rfl (Nat.le_of_ble_eq_true rfl) (by kernel_rfl) (by kernel_rfl) ?_
 | (refine RunsL.junk 2 0 rfl ?_; refine op_append (t := 12) (n := 0) (rs := []) rfl rfl rfl rfl rfl rfl rfl (FreeI.at_ ⟨by simp [curOb, AV.onlys, AV.only], by simp [AV.onlys, AV.only], ⟨trivial, trivial⟩, by simp [AV.onlys], trivial⟩) (by simp) (by simp) (tl hn rfl) ?_)
 | ((first | refine RunsL.pe hn rfl rfl rfl ?_ | refine RunsD.pe rfl rfl ?_); first
 | refine ⟨_, pu_buildS rfl, ?_⟩
 | refine ⟨_, pu_build rfl rfl rfl rfl rfl rfl, ?_⟩)
 | (refine Runs.ctls 30 rfl ?_; first | ((first | refine Runs.cond_yes rfl ?_ ?_ | refine Runs.cond_nno rfl ?_ ?_); · first | omega | rfl | assumption | (simp only [List.length_map]; omega)) | ((first | refine Runs.cond_no rfl ?_ ?_ | refine Runs.cond_nyes rfl ?_ ?_); · first | omega | rfl | assumption | (simp only [List.length_map]; omega)) | refine Runs.ret (ends_ro hm rfl rfl ?_) | exact Runs.ret (ends_cellR hm rfl rfl rfl (Nat.le_of_ble_eq_true rfl) rfl rfl))
 | refine op_storeF rfl rfl rfl rfl (Nat.le_of_ble_eq_true rfl) ?_
 | refine op_alloc (tl hn rfl) ?_
 | refine op_storeN rfl rfl rfl rfl (Nat.le_of_ble_eq_true rfl) ?_
 | ((first | refine RunsL.pe hn rfl rfl rfl ?_ | refine RunsD.pe rfl rfl ?_); first
 | refine ⟨_, pu_add rfl rfl (by omega), ?_⟩
 | refine ⟨_, pu_indexAddr_map rfl rfl (by omega) (by assumption), ?_⟩
 | refine ⟨_, pu_sub rfl rfl (by omega), ?_⟩
 | refine ⟨_, pu_pick_b rfl rfl rfl, ?_⟩
 | refine ⟨_, pu_mul rfl rfl (by omega), ?_⟩
 | refine ⟨_, pu_build rfl rfl rfl rfl rfl rfl, ?_⟩))
  obtain ⟨c, hc⟩ : ∃ c : Nat, x = c := ⟨x.toNat, by omega⟩
  subst hc
  have hD0 := DrawD.one hr
  refine Runs.loopI 30 rfl (fun m E z => ∃ (d : Des) (i h : Int), d.length + m ≤ 6 ∧ DrawD d ∧ CurOk b i ∧ E = [(0, .pin 0 0 g), (2, .obj 1 0), (3, .obj 2 0), (4, .int m)] ∧
    z = [curOb 123 u i h, ⟨38, 0, [.nil]⟩, ⟨38, 0, [.own 3]⟩, ⟨52, 8, (d.map rulR).flatten.map .ro⟩]) c [(0, .pin 0 0 g), (2, .obj 1 0), (3, .obj 2 0), (4, .int c)] ⟨rfl, rfl, rfl, rfl, trivial⟩ ⟨[r], i, h, by simp; omega, hD0, hi, rfl, rfl⟩ fun m E z ⟨d, i, h, hlc, hD, hi, hE, hz⟩ ih => ?_
  subst hE; subst hz
  have hfl := ruls_len d
  by_cases hm0 : 0 < m
  · repeat' (first
 | refine Runs.toLate (id := 6) 30 [0, 1, 2, 3, 4] [5, 6, 7, 8, 9, 10, 11] mixed rfl rfl (by kernel_rfl) (by kernel_rfl) (by kernel_rfl) ?_
 | (refine RunsP.drawI (t := 25) (l1Below_d b hb 10 (by omega)) rfl hu hi (fun _ => LendsPL.ros [.int 10]) rfl (by first | rfl | repeat' (first | rfl | exact clns_ro _ | refine clnO_cons ?_ ?_)) (tl hn rfl) ?_; intro i h q hi hq; obtain ⟨hqa, hqb⟩ := hq.2 (by omega))
 | (refine RunsP.drawF (t := 27) (l4Make_d b hb d (by omega) (1 + q) (by omega) (.inr hD.first)) qrul_ok rfl hu hi (fun _ => .cons (LendsP.agg (.cons (LendsP.own (i := 3) (o := ⟨52, 8, _⟩) (els := List.map rulR d) (by decide) rfl rfl (rl d)) .nil)) (.cons .ro .nil)) rfl (by first | rfl | repeat' (first | rfl | exact clns_ro _ | refine clnO_cons ?_ ?_)) (tl hn rfl) ?_; rintro i h _ hi ⟨r, rfl, hr⟩)
 | refine RunsH.pur (fun _ _ => pu_auto tabOk rfl) rfl (tl hn rfl) rfl ?_
 | refine RunsH.pur (fun _ _ => pu_add rfl rfl (by omega)) rfl (tl hn rfl) rfl ?_
 | refine RunsH.pur (fun _ _ => pu_build rfl rfl rfl rfl rfl rfl) rfl (tl hn rfl) rfl ?_
 | refine RunsH.pur (fun _ _ => pu_add rfl rfl (by omega)) rfl (tl hn rfl) rfl ?_
 | refine RunsH.pur (fun _ _ => pu_sub rfl rfl (by omega)) rfl (tl hn rfl) rfl ?_
 | refine RunsH.pur (fun _ _ => pu_build rfl rfl rfl rfl rfl rfl) rfl (tl hn rfl) rfl ?_
 | refine RunsH.nil ?_
 | refine RunsP.pur (pu_auto tabOk rfl) rfl rfl (tl hn rfl) (by first | rfl | repeat' (first | rfl | exact clns_ro _ | refine clnO_cons ?_ ?_)) ?_
 | refine RunsP.pur (pu_add rfl rfl (by omega)) rfl rfl (tl hn rfl) (by first | rfl | repeat' (first | rfl | exact clns_ro _ | refine clnO_cons ?_ ?_)) ?_
 | refine RunsP.pur (pu_build rfl rfl rfl rfl rfl rfl) rfl rfl (tl hn rfl) (by first | rfl | repeat' (first | rfl | exact clns_ro _ | refine clnO_cons ?_ ?_)) ?_
 | refine RunsP.pur (pu_add rfl rfl (by omega)) rfl rfl (tl hn rfl) (by first | rfl | repeat' (first | rfl | exact clns_ro _ | refine clnO_cons ?_ ?_)) ?_
 | refine RunsP.pur (pu_sub rfl rfl (by omega)) rfl rfl (tl hn rfl) (by first | rfl | repeat' (first | rfl | exact clns_ro _ | refine clnO_cons ?_ ?_)) ?_
 | refine RunsP.pur (pu_build rfl rfl rfl rfl rfl rfl) rfl rfl (tl hn rfl) (by first | rfl | repeat' (first | rfl | exact clns_ro _ | refine clnO_cons ?_ ?_)) ?_
 | refine RunsL.step tabOk hn rfl ?_
 | refine RunsL.nil ?_
 | refine Runs.toRegion 30 rfl ?_
 | refine RunsP.done 9 rfl (Nat.le_of_ble_eq_true rfl) (by kernel_rfl) (by kernel_rfl) ?_
 | (refine RunsL.junk 2 0 rfl ?_; refine op_append (t := 29) (n := d.length) rfl rfl rfl rfl rfl rfl (by rw [hfl]) (FreeI.at_ ⟨by simp [curOb, AV.onlys, AV.only], by simp [AV.onlys, AV.only], by simp [AV.onlys, AV.only], onlys_ro _ _, trivial⟩) (by simp; omega) (by simp; omega) (tl hn rfl) ?_)
 | ((first | refine RunsL.pe hn rfl rfl rfl ?_ | refine RunsD.pe rfl rfl ?_); first
 | refine ⟨_, pu_add rfl rfl (by omega), ?_⟩
 | refine ⟨_, pu_build rfl rfl rfl rfl rfl rfl, ?_⟩)
 | (refine Runs.ctls 30 rfl ?_; first | ((first | refine Runs.cond_yes rfl ?_ ?_ | refine Runs.cond_nno rfl ?_ ?_); · first | omega | rfl | assumption | (simp only [List.length_map]; omega)) | ((first | refine Runs.cond_no rfl ?_ ?_ | refine Runs.cond_nyes rfl ?_ ?_); · first | omega | rfl | assumption | (simp only [List.length_map]; omega)) | refine Runs.ret (ends_ro hm rfl rfl ?_) | exact Runs.ret (ends_cellR hm rfl rfl rfl (Nat.le_of_ble_eq_true rfl) rfl rfl))
 | refine op_storeF rfl rfl rfl rfl (Nat.le_of_ble_eq_true rfl) ?_
 | refine op_alloc (tl hn rfl) ?_
 | refine op_storeN rfl rfl rfl rfl (Nat.le_of_ble_eq_true rfl) ?_
 | ((first | refine RunsL.pe hn rfl rfl rfl ?_ | refine RunsD.pe rfl rfl ?_); first
 | refine ⟨_, pu_add rfl rfl (by omega), ?_⟩
 | refine ⟨_, pu_indexAddr_map rfl rfl (by omega) (by assumption), ?_⟩
 | refine ⟨_, pu_sub rfl rfl (by omega), ?_⟩
 | refine ⟨_, pu_pick_b rfl rfl rfl, ?_⟩
 | refine ⟨_, pu_mul rfl rfl (by omega), ?_⟩
 | refine ⟨_, pu_build rfl rfl rfl rfl rfl rfl, ?_⟩))
    refine ih (m - 1) _ _ _ (by omega) ⟨d ++ [r], i, h, by simp; omega, hD.app (by omega) (by omega) hr, hi, rfl, ?_⟩ ⟨rfl, rfl, rfl, ?_, trivial⟩
    · simp; rfl
    · show AV.int _ = AV.int _
      congr 1; omega
  · repeat' (first
 | refine RunsL.step tabOk hn rfl ?_
 | refine RunsL.nil ?_
 | refine Runs.toRegion 30 rfl ?_
 | (refine Runs.ctls 30 rfl ?_; first | ((first | refine Runs.cond_yes rfl ?_ ?_ | refine Runs.cond_nno rfl ?_ ?_); · first | omega | rfl | assumption | (simp only [List.length_map]; omega)) | ((first | refine Runs.cond_no rfl ?_ ?_ | refine Runs.cond_nyes rfl ?_ ?_); · first | omega | rfl | assumption | (simp only [List.length_map]; omega)) | refine Runs.ret (ends_ro hm rfl rfl ?_) | exact Runs.ret (ends_cellR hm rfl rfl rfl (Nat.le_of_ble_eq_true rfl) rfl rfl))
 | refine op_storeF rfl rfl rfl rfl (Nat.le_of_ble_eq_true rfl) ?_
 | refine op_alloc (tl hn rfl) ?_
 | refine op_storeN rfl rfl rfl rfl (Nat.le_of_ble_eq_true rfl) ?_
 | ((first | refine RunsL.pe hn rfl rfl rfl ?_ | refine RunsD.pe rfl rfl ?_); first
 | refine ⟨_, pu_add rfl rfl (by omega), ?_⟩
 | refine ⟨_, pu_indexAddr_map rfl rfl (by omega) (by assumption), ?_⟩
 | refine ⟨_, pu_sub rfl rfl (by omega), ?_⟩
 | refine ⟨_, pu_pick_b rfl rfl rfl, ?_⟩
 | refine ⟨_, pu_mul rfl rfl (by omega), ?_⟩
 | refine ⟨_, pu_build rfl rfl rfl rfl rfl rfl, ?_⟩))
    exact Runs.ctls 30 rfl (Runs.ret (endsD1 hm rfl rfl rfl hi (.agg [.own 3]) (by
      simp only [ResV]
      exact ⟨1, 0, _, rfl, rfl, .inr ⟨1, by infer_instance, Nat.le_refl _, rfl⟩⟩) (desRR d) [3] (by
      simp only [desRR, Harv, Harvs]
      exact ⟨_, rfl, _, _, [3], [], rfl, rfl, ⟨3, rfl, rfl, rfl⟩, rfl, rfl⟩) (by decide) (by decide) ⟨d, rfl, hD⟩))
end Go.Proofs.Ytnecoghfhcimeaa
/- What is drawn is valid: plain laws; the draw of a description as a call. -/
namespace Go.Proofs.Ytnecoghfhcimeaa
set_option linter.unusedSimpArgs false
set_option linter.unusedVariables false
open Go.RowKit
theorem itoaS_one {n : Nat} (h : n < 10) : itoaS (n : Int) = ⟨#[UInt8.ofNat (48 + n)]⟩ := by
  unfold itoaS Lib.itoa
  rw [if_neg (by omega), Int.toNat_natCast, Lib.decDigits_one h]
theorem ba_inv {s : ByteArray} {k : Nat} {c : UInt8} (h : s[k]? = some c) : s.data.toList[k]? = some c := by
  rw [Array.getElem?_toList]
  have hk : k < s.size := by
    rcases Nat.lt_or_ge k s.size with h' | h'
    · exact h'
    · rw [getElem?_neg s k (by omega)] at h; cases h
  rw [getElem?_pos s k hk] at h
  injection h with h
  rw [Array.getElem?_eq_getElem (show k < s.data.size from hk)]
  exact congrArg some h
theorem cat_data (a : ByteArray) (x : UInt8) : (a ++ (⟨#[x]⟩ : ByteArray)).data.toList = a.data.toList ++ [x] := by simp
theorem ncat_size (a : ByteArray) (x : UInt8) : (a ++ (⟨#[x]⟩ : ByteArray)).size = a.size + 1 := by rw [ByteArray.size_append]; rfl
theorem ba_len (s : ByteArray) : s.data.toList.length = s.size := by rw [Array.length_toList]; rfl
def Low (a : ByteArray) : Prop := 1 ≤ a.size ∧ a.size ≤ 4 ∧ ∀ x ∈ a.data.toList, 97 ≤ x.toNat ∧ x.toNat ≤ 122
theorem baseA_low : ∀ a ∈ baseA, Low a := by
  intro x hx
  simp only [baseA, List.mem_cons, List.not_mem_nil, or_false] at hx
  rcases hx with rfl | rfl | rfl | rfl | rfl <;> exact ⟨by decide, by decide, by decide⟩
theorem baseP_low : ∀ a ∈ baseP, Low a := by
  intro x hx
  simp only [baseP, List.mem_cons, List.not_mem_nil, or_false] at hx
  rcases hx with rfl | rfl | rfl <;> exact ⟨by decide, by decide, by decide⟩
theorem nm_cat {a : ByteArray} (h : Low a) {n : Nat} (hn : n < 10) : IsNm (a ++ itoaS (n : Int)) := by
  rw [itoaS_one hn]
  refine ⟨by rw [ncat_size]; omega, by rw [ncat_size]; have := h.2.1; omega, fun i c hc => ?_⟩
  have h1 := ba_inv hc
  rw [cat_data] at h1
  have hal := ba_len a
  rcases Nat.lt_or_ge i a.size with hi | hi
  · rw [List.getElem?_append_left (by omega)] at h1
    have := h.2.2 c (List.mem_of_getElem? h1)
    exact .inl this
  · have hil := (List.getElem?_eq_some_iff.1 h1).1
    simp only [List.length_append, List.length_singleton] at hil
    have ei : i = a.data.toList.length := by omega
    subst ei
    rw [List.getElem?_append_right (Nat.le_refl _), Nat.sub_self] at h1
    have h1' : UInt8.ofNat (48 + n) = c := by simpa only [List.getElem?_cons_zero, Option.some.injEq] using h1
    subst h1'
    have := h.1
    refine .inr ⟨?_, ?_, by omega⟩ <;> (rw [UInt8.toNat_ofNat']; omega)
theorem cat_inj {a a' : ByteArray} {n n' : Nat} (hn : n < 10) (hn' : n' < 10) (h : a ++ itoaS (n : Int) = a' ++ itoaS (n' : Int)) : n = n' := by
  rw [itoaS_one hn, itoaS_one hn'] at h
  have h1 := congrArg (fun s : ByteArray => s.data.toList.getLast?) h
  simp only [cat_data, List.getLast?_append, List.getLast?_singleton, Option.some_or, Option.some.injEq] at h1
  have h2 := congrArg UInt8.toNat h1
  rw [UInt8.toNat_ofNat', UInt8.toNat_ofNat'] at h2
  omega
theorem ncat_le {a : ByteArray} (h : Low a) {n : Nat} (hn : n < 10) : (a ++ itoaS (n : Int)).size ≤ 5 := by
  rw [itoaS_one hn, ncat_size]; have := h.2.1; omega
theorem IsInt.up {d : Des} {j : Nat} {x : Int} (h : IsInt (d.take j) x) : IsInt d x ∧ x < j := by
  obtain ⟨h1, h2, r, h3, h4⟩ := h
  rw [List.length_take] at h2
  have hj : x.toNat < j := by omega
  rw [List.getElem?_take_of_lt hj] at h3
  exact ⟨⟨h1, by omega, r, h3, h4⟩, by omega⟩
structure IsInt' (d : Des) (x : Int) : Prop where
  int : IsInt d x
  lim : 255 ≤ lim d x
theorem DrawD.int {d : Des} (h : DrawD d) {x : Int} (hx : IsInt d x) : 255 ≤ lim d x := by
  obtain ⟨h1, h2, r, h3, h4⟩ := hx
  obtain ⟨k, k1, k2, hr⟩ := h.rule _ r h3
  have ek : k = 1 := by rw [← hr.hkind]; exact h4
  have hs := hr.hsize.1 ek
  rw [lim_yes h3 ⟨h1, h4, hs.1, by omega⟩]
  have := @pow8_le r.size
  omega
section
variable {d : Des} (h : DrawD d) {j : Nat} {r : Rul} (hj : d[j]? = some r)
include h hj
theorem DrawD.kinds : ∃ k, 1 ≤ k ∧ k ≤ 10 ∧ RuleD (d.take j) k r ∧ r.kind = k ∧ (d.take j).length = j ∧ j < d.length := by
  obtain ⟨k, k1, k2, hr⟩ := h.rule j r hj
  have hjl := (List.getElem?_eq_some_iff.1 hj).1
  exact ⟨k, k1, k2, hr, hr.hkind, by rw [List.length_take]; omega, hjl⟩
theorem DrawD.kid : ∀ z ∈ r.kids, 0 ≤ z ∧ z < j := by
  obtain ⟨k, k1, k2, hr, hk, hl, hjl⟩ := h.kinds hj
  have hInt : ∀ x, IsInt (d.take j) x → 0 ≤ x ∧ x < j := fun x hx => ⟨hx.1, hx.up.2⟩
  have hpos : 2 ≤ k → 0 < j := fun h2 => by
    rcases Nat.eq_zero_or_pos j with e | e
    · subst e
      obtain ⟨r0, e0, k0⟩ := h.first
      rw [e0] at hj; injection hj with hj; subst hj
      omega
    · exact e
  have hIn : 2 ≤ k → ∀ x, InD (d.take j) x → 0 ≤ x ∧ x < j := fun h2 x hx => by
    have := hx.2 (by rw [hl]; exact hpos h2)
    rw [hl] at this; exact this
  intro z hz
  obtain ⟨g4, g5, g6, g7, g8, g1⟩ := hr.hkids
  have hc : k = 1 ∨ k = 2 ∨ k = 3 ∨ k = 4 ∨ k = 5 ∨ k = 6 ∨ k = 7 ∨ k = 8 ∨ k = 9 ∨ k = 10 := by omega
  rcases hc with e | e | e | e | e | e | e | e | e | e
  · rw [g1 (.inl e)] at hz; simp at hz
  · rw [g1 (.inr (.inl e))] at hz; simp at hz
  · rw [g1 (.inr (.inr (.inl e)))] at hz; simp at hz
  · obtain ⟨x, h1, e1⟩ := g4 e
    rw [e1] at hz; simp at hz; subst hz; exact hInt _ h1
  · obtain ⟨x, y, h1, h2, e1⟩ := g5 e
    rw [e1] at hz; simp at hz
    rcases hz with rfl | rfl
    · exact hInt _ h1
    · exact hIn (by omega) _ h2
  · exact hIn (by omega) _ ((g6 e).2 z hz)
  · obtain ⟨x, l, h1, _, h2, e1⟩ := g7 e
    rw [e1] at hz
    rcases List.mem_cons.1 hz with rfl | hz
    · exact hInt _ h1
    · exact hIn (by omega) _ (h2 z hz)
  · obtain ⟨y, h2, e1⟩ := g8 (.inl e)
    rw [e1] at hz; simp at hz; subst hz; exact hIn (by omega) _ h2
  · obtain ⟨y, h2, e1⟩ := g8 (.inr e)
    rw [e1] at hz; simp at hz; subst hz; exact hIn (by omega) _ h2
  · rw [g1 (.inr (.inr (.inr e)))] at hz; simp at hz
theorem DrawD.name : ∃ a, Low a ∧ r.name = a ++ itoaS (j : Int) := by
  obtain ⟨k, k1, k2, hr, hk, hl, hjl⟩ := h.kinds hj
  obtain ⟨a, ha, e⟩ := hr.hname
  rw [hl] at e
  exact ⟨a, baseA_low a ha, e⟩
theorem DrawD.kindOk : KindOk d r := by
  obtain ⟨k, k1, k2, hr, hk, hl, hjl⟩ := h.kinds hj
  have hlit : r.little = false ∨ r.kind = 1 := by
    cases e : r.little
    · exact .inl rfl
    · exact .inr (hk.trans (hr.hlittle e).1)
  have hbytes : k ≠ 2 → k ≠ 10 → r.bytes.length = 0 := fun a b => by rw [hr.hbytes.2.2 a b]; rfl
  have hnames : k ≠ 6 → r.names.length = 0 := fun a => by rw [hr.hnames.2 a]; rfl
  have htags : k ≠ 7 → r.tags.length = 0 := fun a => by rw [hr.htags.2 a]; rfl
  have hsize : k ≠ 1 → k ≠ 3 → r.size = 0 := hr.hsize.2.2
  obtain ⟨g4, g5, g6, g7, g8, g1⟩ := hr.hkids
  have hc : k = 1 ∨ k = 2 ∨ k = 3 ∨ k = 4 ∨ k = 5 ∨ k = 6 ∨ k = 7 ∨ k = 8 ∨ k = 9 ∨ k = 10 := by omega
  rcases hc with e | e | e | e | e | e | e | e | e | e
  · refine .inl ⟨by omega, ⟨⟨.inl rfl, .inr (hbytes (by omega) (by omega)), .inr (hnames (by omega)), .inr (htags (by omega)), .inr ?_⟩, hlit⟩, ?_, ?_⟩
    · rw [g1 (.inl e)]; rfl
    · have := hr.hsize.1 e; unfold InR; omega
    · cases e' : r.little
      · exact .inl rfl
      · exact .inr (hr.hlittle e').2
  · refine .inr (.inl ⟨by omega, ⟨⟨.inr (hsize (by omega) (by omega)), .inl rfl, .inr (hnames (by omega)), .inr (htags (by omega)), .inr ?_⟩, hlit⟩, ?_⟩)
    · rw [g1 (.inr (.inl e))]; rfl
    · have := hr.hbytes.1 e; unfold InR; omega
  · refine .inr (.inr (.inl ⟨by omega, ⟨⟨.inl rfl, .inr (hbytes (by omega) (by omega)), .inr (hnames (by omega)), .inr (htags (by omega)), .inr ?_⟩, hlit⟩, ?_⟩))
    · rw [g1 (.inr (.inr (.inl e)))]; rfl
    · have := hr.hsize.2.1 e; unfold InR; omega
  · obtain ⟨x, h1, e1⟩ := g4 e
    have := h.int h1.up.1
    refine .inr (.inr (.inr (.inl ⟨by omega, ⟨⟨.inr (hsize (by omega) (by omega)), .inr (hbytes (by omega) (by omega)), .inr (hnames (by omega)), .inr (htags (by omega)), .inr ?_⟩, hlit⟩, ?_⟩)))
    · rw [e1]; rfl
    · rw [e1]; show 0 < lim d x; omega
  · obtain ⟨x, y, h1, h2, e1⟩ := g5 e
    have := h.int h1.up.1
    refine .inr (.inr (.inr (.inr (.inl ⟨by omega, ⟨⟨.inr (hsize (by omega) (by omega)), .inr (hbytes (by omega) (by omega)), .inr (hnames (by omega)), .inr (htags (by omega)), .inr ?_⟩, hlit⟩, ?_⟩))))
    · rw [e1]; rfl
    · rw [e1]; show 0 < lim d x; omega
  · obtain ⟨n1, n2, n3⟩ := hr.hnames.1 e
    refine .inr (.inr (.inr (.inr (.inr (.inl ⟨by omega, ⟨⟨.inr (hsize (by omega) (by omega)), .inr (hbytes (by omega) (by omega)), .inl rfl, .inr (htags (by omega)), .inr ?_⟩, hlit⟩, n1, by omega, fun i x hx => ?_⟩)))))
    · rw [(g6 e).1]
    · have hil := (List.getElem?_eq_some_iff.1 hx).1
      obtain ⟨a, ha, rfl⟩ := n3 i x hx
      have e1 : ((r.names.length : Int) - i) = ((r.names.length - i : Nat) : Int) := by omega
      rw [e1]
      refine ⟨nm_cat (baseP_low a ha) (by omega), fun hm => ?_⟩
      obtain ⟨m, hm', hm⟩ := List.mem_take_iff_getElem.1 hm
      obtain ⟨a', ha', e2⟩ := n3 m _ (List.getElem?_eq_getElem (by omega))
      rw [hm, show ((r.names.length : Int) - m) = ((r.names.length - m : Nat) : Int) by omega] at e2
      have := cat_inj (by omega) (by omega) e2
      omega
  · obtain ⟨t1, t2, t3⟩ := hr.htags.1 e
    obtain ⟨x, l, h1, h2, h3, e1⟩ := g7 e
    have hlim := h.int h1.up.1
    refine .inr (.inr (.inr (.inr (.inr (.inr (.inl ⟨by omega, ⟨⟨.inr (hsize (by omega) (by omega)), .inr (hbytes (by omega) (by omega)), .inr (hnames (by omega)), .inl rfl, .inl (by decide)⟩, hlit⟩, ?_, t1, by omega, fun i z hz => ?_⟩))))))
    · rw [e1, List.length_cons, h2]
    · have hil := (List.getElem?_eq_some_iff.1 hz).1
      have := t3 i z hz
      refine ⟨by omega, ?_, fun y hi hy => ?_⟩
      · rw [e1]; show z ≤ lim d x; omega
      · have := t3 (i - 1) y hy
        omega
  · obtain ⟨y, h2, e1⟩ := g8 (.inl e)
    refine .inr (.inr (.inr (.inr (.inr (.inr (.inr (.inl ⟨.inl (by omega), ⟨⟨.inr (hsize (by omega) (by omega)), .inr (hbytes (by omega) (by omega)), .inr (hnames (by omega)), .inr (htags (by omega)), .inr ?_⟩, hlit⟩⟩)))))))
    rw [e1]; rfl
  · obtain ⟨y, h2, e1⟩ := g8 (.inr e)
    refine .inr (.inr (.inr (.inr (.inr (.inr (.inr (.inl ⟨.inr (by omega), ⟨⟨.inr (hsize (by omega) (by omega)), .inr (hbytes (by omega) (by omega)), .inr (hnames (by omega)), .inr (htags (by omega)), .inr ?_⟩, hlit⟩⟩)))))))
    rw [e1]; rfl
  · obtain ⟨x, hx, eb⟩ := hr.hbytes.2.1 e
    refine .inr (.inr (.inr (.inr (.inr (.inr (.inr (.inr ⟨by omega, ⟨⟨.inr (hsize (by omega) (by omega)), .inl rfl, .inr (hnames (by omega)), .inr (htags (by omega)), .inr ?_⟩, hlit⟩, ?_, ?_⟩)))))))
    · rw [g1 (.inr (.inr (.inr e)))]; rfl
    · rw [eb]; rfl
    · rw [eb]
      simp only [List.mem_cons, List.not_mem_nil, or_false] at hx
      rcases hx with rfl | rfl | rfl | rfl <;> decide
end
theorem DrawD.good {d : Des} (h : DrawD d) : Good' d := by
  refine ⟨h.pos, by have := h.most; omega, fun j hj => ?_⟩
  obtain ⟨r, hr⟩ : ∃ r, d[j]? = some r := ⟨_, List.getElem?_eq_getElem hj⟩
  have hm := h.most
  refine (ruleAt_iff (by omega) (by simpa using hr)).2 ?_
  rw [Int.toNat_natCast]
  obtain ⟨a, ha, en⟩ := h.name hr
  refine ⟨fun k x hk hx e => ?_, fun k z hz => h.kid hr z (List.mem_of_getElem? hz), by rw [en]; exact nm_cat ha (by omega), h.kindOk hr⟩
  obtain ⟨a', ha', en'⟩ := h.name hx
  rw [en, en'] at e
  have := cat_inj (by omega) (by omega) e
  omega
theorem sum_le_mul {α : Type} (f : α → Nat) (c : Nat) : ∀ l : List α, (∀ x ∈ l, f x ≤ c) → (l.map f).sum ≤ l.length * c
  | [], _ => by simp
  | x :: l, h => by
    have h1 := h x (by simp)
    have h2 := sum_le_mul f c l fun y hy => h y (by simp [hy])
    rw [List.map_cons, List.sum_cons, List.length_cons, Nat.succ_mul]; omega
section
variable {d : Des} (h : DrawD d) {j : Nat} {r : Rul} (hj : d[j]? = some r)
include h hj
theorem DrawD.lens : r.name.size ≤ 5 ∧ r.bytes.length ≤ 3 ∧ r.names.length ≤ 3 ∧ (∀ s ∈ r.names, s.size ≤ 5) ∧ r.tags.length ≤ 3 ∧ r.kids.length ≤ 4 ∧ (∀ z ∈ r.tags, 0 ≤ z ∧ z ≤ 12) ∧ 0 ≤ r.size ∧ r.size ≤ 4 := by
  obtain ⟨k, k1, k2, hr, hk, hl, hjl⟩ := h.kinds hj
  have hm := h.most
  obtain ⟨a, ha, en⟩ := h.name hj
  have hnm : r.names.length ≤ 3 ∧ ∀ s ∈ r.names, s.size ≤ 5 := by
    by_cases e : k = 6
    · obtain ⟨n1, n2, n3⟩ := hr.hnames.1 e
      refine ⟨n2, fun s hs => ?_⟩
      obtain ⟨i, hi⟩ := List.mem_iff_getElem?.1 hs
      have hil := (List.getElem?_eq_some_iff.1 hi).1
      obtain ⟨b, hb, rfl⟩ := n3 i s hi
      rw [show ((r.names.length : Int) - i) = ((r.names.length - i : Nat) : Int) by omega]
      exact ncat_le (baseP_low b hb) (by omega)
    · rw [hr.hnames.2 e]; simp
  have htg : r.tags.length ≤ 3 ∧ ∀ z ∈ r.tags, 0 ≤ z ∧ z ≤ 12 := by
    by_cases e : k = 7
    · obtain ⟨n1, n2, n3⟩ := hr.htags.1 e
      refine ⟨n2, fun s hs => ?_⟩
      obtain ⟨i, hi⟩ := List.mem_iff_getElem?.1 hs
      have hil := (List.getElem?_eq_some_iff.1 hi).1
      have := n3 i s hi
      omega
    · rw [hr.htags.2 e]; simp
  have hbs : r.bytes.length ≤ 3 := by
    by_cases e : k = 2
    · exact (hr.hbytes.1 e).2
    · by_cases e' : k = 10
      · obtain ⟨x, _, eb⟩ := hr.hbytes.2.1 e'
        rw [eb]; simp
      · rw [hr.hbytes.2.2 e e']; simp
  have hkd : r.kids.length ≤ 4 := by
    obtain ⟨g4, g5, g6, g7, g8, g1⟩ := hr.hkids
    have hc : k = 1 ∨ k = 2 ∨ k = 3 ∨ k = 4 ∨ k = 5 ∨ k = 6 ∨ k = 7 ∨ k = 8 ∨ k = 9 ∨ k = 10 := by omega
    rcases hc with e | e | e | e | e | e | e | e | e | e
    · rw [g1 (.inl e)]; simp
    · rw [g1 (.inr (.inl e))]; simp
    · rw [g1 (.inr (.inr (.inl e)))]; simp
    · obtain ⟨x, _, e1⟩ := g4 e; rw [e1]; simp
    · obtain ⟨x, y, _, _, e1⟩ := g5 e; rw [e1]; simp
    · rw [(g6 e).1]; omega
    · obtain ⟨x, l, _, h2, _, e1⟩ := g7 e; rw [e1, List.length_cons, h2]; omega
    · obtain ⟨y, _, e1⟩ := g8 (.inl e); rw [e1]; simp
    · obtain ⟨y, _, e1⟩ := g8 (.inr e); rw [e1]; simp
    · rw [g1 (.inr (.inr (.inr e)))]; simp
  have hsz : 0 ≤ r.size ∧ r.size ≤ 4 := by
    by_cases e : k = 1
    · have := hr.hsize.1 e; omega
    · by_cases e' : k = 3
      · have := hr.hsize.2.1 e'; omega
      · have := hr.hsize.2.2 e e'; omega
  exact ⟨by rw [en]; exact ncat_le ha (by omega), hbs, hnm.1, hnm.2, htg.1, hkd, htg.2, hsz.1, hsz.2⟩
theorem DrawD.ruleOk : r.Ok := by
  obtain ⟨l1, l2, l3, l4, l5, l6, l7, l8, l9⟩ := h.lens hj
  obtain ⟨k, k1, k2, hr, hk, hl, hjl⟩ := h.kinds hj
  have hm := h.most
  have hkd := h.kid hj
  have mx : maxLen = 4611686018427387904 ∨ 10 ≤ maxLen := .inr (by decide)
  refine ⟨by unfold I64; omega, by unfold I64; omega, fun z hz => by have := l7 z hz; unfold I64; omega, fun z hz => by have := hkd z hz; unfold I64; omega, ?_⟩
  have hx : 10 ≤ maxLen := by decide
  exact ⟨by omega, by omega, by omega, fun s hs => by have := l4 s hs; omega, by omega, by omega, trivial⟩
theorem DrawD.ruleTotal : r.total ≤ 40 := by
  obtain ⟨l1, l2, l3, l4, l5, l6, l7, l8, l9⟩ := h.lens hj
  have := sum_le_mul ByteArray.size 5 r.names l4
  unfold Rul.total
  omega
end
theorem DrawD.desOk {d : Des} (h : DrawD d) : DesOk d :=
  ⟨fun r hr => by
    obtain ⟨j, hj⟩ := List.mem_iff_getElem?.1 hr
    exact h.ruleOk hj, by have := h.most; have hx : 10 ≤ maxLen := by decide
                          omega⟩
theorem DrawD.total {d : Des} (h : DrawD d) : dtotal d ≤ 1000 := by
  have := sum_le_mul Rul.total 40 d fun r hr => by
    obtain ⟨j, hj⟩ := List.mem_iff_getElem?.1 hr
    exact h.ruleTotal hj
  have := h.most
  unfold dtotal
  omega
end Go.Proofs.Ytnecoghfhcimeaa
/- Values of the format, which are trees, over values: the laws' helpers on them, opened arguments, counting, comparing. -/
namespace Go.Proofs.Ytnecoghfhcimeaa
set_option linter.unusedSimpArgs false
set_option linter.unusedVariables false
open Go.RowKit
inductive Tre where
  | mk (number : Int) (bytes : List UInt8) (items : List Tre)
namespace Tre
def number : Tre → Int | .mk n _ _ => n
def bytes : Tre → List UInt8 | .mk _ b _ => b
def items : Tre → List Tre | .mk _ _ l => l
mutual
def cells : Tre → List RV
  | .mk n b l => [.int n, bytesR b, .seq 3 (cellsL l)]
def cellsL : List Tre → List (List RV)
  | [] => []
  | v :: vs => cells v :: cellsL vs
def total : Tre → Nat
  | .mk _ b l => b.length + l.length + totalL l
def totalL : List Tre → Nat
  | [] => 0
  | v :: vs => total v + totalL vs
def count : Tre → Nat
  | .mk _ _ l => 1 + countL l
def countL : List Tre → Nat
  | [] => 0
  | v :: vs => count v + countL vs
def weight : Tre → Nat
  | .mk _ b l => b.length + weightL l
def weightL : List Tre → Nat
  | [] => 0
  | v :: vs => weight v + weightL vs
def Ok : Tre → Prop
  | .mk n b l => I64 n ∧ b.length ≤ maxLen ∧ l.length ≤ maxLen ∧ OkL l
def OkL : List Tre → Prop
  | [] => True
  | v :: vs => Ok v ∧ OkL vs
end
theorem cellsL_eq : ∀ l, cellsL l = l.map cells
  | [] => rfl
  | v :: vs => by rw [cellsL, cellsL_eq vs]; rfl
theorem totalL_eq : ∀ l, totalL l = (l.map total).sum
  | [] => rfl
  | v :: vs => by rw [totalL, totalL_eq vs]; rfl
theorem countL_eq : ∀ l, countL l = (l.map count).sum
  | [] => rfl
  | v :: vs => by rw [countL, countL_eq vs]; rfl
theorem weightL_eq : ∀ l, weightL l = (l.map weight).sum
  | [] => rfl
  | v :: vs => by rw [weightL, weightL_eq vs]; rfl
theorem OkL_iff : ∀ {l}, OkL l ↔ ∀ x ∈ l, Ok x
  | [] => by simp [OkL]
  | v :: vs => by simp [OkL, OkL_iff (l := vs)]
theorem cells_eq (v : Tre) : v.cells = [.int v.number, bytesR v.bytes, .seq 3 (v.items.map cells)] := by
  cases v; rw [cells, cellsL_eq]; rfl
theorem total_eq (v : Tre) : v.total = v.bytes.length + v.items.length + (v.items.map total).sum := by
  cases v; rw [total, totalL_eq]; rfl
theorem count_eq (v : Tre) : v.count = 1 + (v.items.map count).sum := by
  cases v; rw [count, countL_eq]; rfl
theorem weight_eq (v : Tre) : v.weight = v.bytes.length + (v.items.map weight).sum := by
  cases v; rw [weight, weightL_eq]; rfl
theorem Ok.out {v : Tre} (h : v.Ok) : I64 v.number ∧ v.bytes.length ≤ maxLen ∧ v.items.length ≤ maxLen ∧ ∀ x ∈ v.items, x.Ok := by
  cases v; rw [Ok, OkL_iff] at h; exact h
theorem cells_len (v : Tre) : v.cells.length = 3 := by rw [cells_eq]; rfl
mutual
theorem ind {P : Tre → Prop} (h : ∀ v, (∀ x ∈ v.items, P x) → P v) : ∀ v, P v
  | .mk n b l => h _ (indL h l)
theorem indL {P : Tre → Prop} (h : ∀ v, (∀ x ∈ v.items, P x) → P v) : ∀ l : List Tre, ∀ x ∈ l, P x
  | [], x, hx => by cases hx
  | v :: vs, x, hx => by
    rcases List.mem_cons.1 hx with e | e
    · rw [e]; exact ind h v
    · exact indL h vs x e
end
mutual
theorem count_le : ∀ v : Tre, v.count ≤ 1 + v.total
  | .mk n b l => by have := countL_le l; simp only [count, total]; omega
theorem countL_le : ∀ l : List Tre, countL l ≤ l.length + totalL l
  | [] => by simp [countL]
  | v :: vs => by have := count_le v; have := countL_le vs; simp only [countL, totalL, List.length_cons]; omega
end
mutual
theorem weight_le : ∀ v : Tre, v.weight ≤ v.total
  | .mk n b l => by have := weightL_le l; simp only [weight, total]; omega
theorem weightL_le : ∀ l : List Tre, weightL l ≤ totalL l
  | [] => by simp [weightL]
  | v :: vs => by have := weight_le v; have := weightL_le vs; simp only [weightL, totalL]; omega
end
end Tre
def tresR (l : List Tre) : RV := .seq 3 (l.map Tre.cells)
def treR (v : Tre) : RV := .agg [.int v.number, bytesR v.bytes, tresR v.items]
noncomputable instance : DecidableEq Tre := fun a b => Classical.propDecidable _
end Go.Proofs.Ytnecoghfhcimeaa
/- The rule of an item of a value: both sides. -/
namespace Go.Proofs.Ytnecoghfhcimeaa
set_option linter.unusedSimpArgs false
set_option linter.unusedVariables false
open Go.RowKit
def tagIx : List Int → Int → Nat
  | [], _ => 0
  | t :: ts, n => if t = n then 0 else tagIx ts n + 1
theorem tagIx_hit {n : Int} : ∀ {l : List Int} {j : Nat}, l[j]? = some n → (∀ (k : Nat) t, k < j → l[k]? = some t → t ≠ n) → tagIx l n = j
  | [], j, h, _ => by simp at h
  | t :: ts, 0, h, _ => by
    simp at h
    rw [tagIx, if_pos h]
  | t :: ts, j + 1, h, hn => by
    rw [tagIx, if_neg (hn 0 t (by omega) (by simp)), tagIx_hit (l := ts) (j := j) (by simpa using h) fun k u hk hu => hn (k + 1) u (by omega) (by simpa using hu)]
theorem tagIx_none {n : Int} : ∀ {l : List Int}, (∀ (k : Nat) t, l[k]? = some t → t ≠ n) → tagIx l n = l.length
  | [], _ => rfl
  | t :: ts, hn => by
    rw [tagIx, if_neg (hn 0 t (by simp)), tagIx_none (l := ts) fun k u hu => hn (k + 1) u (by simpa using hu)]
    rfl
theorem tagIx_at {n : Int} : ∀ {l : List Int}, tagIx l n < l.length → l[tagIx l n]? = some n
  | [], h => by simp [tagIx] at h
  | t :: ts, h => by
    rw [tagIx] at h ⊢
    by_cases e : t = n
    · rw [if_pos e, e]; simp
    · rw [if_neg e] at h ⊢
      rw [List.length_cons] at h
      simpa using tagIx_at (n := n) (l := ts) (by omega)
def itemR (r : Rul) (n i : Int) : Int :=
  if r.kind = 5 then (r.kids[1]?).getD (-1)
  else if r.kind = 6 then (r.kids[i.toNat]?).getD (-1)
  else if r.kind = 7 then (r.kids[tagIx r.tags n + 1]?).getD (-1)
  else if r.kind = 8 ∨ r.kind = 9 then (r.kids[0]?).getD (-1)
  else -1
theorem item_fields {d : Des} {x : Rul} (hk : KindOk d x) : (x.kind = 5 → x.kids.length = 2) ∧ (x.kind = 7 → TagsOk d x) ∧ (x.kind = 8 ∨ x.kind = 9 → x.kids.length = 1) ∧ (x.kind = 4 → x.kids.length = 1) := by
  unfold KindOk at hk
  refine ⟨fun e => ?_, fun e => ?_, fun e => ?_, fun e => ?_⟩
  · rcases hk with hk | hk | hk | hk | hk | hk | hk | hk | hk
    all_goals first | omega | (have := hk.2.1.kids (by omega); omega)
  · rcases hk with hk | hk | hk | hk | hk | hk | hk | hk | hk
    all_goals first | omega | exact hk.2.2
  · rcases hk with hk | hk | hk | hk | hk | hk | hk | hk | hk
    all_goals first | omega | (have := hk.2.kids (by omega); omega)
  · rcases hk with hk | hk | hk | hk | hk | hk | hk | hk | hk
    all_goals first | omega | (have := hk.2.1.kids (by omega); omega)
theorem kind_at {d : Des} (hG : Good' d) {r : Nat} {x : Rul} (h : d[r]? = some x) : KindOk d x := by
  have hi := (List.getElem?_eq_some_iff.1 h).1
  obtain ⟨_, x', h1, h2⟩ := hG.2.2 r hi
  rw [show ((r : Nat) : Int).toNat = r by rfl, h] at h1; injection h1 with h1; subst h1
  exact h2.2.2.2
theorem kids_at {d : Des} (hG : Good' d) {r : Nat} {x : Rul} (h : d[r]? = some x) {k : Nat} {z : Int} (hz : x.kids[k]? = some z) : 0 ≤ z ∧ z < r := by
  have hi := (List.getElem?_eq_some_iff.1 h).1
  obtain ⟨_, x', h1, h2⟩ := hG.2.2 r hi
  rw [show ((r : Nat) : Int).toNat = r by rfl, h] at h1; injection h1 with h1; subst h1
  simpa using h2.2.1 k z hz
theorem itemR_lt {d : Des} (hG : Good' d) {r : Nat} {x : Rul} (h : d[r]? = some x) (n i : Int) : itemR x n i = -1 ∨ (0 ≤ itemR x n i ∧ itemR x n i < r) := by
  have key : ∀ k : Nat, (x.kids[k]?).getD (-1) = -1 ∨ (0 ≤ (x.kids[k]?).getD (-1) ∧ (x.kids[k]?).getD (-1) < r) := fun k => by
    cases hz : x.kids[k]? with
    | none => exact .inl rfl
    | some z => exact .inr (kids_at hG h hz)
  unfold itemR
  split
  · exact key _
  split
  · exact key _
  split
  · exact key _
  split
  · exact key _
  · exact .inl rfl
theorem getD_some {l : List Int} {k : Nat} {c : Int} (h : l[k]? = some c) : (l[k]?).getD (-1) = c := by rw [h]; rfl
theorem getD_none {l : List Int} {k : Nat} (h : l.length ≤ k) : (l[k]?).getD (-1) = -1 := by rw [List.getElem?_eq_none h]; rfl
set_option maxHeartbeats 4000000 in
theorem l9Item_ac {d : Des} {x : Rul} (hk : KindOk d x) (n i : Int) (h0 : 0 ≤ i) : ACv Try.prog 164 [.agg (rulR x), .int n, .int i] (.int (itemR x n i)) := by
  obtain ⟨f5, f7, f8, _⟩ := item_fields hk
  have hlk : (x.kids.map fun z => [RV.int z]).length = x.kids.length := List.length_map ..
  have hlt' : (x.tags.map fun z => [RV.int z]).length = x.tags.length := List.length_map ..
  refine ac_enter Try.func164 rfl _ Try.ntmps164 (by simp) fun C hn hm => ?_
  by_cases k5 : x.kind = 5
  · have hc : x.kids[(1 : Int).toNat]? = some _ := List.getElem?_eq_getElem (by have := f5 k5; simp; omega)
    repeat' (first
 | refine RunsL.step tabOk hn rfl ?_
 | refine RunsL.nil ?_
 | refine Runs.toRegion 30 rfl ?_
 | (refine Runs.ctls 30 rfl ?_; first | refine Runs.cond_t rfl ?_ | ((first | refine Runs.cond_yes rfl ?_ ?_ | refine Runs.cond_nno rfl ?_ ?_); · first | omega | rfl | assumption | (simp only [List.length_map]; omega)) | ((first | refine Runs.cond_no rfl ?_ ?_ | refine Runs.cond_nyes rfl ?_ ?_); · first | omega | rfl | assumption | (simp only [List.length_map]; omega)) | refine Runs.ret (ends_ro hm rfl rfl ?_) | exact Runs.ret (ends_cellR hm rfl rfl rfl (Nat.le_of_ble_eq_true rfl) rfl rfl))
 | refine op_box rfl (tl hn rfl) ?_
 | (refine RunsL.pe hn rfl rfl rfl ?_; first
 | refine ⟨_, pu_add rfl rfl (by omega), ?_⟩
 | refine ⟨_, pu_indexAddr_map rfl rfl (by omega) (by assumption), ?_⟩
        ))
    exact rr_int (by unfold itemR; rw [if_pos k5]; exact (getD_some hc).symm)
  by_cases k6 : x.kind = 6
  · by_cases hi : i < x.kids.length
    · have hc : x.kids[i.toNat]? = some _ := List.getElem?_eq_getElem (by omega)
      repeat' (first
 | refine RunsL.step tabOk hn rfl ?_
 | refine RunsL.nil ?_
 | refine Runs.toRegion 30 rfl ?_
 | (refine Runs.ctls 30 rfl ?_; first | refine Runs.cond_t rfl ?_ | ((first | refine Runs.cond_yes rfl ?_ ?_ | refine Runs.cond_nno rfl ?_ ?_); · first | omega | rfl | assumption | (simp only [List.length_map]; omega)) | ((first | refine Runs.cond_no rfl ?_ ?_ | refine Runs.cond_nyes rfl ?_ ?_); · first | omega | rfl | assumption | (simp only [List.length_map]; omega)) | refine Runs.ret (ends_ro hm rfl rfl ?_) | exact Runs.ret (ends_cellR hm rfl rfl rfl (Nat.le_of_ble_eq_true rfl) rfl rfl))
 | refine op_box rfl (tl hn rfl) ?_
 | (refine RunsL.pe hn rfl rfl rfl ?_; first
 | refine ⟨_, pu_add rfl rfl (by omega), ?_⟩
 | refine ⟨_, pu_indexAddr_map rfl rfl (by omega) (by assumption), ?_⟩
          ))
      exact rr_int (by unfold itemR; rw [if_neg k5, if_pos k6]; exact (getD_some hc).symm)
    · repeat' (first
 | refine RunsL.step tabOk hn rfl ?_
 | refine RunsL.nil ?_
 | refine Runs.toRegion 30 rfl ?_
 | (refine Runs.ctls 30 rfl ?_; first | refine Runs.cond_t rfl ?_ | ((first | refine Runs.cond_yes rfl ?_ ?_ | refine Runs.cond_nno rfl ?_ ?_); · first | omega | rfl | assumption | (simp only [List.length_map]; omega)) | ((first | refine Runs.cond_no rfl ?_ ?_ | refine Runs.cond_nyes rfl ?_ ?_); · first | omega | rfl | assumption | (simp only [List.length_map]; omega)) | refine Runs.ret (ends_ro hm rfl rfl ?_) | exact Runs.ret (ends_cellR hm rfl rfl rfl (Nat.le_of_ble_eq_true rfl) rfl rfl))
 | refine op_box rfl (tl hn rfl) ?_
 | (refine RunsL.pe hn rfl rfl rfl ?_; first
 | refine ⟨_, pu_add rfl rfl (by omega), ?_⟩
 | refine ⟨_, pu_indexAddr_map rfl rfl (by omega) (by assumption), ?_⟩
        ))
      exact rr_int (by unfold itemR; rw [if_neg k5, if_pos k6]; exact (getD_none (by omega)).symm)
  by_cases k7 : x.kind = 7
  · obtain ⟨hkl, ht1, ht8, _⟩ := f7 k7
    repeat' (first
 | refine RunsL.step tabOk hn rfl ?_
 | refine RunsL.nil ?_
 | refine Runs.toRegion 30 rfl ?_
 | (refine Runs.ctls 30 rfl ?_; first | refine Runs.cond_t rfl ?_ | ((first | refine Runs.cond_yes rfl ?_ ?_ | refine Runs.cond_nno rfl ?_ ?_); · first | omega | rfl | assumption | (simp only [List.length_map]; omega)) | ((first | refine Runs.cond_no rfl ?_ ?_ | refine Runs.cond_nyes rfl ?_ ?_); · first | omega | rfl | assumption | (simp only [List.length_map]; omega)) | refine Runs.ret (ends_ro hm rfl rfl ?_) | exact Runs.ret (ends_cellR hm rfl rfl rfl (Nat.le_of_ble_eq_true rfl) rfl rfl))
 | refine op_box rfl (tl hn rfl) ?_
 | (refine RunsL.pe hn rfl rfl rfl ?_; first
 | refine ⟨_, pu_add rfl rfl (by omega), ?_⟩
 | refine ⟨_, pu_indexAddr_map rfl rfl (by omega) (by assumption), ?_⟩
        ))
    refine Runs.loopN 30 rfl (fun j => [(1, .int n), (3, .obj 0 0), (7, .int (j : Int))]) (fun _ => [⟨52, 0, [.str x.name, .int x.kind, .int x.size, .bool x.little, .ro (bytesR x.bytes), .ro (strsR x.names), .ro (intsR x.tags), .ro (intsR x.kids)]⟩]) (fun j => ∀ (k : Nat) t, k < j → x.tags[k]? = some t → t ≠ n) x.tags.length 0 (Nat.zero_le _) (fun k t h => absurd h (by omega)) ⟨rfl, rfl, rfl, trivial⟩ rfl fun j hj hQ next => ?_
    by_cases hlt : j < x.tags.length
    · obtain ⟨t, ht⟩ : ∃ t, x.tags[(j : Int).toNat]? = some t := ⟨_, List.getElem?_eq_getElem hlt⟩
      have ht' : x.tags[j]? = some t := ht
      have hc : x.kids[((j : Int) + 1).toNat]? = some _ := List.getElem?_eq_getElem (by omega)
      by_cases he : t = n
      · subst he
        repeat' (first
 | refine RunsL.step tabOk hn rfl ?_
 | refine RunsL.nil ?_
 | refine Runs.toRegion 30 rfl ?_
 | (refine Runs.ctls 30 rfl ?_; first | refine Runs.cond_t rfl ?_ | ((first | refine Runs.cond_yes rfl ?_ ?_ | refine Runs.cond_nno rfl ?_ ?_); · first | omega | rfl | assumption | (simp only [List.length_map]; omega)) | ((first | refine Runs.cond_no rfl ?_ ?_ | refine Runs.cond_nyes rfl ?_ ?_); · first | omega | rfl | assumption | (simp only [List.length_map]; omega)) | refine Runs.ret (ends_ro hm rfl rfl ?_) | exact Runs.ret (ends_cellR hm rfl rfl rfl (Nat.le_of_ble_eq_true rfl) rfl rfl))
 | refine op_box rfl (tl hn rfl) ?_
 | (refine RunsL.pe hn rfl rfl rfl ?_; first
 | refine ⟨_, pu_add rfl rfl (by omega), ?_⟩
 | refine ⟨_, pu_indexAddr_map rfl rfl (by omega) (by assumption), ?_⟩
            ))
        exact rr_int (by unfold itemR; rw [if_neg k5, if_neg k6, if_pos k7, tagIx_hit ht' hQ]; exact (getD_some hc).symm)
      · repeat' (first
 | refine RunsL.step tabOk hn rfl ?_
 | refine RunsL.nil ?_
 | refine Runs.toRegion 30 rfl ?_
 | (refine Runs.ctls 30 rfl ?_; first | refine Runs.cond_t rfl ?_ | ((first | refine Runs.cond_yes rfl ?_ ?_ | refine Runs.cond_nno rfl ?_ ?_); · first | omega | rfl | assumption | (simp only [List.length_map]; omega)) | ((first | refine Runs.cond_no rfl ?_ ?_ | refine Runs.cond_nyes rfl ?_ ?_); · first | omega | rfl | assumption | (simp only [List.length_map]; omega)) | refine Runs.ret (ends_ro hm rfl rfl ?_) | exact Runs.ret (ends_cellR hm rfl rfl rfl (Nat.le_of_ble_eq_true rfl) rfl rfl))
 | refine op_box rfl (tl hn rfl) ?_
 | (refine RunsL.pe hn rfl rfl rfl ?_; first
 | refine ⟨_, pu_add rfl rfl (by omega), ?_⟩
 | refine ⟨_, pu_indexAddr_map rfl rfl (by omega) (by assumption), ?_⟩
          ))
        refine next _ _ ⟨rfl, rfl, rfl, trivial⟩ hlt (fun k t2 hk hk' => ?_) rfl
        by_cases e : k = j
        · subst e; rw [ht'] at hk'; injection hk' with hk'; rw [← hk']; exact he
        · exact hQ k t2 (by omega) hk'
    · repeat' (first
 | refine RunsL.step tabOk hn rfl ?_
 | refine RunsL.nil ?_
 | refine Runs.toRegion 30 rfl ?_
 | (refine Runs.ctls 30 rfl ?_; first | refine Runs.cond_t rfl ?_ | ((first | refine Runs.cond_yes rfl ?_ ?_ | refine Runs.cond_nno rfl ?_ ?_); · first | omega | rfl | assumption | (simp only [List.length_map]; omega)) | ((first | refine Runs.cond_no rfl ?_ ?_ | refine Runs.cond_nyes rfl ?_ ?_); · first | omega | rfl | assumption | (simp only [List.length_map]; omega)) | refine Runs.ret (ends_ro hm rfl rfl ?_) | exact Runs.ret (ends_cellR hm rfl rfl rfl (Nat.le_of_ble_eq_true rfl) rfl rfl))
 | refine op_box rfl (tl hn rfl) ?_
 | (refine RunsL.pe hn rfl rfl rfl ?_; first
 | refine ⟨_, pu_add rfl rfl (by omega), ?_⟩
 | refine ⟨_, pu_indexAddr_map rfl rfl (by omega) (by assumption), ?_⟩
        ))
      exact rr_int (by unfold itemR; rw [if_neg k5, if_neg k6, if_pos k7, tagIx_none fun k t h => hQ k t (by have := (List.getElem?_eq_some_iff.1 h).1; omega) h]; exact (getD_none (by omega)).symm)
  by_cases k8 : x.kind = 8 ∨ x.kind = 9
  · have hc : x.kids[(0 : Int).toNat]? = some _ := List.getElem?_eq_getElem (by have := f8 k8; simp; omega)
    rcases k8 with k8 | k8
    all_goals
      repeat' (first
 | refine RunsL.step tabOk hn rfl ?_
 | refine RunsL.nil ?_
 | refine Runs.toRegion 30 rfl ?_
 | (refine Runs.ctls 30 rfl ?_; first | refine Runs.cond_t rfl ?_ | ((first | refine Runs.cond_yes rfl ?_ ?_ | refine Runs.cond_nno rfl ?_ ?_); · first | omega | rfl | assumption | (simp only [List.length_map]; omega)) | ((first | refine Runs.cond_no rfl ?_ ?_ | refine Runs.cond_nyes rfl ?_ ?_); · first | omega | rfl | assumption | (simp only [List.length_map]; omega)) | refine Runs.ret (ends_ro hm rfl rfl ?_) | exact Runs.ret (ends_cellR hm rfl rfl rfl (Nat.le_of_ble_eq_true rfl) rfl rfl))
 | refine op_box rfl (tl hn rfl) ?_
 | (refine RunsL.pe hn rfl rfl rfl ?_; first
 | refine ⟨_, pu_add rfl rfl (by omega), ?_⟩
 | refine ⟨_, pu_indexAddr_map rfl rfl (by omega) (by assumption), ?_⟩
          ))
      exact rr_int (by unfold itemR; rw [if_neg k5, if_neg k6, if_neg k7, if_pos (by omega)]; exact (getD_some hc).symm)
  · repeat' (first
 | refine RunsL.step tabOk hn rfl ?_
 | refine RunsL.nil ?_
 | refine Runs.toRegion 30 rfl ?_
 | (refine Runs.ctls 30 rfl ?_; first | refine Runs.cond_t rfl ?_ | ((first | refine Runs.cond_yes rfl ?_ ?_ | refine Runs.cond_nno rfl ?_ ?_); · first | omega | rfl | assumption | (simp only [List.length_map]; omega)) | ((first | refine Runs.cond_no rfl ?_ ?_ | refine Runs.cond_nyes rfl ?_ ?_); · first | omega | rfl | assumption | (simp only [List.length_map]; omega)) | refine Runs.ret (ends_ro hm rfl rfl ?_) | exact Runs.ret (ends_cellR hm rfl rfl rfl (Nat.le_of_ble_eq_true rfl) rfl rfl))
 | refine op_box rfl (tl hn rfl) ?_
 | (refine RunsL.pe hn rfl rfl rfl ?_; first
 | refine ⟨_, pu_add rfl rfl (by omega), ?_⟩
 | refine ⟨_, pu_indexAddr_map rfl rfl (by omega) (by assumption), ?_⟩
      ))
    exact rr_int (by unfold itemR; rw [if_neg k5, if_neg k6, if_neg k7, if_neg k8])
section
variable {P : Program} {C : Ctx} {env : Env} {σ : List Ob} {t : Nat} {ty : TypeId} {pos : String} {after : Array Edge} {gd : Option (Nat × Bool)}
end
theorem kn_nat {d : Des} {r : Int} (h : Kn d r) : ∃ (n : Nat) (x : Rul), r = n ∧ n < d.length ∧ d[n]? = some x := by
  obtain ⟨_, h2⟩ := h
  unfold HasR at h2
  exact ⟨r.toNat, _, by omega, by omega, List.getElem?_eq_getElem (by omega)⟩
end Go.Proofs.Ytnecoghfhcimeaa
/- The verifier of one instruction. -/
namespace Go.Proofs.Ytnecoghfhcimeaa
set_option linter.unusedSimpArgs false
set_option linter.unusedVariables false
open Go.RowKit
end Go.Proofs.Ytnecoghfhcimeaa
/- The verifier of programs: places, loops, marks: both sides. -/
namespace Go.Proofs.Ytnecoghfhcimeaa
set_option linter.unusedSimpArgs false
set_option linter.unusedVariables false
open Go.RowKit
open AV (Mem Keeps)
def LendsA (C : Ctx) (σ : List Ob) (v v' : AV) : Prop := ∀ (m : Mem) (u : Value) (ok' : Nat → Prop), Good C m → m.σ = σ → (∀ b, m.ok b → ok' b) → (∀ (i g : Nat), i < σ.length → m.φ i = some g → ok' g) → AV.rel m v u → AV.rel ⟨m.w, fun _ => none, [], ok'⟩ v' u
inductive LendsAL (C : Ctx) (σ : List Ob) : List AV → List AV → Prop
  | nil : LendsAL C σ [] []
  | cons {v v' : AV} {vs vs' : List AV} : LendsA C σ v v' → LendsAL C σ vs vs' → LendsAL C σ (v :: vs) (v' :: vs')
section
variable {P : Program} {C : Ctx} {σ : List Ob}
theorem LendsA.of {v : AV} {r : RV} (h : Lends C σ v r) : LendsA C σ v (.ro r) := fun m u ok' hG hσ k1 k2 hu => by
  simp only [AV.rel]
  exact RV.rel_mono ⟨Nat.le_refl _, fun b _ hb => ⟨⟨hb, fun i hi => by simp at hi⟩, rfl⟩⟩ r u (h m u ok' hG hσ k1 k2 hu)
theorem LendsAL.rels {m : Mem} {ok' : Nat → Prop} (hG : Good C m) (hσ : m.σ = σ) (k1 : ∀ b, m.ok b → ok' b) (k2 : ∀ (i g : Nat), i < σ.length → m.φ i = some g → ok' g) {vs rs : List AV} (h : LendsAL C σ vs rs) : ∀ us, AV.rels m vs us → AV.rels ⟨m.w, fun _ => none, [], ok'⟩ rs us := by
  induction h with
  | nil => intro us hu; simpa [AV.rels] using hu
  | cons h1 _ ih =>
    intro us hu
    simp only [AV.rels] at hu ⊢
    obtain ⟨u, us', rfl, k3, k4⟩ := hu
    exact ⟨u, us', rfl, h1 m u ok' hG hσ k1 k2 k3, ih us' k4⟩
theorem LendsA.fn {f : Fn} {a b a' b' : List AV} (ha : LendsAL C σ a a') (hb : LendsAL C σ b b') : LendsA C σ (.fn f a b) (.fn f a' b') := fun m u ok' hG hσ k1 k2 hu => by
  simp only [AV.rel] at hu ⊢
  obtain ⟨us, vs, e, h1, h2⟩ := hu
  exact ⟨us, vs, e, ha.rels hG hσ k1 k2 _ h1, hb.rels hG hσ k1 k2 _ h2⟩
variable {env : Env} {t : Nat} {ty : TypeId} {pos : String} {after : Array Edge} {gd : Option (Nat × Bool)}
end
def opA (p : Prg) (i : Int) : Int := if 0 ≤ i then (match p.code[i.toNat]? with | some x => x.op | none => 0) else 0
def aA (p : Prg) (i : Int) : Int := if 0 ≤ i then (match p.code[i.toNat]? with | some x => x.a | none => 0) else 0
def LoopAt (p : Prg) (k : Int) : Prop := opA p k = 7 ∧ opA p (k - 1) = 6 ∧ opA p (k + 1) = 9 ∧ opA p (k + 2) = 8 ∧ aA p (k + 2) = k ∧ aA p k = k + 3
def MarkAt (p : Prg) (k : Int) : Prop := opA p k = 14 ∧ opA p (k + 1) = 9 ∧ opA p (k + 2) = 15
noncomputable instance (p : Prg) (k : Int) : Decidable (LoopAt p k) := Classical.propDecidable _
noncomputable instance (p : Prg) (k : Int) : Decidable (MarkAt p k) := Classical.propDecidable _
end Go.Proofs.Ytnecoghfhcimeaa
/- The lesser of two: both sides. -/
namespace Go.Proofs.Ytnecoghfhcimeaa
set_option linter.unusedSimpArgs false
set_option linter.unusedVariables false
open Go.RowKit
def mn (a b : Int) : Int := if b < a then b else a
theorem mn_le (a b : Int) : mn a b ≤ a ∧ mn a b ≤ b ∧ (mn a b = a ∨ mn a b = b) := by unfold mn; split <;> omega
theorem spec_Min (a b : Int) : ACv Try.prog 118 [.int a, .int b] (.int (mn a b)) := by
  unfold mn
  refine ac_enter Try.func118 rfl _ Try.ntmps118 (by simp) fun C hn hm => ?_
  by_cases h : b < a
  · rw [if_pos h]
    repeat' (first
 | refine RunsL.step tabOk hn rfl ?_
 | refine RunsL.nil ?_
 | refine Runs.toRegion 30 rfl ?_
 | (refine Runs.ctls 30 rfl ?_; first | ((first | refine Runs.cond_yes rfl ?_ ?_ | refine Runs.cond_nno rfl ?_ ?_); · first | omega | rfl | assumption | (simp only [List.length_map]; omega)) | ((first | refine Runs.cond_no rfl ?_ ?_ | refine Runs.cond_nyes rfl ?_ ?_); · first | omega | rfl | assumption | (simp only [List.length_map]; omega)) | refine Runs.ret (ends_ro hm rfl rfl ?_) | exact Runs.ret (ends_cellR hm rfl rfl rfl (Nat.le_of_ble_eq_true rfl) rfl rfl))
      )
    exact rr_int rfl
  · rw [if_neg h]
    repeat' (first
 | refine RunsL.step tabOk hn rfl ?_
 | refine RunsL.nil ?_
 | refine Runs.toRegion 30 rfl ?_
 | (refine Runs.ctls 30 rfl ?_; first | ((first | refine Runs.cond_yes rfl ?_ ?_ | refine Runs.cond_nno rfl ?_ ?_); · first | omega | rfl | assumption | (simp only [List.length_map]; omega)) | ((first | refine Runs.cond_no rfl ?_ ?_ | refine Runs.cond_nyes rfl ?_ ?_); · first | omega | rfl | assumption | (simp only [List.length_map]; omega)) | refine Runs.ret (ends_ro hm rfl rfl ?_) | exact Runs.ret (ends_cellR hm rfl rfl rfl (Nat.le_of_ble_eq_true rfl) rfl rfl))
      )
    exact rr_int rfl
end Go.Proofs.Ytnecoghfhcimeaa
/- Which values a rule has: both sides. -/
namespace Go.Proofs.Ytnecoghfhcimeaa
set_option linter.unusedSimpArgs false
set_option linter.unusedVariables false
open Go.RowKit
def OwnV (d : Des) (x : Rul) (v : Tre) : Prop :=
  if x.kind = 1 then (0 ≤ v.number ∧ v.number ≤ pow8 x.size - 1) ∧ v.bytes.length = 0 ∧ v.items.length = 0
  else if x.kind = 2 then v.number = 0 ∧ v.bytes.length = 0 ∧ v.items.length = 0
  else if x.kind = 3 then v.number = 0 ∧ (v.bytes.length : Int) = x.size ∧ v.items.length = 0
  else if x.kind = 4 then v.number = 0 ∧ (v.bytes.length : Int) ≤ mn 400 (lim d (x.kids.headD 0)) ∧ v.items.length = 0
  else if x.kind = 10 then v.number = 0 ∧ v.bytes.length ≤ 400 ∧ v.items.length = 0
  else if x.kind = 5 then v.number = 0 ∧ v.bytes.length = 0 ∧ (v.items.length : Int) ≤ mn 40 (lim d (x.kids.headD 0))
  else if x.kind = 6 then v.number = 0 ∧ v.bytes.length = 0 ∧ v.items.length = x.kids.length
  else if x.kind = 7 then v.bytes.length = 0 ∧ v.items.length = 1 ∧ 0 ≤ itemR x v.number 0
  else if x.kind = 8 then v.number = 0 ∧ v.bytes.length = 0 ∧ v.items.length ≤ 1
  else v.number = 0 ∧ v.bytes.length = 0 ∧ v.items.length = 1
noncomputable instance (d : Des) (x : Rul) (v : Tre) : Decidable (OwnV d x v) := Classical.propDecidable _
def FitV (d : Des) (x : Rul) (v : Tre) : Prop :=
  if x.kind = 7 then v.bytes.length = 0 ∧ v.items.length = 1 ∧ 0 ≤ v.number ∧ v.number ≤ lim d (x.kids.headD 0) else OwnV d x v
noncomputable instance (d : Des) (x : Rul) (v : Tre) : Decidable (FitV d x v) := Classical.propDecidable _
theorem itemR_choice {d : Des} {x : Rul} (ht : TagsOk d x) (k7 : x.kind = 7) {n i : Int} (h : 0 ≤ itemR x n i) : 0 ≤ n ∧ n ≤ lim d (x.kids.headD 0) := by
  unfold itemR at h
  rw [if_neg (by omega), if_neg (by omega), if_pos k7] at h
  by_cases hl : tagIx x.tags n < x.tags.length
  · have := ht.2.2.2 _ _ (tagIx_at hl)
    exact ⟨this.1, this.2.1⟩
  · rw [getD_none (by have := ht.1; omega)] at h
    omega
theorem own_item {d : Des} {x : Rul} {v : Tre} (hG : Good' d) {r : Nat} (hx : d[r]? = some x) (h : OwnV d x v) {i : Nat} (hi : i < v.items.length) : 0 ≤ itemR x v.number i ∧ itemR x v.number i < r := by
  have hk := kind_at hG hx
  have hf := item_fields hk
  suffices hs : itemR x v.number i ≠ -1 by
    rcases itemR_lt hG hx v.number i with e | e
    · exact absurd e hs
    · exact e
  have key : ∀ k : Nat, k < x.kids.length → (x.kids[k]?).getD (-1) ≠ -1 := fun k hkl => by
    have hz : x.kids[k]? = some _ := List.getElem?_eq_getElem hkl
    have := kids_at hG hx hz
    rw [getD_some hz]; omega
  unfold OwnV at h
  by_cases k5 : x.kind = 5
  · unfold itemR
    rw [if_pos k5]
    exact key 1 (by have := hf.1 k5; omega)
  by_cases k6 : x.kind = 6
  · simp only [k6, if_true, show ¬ (6 : Int) = 1 by decide, show ¬ (6 : Int) = 2 by decide, show ¬ (6 : Int) = 3 by decide, show ¬ (6 : Int) = 4 by decide, show ¬ (6 : Int) = 5 by decide, show ¬ (6 : Int) = 10 by decide, if_false] at h
    unfold itemR
    rw [if_neg k5, if_pos k6]
    exact key _ (by omega)
  by_cases k7 : x.kind = 7
  · simp only [k7, if_true, show ¬ (7 : Int) = 1 by decide, show ¬ (7 : Int) = 2 by decide, show ¬ (7 : Int) = 3 by decide, show ¬ (7 : Int) = 4 by decide, show ¬ (7 : Int) = 5 by decide, show ¬ (7 : Int) = 6 by decide, show ¬ (7 : Int) = 10 by decide, if_false] at h
    have h0 := h.2.2
    unfold itemR at h0 ⊢
    rw [if_neg k5, if_neg k6, if_pos k7] at h0 ⊢
    omega
  by_cases k8 : x.kind = 8 ∨ x.kind = 9
  · unfold itemR
    rw [if_neg k5, if_neg k6, if_neg k7, if_pos k8]
    exact key 0 (by have := hf.2.2.1 k8; omega)
  · exfalso
    have hkk : x.kind = 1 ∨ x.kind = 2 ∨ x.kind = 3 ∨ x.kind = 4 ∨ x.kind = 10 := by
      unfold KindOk at hk
      rcases hk with hk | hk | hk | hk | hk | hk | hk | hk | hk
      all_goals omega
    rcases hkk with e | e | e | e | e
    all_goals
      simp only [e, if_true, show ¬ (2 : Int) = 1 by decide, show ¬ (3 : Int) = 1 by decide, show ¬ (3 : Int) = 2 by decide, show ¬ (4 : Int) = 1 by decide, show ¬ (4 : Int) = 2 by decide, show ¬ (4 : Int) = 3 by decide, show ¬ (10 : Int) = 1 by decide, show ¬ (10 : Int) = 2 by decide, show ¬ (10 : Int) = 3 by decide, show ¬ (10 : Int) = 4 by decide, if_false] at h
      omega
inductive Vld (d : Des) : Nat → Tre → Prop
  | mk {r : Nat} {x : Rul} {v : Tre} (hx : d[r]? = some x) (ho : OwnV d x v) (hi : ∀ (i : Nat) y, v.items[i]? = some y → Vld d (itemR x v.number i).toNat y) : Vld d r v
theorem vld_iff {d : Des} {r : Nat} {x : Rul} {v : Tre} (hx : d[r]? = some x) : Vld d r v ↔ OwnV d x v ∧ ∀ (i : Nat) y, v.items[i]? = some y → Vld d (itemR x v.number i).toNat y := by
  refine ⟨fun h => ?_, fun h => .mk hx h.1 h.2⟩
  cases h with
  | mk hx' ho hi =>
    rw [hx] at hx'
    injection hx' with e
    subst e
    exact ⟨ho, hi⟩
noncomputable instance (d : Des) (r : Nat) (v : Tre) : Decidable (Vld d r v) := Classical.propDecidable _
end Go.Proofs.Ytnecoghfhcimeaa
/- Values with memory of their own, however deep: what a call makes, kept as plain values of a frame. Over any program. -/
namespace Go.Proofs.Ytnecoghfhcimeaa
set_option linter.unusedSimpArgs false
set_option linter.unusedVariables false
open Go.RowKit
open AV (Mem Keeps)
inductive OV where
  | c (v : Value)
  | row (e : TypeId) (sz : Nat) (cs : List OV)
  | agg (cs : List OV)
  | tup (vs : List OV)
namespace OV
mutual
def rel (w : World) : OV → Value → List Nat → Prop
  | .c v, u, bs => u = v ∧ bs = []
  | .row e sz cs, u, bs => ∃ n xs bs', cs.length = n * sz ∧ 0 < sz ∧ rels w cs xs bs' ∧ (∀ x ∈ xs, x.oneCell' = true) ∧ w.ownsRow 0 e sz u n xs ∧ bs = u.ownBlock.toList ++ bs'
  | .agg cs, u, bs => ∃ us : Array Value, u = .agg us ∧ rels w cs us.toList bs
  | .tup cs, u, bs => ∃ us : Array Value, u = .tuple us ∧ rels w cs us.toList bs
def rels (w : World) : List OV → List Value → List Nat → Prop
  | [], us, bs => us = [] ∧ bs = []
  | x :: xs, us, bs => ∃ u us' b bs', us = u :: us' ∧ bs = b ++ bs' ∧ rel w x u b ∧ rels w xs us' bs'
end
theorem ownsRow_keep {w w' : World} {e : TypeId} {sz n : Nat} {u : Value} {xs : List Value} (h : w.ownsRow 0 e sz u n xs) (hb : ∀ b ∈ u.ownBlock.toList, w'.heap[b]? = w.heap[b]?) : w'.ownsRow 0 e sz u n xs := by
  obtain ⟨h1, h2⟩ := h
  refine ⟨h1, ?_⟩
  rcases h2 with h2 | ⟨g, cap, cur, rfl, h3, h4, h5⟩
  · exact .inl h2
  · exact .inr ⟨g, cap, cur, rfl, h3, (hb g (by simp [Value.ownBlock])).trans h4, h5⟩
mutual
theorem rel_keep {w w' : World} : ∀ (o : OV) (u : Value) (bs : List Nat), rel w o u bs → (∀ b ∈ bs, w'.heap[b]? = w.heap[b]?) → rel w' o u bs
  | .c v, u, bs, h, _ => by simpa [rel] using h
  | .row e sz cs, u, bs, h, hb => by
    simp only [rel] at h ⊢
    obtain ⟨n, xs, bs', h1, h2, h3, h4, h5, rfl⟩ := h
    exact ⟨n, xs, bs', h1, h2, rels_keep cs xs bs' h3 fun b hm => hb b (List.mem_append.2 (.inr hm)), h4, ownsRow_keep h5 fun b hm => hb b (List.mem_append.2 (.inl hm)), rfl⟩
  | .agg cs, u, bs, h, hb => by
    simp only [rel] at h ⊢
    obtain ⟨us, e, h1⟩ := h
    exact ⟨us, e, rels_keep cs _ bs h1 hb⟩
  | .tup cs, u, bs, h, hb => by
    simp only [rel] at h ⊢
    obtain ⟨us, e, h1⟩ := h
    exact ⟨us, e, rels_keep cs _ bs h1 hb⟩
theorem rels_keep {w w' : World} : ∀ (os : List OV) (us : List Value) (bs : List Nat), rels w os us bs → (∀ b ∈ bs, w'.heap[b]? = w.heap[b]?) → rels w' os us bs
  | [], us, bs, h, _ => by simpa [rels] using h
  | x :: xs, us, bs, h, hb => by
    simp only [rels] at h ⊢
    obtain ⟨u, us', b, bs', e1, rfl, h1, h2⟩ := h
    exact ⟨u, us', b, bs', e1, rfl, rel_keep x u b h1 fun c hm => hb c (List.mem_append.2 (.inl hm)), rels_keep xs us' bs' h2 fun c hm => hb c (List.mem_append.2 (.inr hm))⟩
end
theorem rels_len {w : World} : ∀ (os : List OV) (us : List Value) (bs : List Nat), rels w os us bs → us.length = os.length
  | [], us, bs, h => by simp only [rels] at h; simp [h.1]
  | x :: xs, us, bs, h => by
    simp only [rels] at h
    obtain ⟨u, us', b, bs', rfl, _, _, h2⟩ := h
    simp [rels_len xs us' bs' h2]
theorem rels_c {w : World} : ∀ (vs : List Value), rels w (vs.map .c) vs []
  | [] => by simp [rels]
  | v :: vs => by simp only [List.map_cons, rels]; exact ⟨v, vs, [], [], rfl, rfl, by simp [rel], rels_c vs⟩
mutual
def Seal : OV → RV → Prop
  | .c v, r => r = .c v
  | .row _ sz cs, r => ∃ els, r = .seq sz els ∧ (∀ x ∈ els, x.length = sz) ∧ Seals cs els.flatten
  | .agg cs, r => ∃ rs, r = .agg rs ∧ Seals cs rs
  | .tup cs, r => ∃ rs, r = .tup rs ∧ Seals cs rs
def Seals : List OV → List RV → Prop
  | [], rs => rs = []
  | x :: xs, rs => ∃ r rs', rs = r :: rs' ∧ Seal x r ∧ Seals xs rs'
end
theorem seals_len : ∀ (os : List OV) (rs : List RV), Seals os rs → rs.length = os.length
  | [], rs, h => by simp only [Seals] at h; simp [h]
  | x :: xs, rs, h => by
    simp only [Seals] at h
    obtain ⟨r, rs', rfl, _, h2⟩ := h
    simp [seals_len xs rs' h2]
mutual
theorem seal_rel {w : World} {ok : Nat → Prop} : ∀ (o : OV) (r : RV) (u : Value) (bs : List Nat), Seal o r → rel w o u bs → (∀ b ∈ bs, ok b) → RV.rel w ok r u
  | .c v, r, u, bs, hs, h, _ => by
    simp only [Seal] at hs; subst hs
    simp only [rel] at h
    simpa only [RV.rel] using h.1
  | .row e sz cs, r, u, bs, hs, h, hb => by
    simp only [Seal] at hs
    obtain ⟨els, rfl, hl, hf⟩ := hs
    simp only [rel] at h
    obtain ⟨n, xs, bs', k1, k2, k3, k4, k5, rfl⟩ := h
    have hrs : RV.rels w ok els.flatten xs := seals_rel cs els.flatten xs bs' hf k3 fun b hm => hb b (List.mem_append.2 (.inr hm))
    have hn : n = els.length := by
      have h1 := flatten_len hl
      rw [seals_len cs _ hf, k1] at h1
      exact Nat.eq_of_mul_eq_mul_right k2 h1
    simp only [RV.rel]
    rcases k5.2 with ⟨rfl, h0⟩ | ⟨g, cap, cur, rfl, _, hh, c1, c2, c3, ht⟩
    · exact ⟨none, 0, 0, rfl, by omega, Nat.le_refl _, Nat.zero_le _, fun h => absurd h (by omega)⟩
    · refine ⟨some ⟨g, 0, none⟩, n, cap, rfl, hn, c1, c2, fun hn0 => ⟨g, 0, rfl, (Array.getElem?_eq_some_iff.1 hh).1, hb g (by simp [Value.ownBlock]), ?_⟩⟩
      refine RV.relE_of _ _ _ fun k el hk => ⟨hl el (List.mem_of_getElem? hk), RV.relAt_of _ _ fun j r hj => ?_⟩
      have hjl : j < sz := by have := (List.getElem?_eq_some_iff.1 hj).1; rwa [hl el (List.mem_of_getElem? hk)] at this
      have hfl := flatten_at hl k j el hk hjl
      rw [hj] at hfl
      obtain ⟨x, e1, e2⟩ := RV.rels_at _ xs hrs _ r hfl
      refine ⟨x, ?_, k4 x (List.mem_of_getElem? e1), e2⟩
      rw [cell_of_row w g _ cur _ _ hh, Nat.zero_add]
      rw [← ht, List.getElem?_take] at e1
      split at e1
      · simpa using e1
      · cases e1
  | .agg cs, r, u, bs, hs, h, hb => by
    simp only [Seal] at hs
    obtain ⟨rs, rfl, hf⟩ := hs
    simp only [rel] at h
    obtain ⟨us, rfl, h1⟩ := h
    simp only [RV.rel]
    exact ⟨us, rfl, seals_rel cs rs _ bs hf h1 hb⟩
  | .tup cs, r, u, bs, hs, h, hb => by
    simp only [Seal] at hs
    obtain ⟨rs, rfl, hf⟩ := hs
    simp only [rel] at h
    obtain ⟨us, rfl, h1⟩ := h
    simp only [RV.rel]
    exact ⟨us, rfl, seals_rel cs rs _ bs hf h1 hb⟩
theorem seals_rel {w : World} {ok : Nat → Prop} : ∀ (os : List OV) (rs : List RV) (us : List Value) (bs : List Nat), Seals os rs → rels w os us bs → (∀ b ∈ bs, ok b) → RV.rels w ok rs us
  | [], rs, us, bs, hs, h, _ => by
    simp only [Seals] at hs; subst hs
    simp only [rels] at h
    simp [RV.rels, h.1]
  | x :: xs, rs, us, bs, hs, h, hb => by
    simp only [Seals] at hs
    obtain ⟨r, rs', rfl, hs1, hs2⟩ := hs
    simp only [rels] at h
    obtain ⟨u, us', b, bs', rfl, rfl, h1, h2⟩ := h
    simp only [RV.rels]
    exact ⟨u, us', rfl, seal_rel x r u b hs1 h1 fun c hm => hb c (List.mem_append.2 (.inl hm)), seals_rel xs rs' us' bs' hs2 h2 fun c hm => hb c (List.mem_append.2 (.inr hm))⟩
end
end OV
def ACo (P : Program) (f : FuncId) (args : List RV) (ov : OV) : Prop :=
  ∀ (w : World) (us : Array Value), RV.rels w (fun _ => True) args us.toList →
    Calls P f us w fun e w' => ∃ u bs, e = .returned u ∧ OV.rel w' ov u bs ∧ bs.Nodup ∧ (∀ b ∈ bs, w.heap.size ≤ b ∧ b < w'.heap.size) ∧ Below w.heap.size w w'
structure Gh (C : Ctx) (ov : OV) (u : Value) (bs : List Nat) : Prop where
  rel : OV.rel C.w0 ov u bs
  fix : ∀ b ∈ bs, b < C.w0.heap.size ∧ ¬ C.mu b ∧ ¬ C.ok b
structure Nx (C C' : Ctx) (bs : List Nat) : Prop where
  n : C'.n = C.n
  os : C'.w0.os = C.w0.os
  tape : C'.w0.tape = C.w0.tape
  output : C'.w0.output = C.w0.output
  size : C.w0.heap.size ≤ C'.w0.heap.size
  block : ∀ b, b < C.w0.heap.size → ¬ C.mu b → b ∉ bs → C'.w0.heap[b]? = C.w0.heap[b]?
  mu : ∀ b, C'.mu b → C.mu b ∨ C.w0.heap.size ≤ b
  ok : ∀ b, C'.ok b → C.ok b
theorem Gh.next {C C' : Ctx} {ov : OV} {u : Value} {bs ds : List Nat} (h : Gh C ov u bs) (k : Nx C C' ds) (hd : ∀ b ∈ bs, b ∉ ds) : Gh C' ov u bs := by
  refine ⟨OV.rel_keep ov u bs h.rel fun b hb => k.block b (h.fix b hb).1 (h.fix b hb).2.1 (hd b hb), fun b hb => ⟨Nat.lt_of_lt_of_le (h.fix b hb).1 k.size, fun hm => ?_, fun ho => (h.fix b hb).2.2 (k.ok b ho)⟩⟩
  rcases k.mu b hm with h1 | h1
  · exact (h.fix b hb).2.1 h1
  · have := (h.fix b hb).1; omega
theorem Nx.trans {C C' C'' : Ctx} {bs ds : List Nat} (h : Nx C C' bs) (k : Nx C' C'' ds) : Nx C C'' (bs ++ ds) :=
  ⟨k.n.trans h.n, k.os.trans h.os, k.tape.trans h.tape, k.output.trans h.output, Nat.le_trans h.size k.size, fun b h1 h2 h3 => by
    rw [List.mem_append, not_or] at h3
    refine (k.block b (Nat.lt_of_lt_of_le h1 h.size) (fun hm => ?_) h3.2).trans (h.block b h1 h2 h3.1)
    rcases h.mu b hm with h4 | h4
    · exact h2 h4
    · omega, fun b hm => by
    rcases k.mu b hm with h4 | h4
    · exact h.mu b h4
    · exact .inr (Nat.le_trans h.size h4), fun b ho => h.ok b (k.ok b ho)⟩
section
variable {P : Program} {C : Ctx} {ops : Array Oper} {rest : List Oper} {k : List Item} {R : Act → World → Prop} {env : Env} {σ : List Ob} {t : Nat} {ty : TypeId} {pos : String} {after : Array Edge} {gd : Option (Nat × Bool)}
def LendsT (C : Ctx) (σ : List Ob) (v : AV) (r : RV) : Prop := ∀ (m : Mem) (u : Value), Good C m → m.σ = σ → AV.rel m v u → RV.rel m.w (fun _ => True) r u
inductive LendsTL (C : Ctx) (σ : List Ob) : List AV → List RV → Prop
  | nil : LendsTL C σ [] []
  | cons {v : AV} {r : RV} {vs : List AV} {rs : List RV} : LendsT C σ v r → LendsTL C σ vs rs → LendsTL C σ (v :: vs) (r :: rs)
theorem LendsT.of {v : AV} {r : RV} (h : Lends C σ v r) : LendsT C σ v r := fun m u hG hσ hu => h m u (fun _ => True) hG hσ (fun _ _ => trivial) (fun _ _ _ _ => trivial) hu
theorem LendsT.ro {r : RV} : LendsT C σ (.ro r) r := LendsT.of Lends.ro
theorem LendsTL.rels {m : Mem} (hG : Good C m) (hσ : m.σ = σ) {vs : List AV} {rs : List RV} (h : LendsTL C σ vs rs) : ∀ us, AV.rels m vs us → RV.rels m.w (fun _ => True) rs us := by
  induction h with
  | nil => intro us hu; simpa [AV.rels, RV.rels] using hu
  | cons h1 _ ih =>
    intro us hu
    simp only [AV.rels] at hu
    obtain ⟨u, us', rfl, k3, k4⟩ := hu
    simp only [RV.rels]
    exact ⟨u, us', rfl, h1 m u hG hσ k3, ih us' k4⟩
end
end Go.Proofs.Ytnecoghfhcimeaa
/- Values with memory of their own: how a function that makes one is entered and left; plain values behind a row; steps on memory that is known by its block. Over any program. -/
namespace Go.Proofs.Ytnecoghfhcimeaa
set_option linter.unusedSimpArgs false
set_option linter.unusedVariables false
open Go.RowKit
open AV (Mem Keeps)
structure Sc (C0 C : Ctx) : Prop where
  below : Below C0.w0.heap.size C0.w0 C.w0
  mu : ∀ b, C.mu b → C0.w0.heap.size ≤ b
theorem Sc.start {C : Ctx} (hm : ∀ b, ¬ C.mu b) : Sc C C := ⟨Below.refl _ _, fun b h => absurd h (hm b)⟩
theorem Sc.next {C0 C C' : Ctx} {bs : List Nat} (h : Sc C0 C) (k : Nx C C' bs) (hb : ∀ b ∈ bs, C0.w0.heap.size ≤ b) : Sc C0 C' := by
  refine ⟨⟨k.os.trans h.below.os, k.tape.trans h.below.tape, k.output.trans h.below.output, Nat.le_trans h.below.size k.size, fun b hlt => ?_⟩, fun b hm => ?_⟩
  · refine (k.block b (Nat.lt_of_lt_of_le hlt h.below.size) (fun hm => ?_) fun hm => ?_).trans (h.below.block b hlt)
    · have := h.mu b hm; omega
    · have := hb b hm; omega
  · rcases k.mu b hm with h1 | h1
    · exact h.mu b h1
    · exact Nat.le_trans h.below.size h1
section
variable {P : Program} {C C0 : Ctx} {S : St} {fn : Func}
end
mutual
def RO : RR → OV → Prop
  | .ro r, o => ∃ v, r = .c v ∧ o = .c v
  | .row e sz cs, o => ∃ vs : List Value, cs = vs.map .c ∧ o = .row e sz (vs.map .c)
  | .agg rs, o => ∃ os, o = .agg os ∧ ROs rs os
  | .tup rs, o => ∃ os, o = .tup os ∧ ROs rs os
def ROs : List RR → List OV → Prop
  | [], os => os = []
  | x :: xs, os => ∃ o os', os = o :: os' ∧ RO x o ∧ ROs xs os'
end
mutual
theorem ro_rel {w : World} {ok : Nat → Prop} : ∀ (rr : RR) (o : OV) (u : Value) (bs : List Nat), RO rr o → rr.rel w ok u bs → OV.rel w o u bs
  | .ro r, o, u, bs, h, hr => by
    simp only [RO] at h
    obtain ⟨v, rfl, rfl⟩ := h
    simp only [RR.rel, RV.rel] at hr
    simp only [OV.rel]
    exact hr
  | .row e sz cs, o, u, bs, h, hr => by
    simp only [RO] at h
    obtain ⟨vs, rfl, rfl⟩ := h
    simp only [RR.rel] at hr
    obtain ⟨n, xs, k1, k2, k3, k4, k5, rfl⟩ := hr
    have e2 := agg_flat (m := ⟨w, fun _ => none, [], ok⟩) vs xs (RV.rels_mono ⟨Nat.le_refl _, fun b _ hb => ⟨⟨hb, fun i hi => by simp at hi⟩, rfl⟩⟩ _ _ k3)
    subst e2
    simp only [OV.rel]
    exact ⟨n, xs, [], by simpa using k1, k2, OV.rels_c xs, k4, k5, by simp⟩
  | .agg rs, o, u, bs, h, hr => by
    simp only [RO] at h
    obtain ⟨os, rfl, h⟩ := h
    simp only [RR.rel] at hr
    obtain ⟨us, rfl, hr⟩ := hr
    simp only [OV.rel]
    exact ⟨us, rfl, ros_rel rs os _ bs h hr⟩
  | .tup rs, o, u, bs, h, hr => by
    simp only [RO] at h
    obtain ⟨os, rfl, h⟩ := h
    simp only [RR.rel] at hr
    obtain ⟨us, rfl, hr⟩ := hr
    simp only [OV.rel]
    exact ⟨us, rfl, ros_rel rs os _ bs h hr⟩
theorem ros_rel {w : World} {ok : Nat → Prop} : ∀ (rs : List RR) (os : List OV) (us : List Value) (bs : List Nat), ROs rs os → RR.rels w ok rs us bs → OV.rels w os us bs
  | [], os, us, bs, h, hr => by
    simp only [ROs] at h; subst h
    simpa [RR.rels, OV.rels] using hr
  | x :: xs, os, us, bs, h, hr => by
    simp only [ROs] at h
    obtain ⟨o, os', rfl, h1, h2⟩ := h
    simp only [RR.rels] at hr
    obtain ⟨u, us', b, bs', rfl, rfl, k1, k2⟩ := hr
    simp only [OV.rels]
    exact ⟨u, us', b, bs', rfl, rfl, ro_rel x o u b h1 k1, ros_rel xs os' us' bs' h2 k2⟩
end
section
variable {P : Program} {C : Ctx} {env : Env} {σ : List Ob} {t : Nat} {ty : TypeId} {pos : String} {after : Array Edge} {gd : Option (Nat × Bool)}
end
end Go.Proofs.Ytnecoghfhcimeaa
/- Descriptions that the laws' helpers make: all in memory of their own. -/
namespace Go.Proofs.Ytnecoghfhcimeaa
set_option linter.unusedSimpArgs false
set_option linter.unusedVariables false
open Go.RowKit
def bytesO (l : List UInt8) : OV := .row 5 1 ((l.map fun z => Value.int .u8 (z.toNat : Int)).map .c)
end Go.Proofs.Ytnecoghfhcimeaa
/- Marks: functions that write into a value that they are handed. Steps on memory that is known by its block. Over any program. -/
namespace Go.Proofs.Ytnecoghfhcimeaa
set_option linter.unusedSimpArgs false
set_option linter.unusedVariables false
open Go.RowKit
open AV (Mem Keeps)
structure Bk (C : Ctx) (g : Nat) (us : Array Value) (e : TypeId) : Prop where
  cells : C.w0.heap[g]? = some (.cells us e (0, 0))
  mu : ¬ C.mu g
  ok : ¬ C.ok g
theorem Bk.lt {C : Ctx} {g : Nat} {us : Array Value} {e : TypeId} (h : Bk C g us e) : g < C.w0.heap.size := (Array.getElem?_eq_some_iff.1 h.cells).1
theorem Bk.now {C : Ctx} {m : Mem} {g : Nat} {us : Array Value} {e : TypeId} (h : Bk C g us e) (hG : Good C m) : m.w.heap[g]? = some (.cells us e (0, 0)) := (hG.frm.block g h.lt h.mu).trans h.cells
theorem Bk.next {C C' : Ctx} {g : Nat} {us : Array Value} {e : TypeId} {ds : List Nat} (h : Bk C g us e) (k : Nx C C' ds) (hd : g ∉ ds) : Bk C' g us e :=
  ⟨(k.block g h.lt h.mu hd).trans h.cells, fun hm => (k.mu g hm).elim h.mu fun h1 => by have := h.lt; omega, fun ho => h.ok (k.ok g ho)⟩
section
variable {P : Program} {C : Ctx} {ops : Array Oper} {rest : List Oper} {k : List Item} {R : Act → World → Prop} {env : Env} {σ : List Ob} {t : Nat} {ty : TypeId} {pos : String} {after : Array Edge} {gd : Option (Nat × Bool)}
end
structure Up (w w' : World) (bs : List Nat) : Prop where
  os : w'.os = w.os
  tape : w'.tape = w.tape
  output : w'.output = w.output
  size : w.heap.size ≤ w'.heap.size
  block : ∀ b, b < w.heap.size → b ∉ bs → w'.heap[b]? = w.heap[b]?
def MK (P : Program) (f : FuncId) (ov : OV) (k k' : Int) (ov' : OV) : Prop :=
  ∀ (w : World) (u : Value) (bs : List Nat), OV.rel w ov u bs → bs.Nodup → (∀ b ∈ bs, b < w.heap.size) →
    Calls P f #[u, .int .i64 k] w fun e w' => e = .returned (.int .i64 k') ∧ OV.rel w' ov' u bs ∧ Up w w' bs
def MX (P : Program) (f : FuncId) (ov : OV) (k k' : Int) : Prop :=
  ∀ (w : World) (u : Value) (bs : List Nat), OV.rel w ov u bs → bs.Nodup → (∀ b ∈ bs, b < w.heap.size) →
    Calls P f #[u, .int .i64 k] w fun e w' => e = .returned (.int .i64 k') ∧ Up w w' bs
theorem MK.mx {P : Program} {f : FuncId} {ov ov' : OV} {k k' : Int} (h : MK P f ov k k' ov') : MX P f ov k k' := fun w u bs h1 h2 h3 => (h w u bs h1 h2 h3).mono fun _ _ h => ⟨h.1, h.2.2⟩
theorem Nx.sub {C C' : Ctx} {bs ds : List Nat} (h : Nx C C' bs) (hs : ∀ b ∈ bs, b ∈ ds) : Nx C C' ds :=
  ⟨h.n, h.os, h.tape, h.output, h.size, fun b h1 h2 h3 => h.block b h1 h2 fun hm => h3 (hs b hm), h.mu, h.ok⟩
theorem Nx.refl (C : Ctx) (bs : List Nat) : Nx C C bs := ⟨rfl, rfl, rfl, rfl, Nat.le_refl _, fun _ _ _ _ => rfl, fun _ h => .inl h, fun _ h => h⟩
theorem Nx.up {C C' : Ctx} {bs : List Nat} (h : Nx C C' bs) (hm : ∀ b, ¬ C.mu b) {m : Mem} (hG : Good C' m) : Up C.w0 m.w bs :=
  ⟨hG.frm.os.trans h.os, hG.frm.tape.trans h.tape, hG.frm.output.trans h.output, Nat.le_trans h.size hG.frm.size, fun b hb hn => (hG.frm.block b (Nat.lt_of_lt_of_le hb h.size) fun hmu => (h.mu b hmu).elim (hm b) fun h1 => by omega).trans (h.block b hb (hm b) hn)⟩
section
variable {P : Program} {C C0 : Ctx} {S : St} {fn : Func}
end
section
variable {P : Program} {C : Ctx} {ops : Array Oper} {rest : List Oper} {k : List Item} {R : Act → World → Prop} {env : Env} {σ : List Ob} {t : Nat} {ty : TypeId} {pos : String} {after : Array Edge} {gd : Option (Nat × Bool)}
end
end Go.Proofs.Ytnecoghfhcimeaa
/- Marks on flat rows: written, and found again. -/
namespace Go.Proofs.Ytnecoghfhcimeaa
set_option linter.unusedSimpArgs false
set_option linter.unusedVariables false
open Go.RowKit
open AV (Mem Keeps)
def seqI (k : Int) (n : Nat) : List Int := (List.range n).map fun (i : Nat) => k + (i : Int)
end Go.Proofs.Ytnecoghfhcimeaa
/- Marks on rows of bytes. -/
namespace Go.Proofs.Ytnecoghfhcimeaa
set_option linter.unusedSimpArgs false
set_option linter.unusedVariables false
open Go.RowKit
open AV (Mem Keeps)
def seqB (k : Int) (n : Nat) : List UInt8 := (seqI k n).map fun z => UInt8.ofNat (IntKind.u8.wrap z).toNat
end Go.Proofs.Ytnecoghfhcimeaa
/- Marks on rows of texts. -/
namespace Go.Proofs.Ytnecoghfhcimeaa
set_option linter.unusedSimpArgs false
set_option linter.unusedVariables false
open Go.RowKit
open AV (Mem Keeps)
end Go.Proofs.Ytnecoghfhcimeaa
/- Marks: calls that write into values of the frame's. Over any program. -/
namespace Go.Proofs.Ytnecoghfhcimeaa
set_option linter.unusedSimpArgs false
set_option linter.unusedVariables false
open Go.RowKit
open AV (Mem Keeps)
section
variable {P : Program} {C : Ctx} {ops : Array Oper} {rest : List Oper} {k : List Item} {R : Act → World → Prop} {env : Env} {σ : List Ob} {t : Nat} {ty : TypeId} {pos : String} {after : Array Edge}
end
theorem Gh.rels {C : Ctx} {os : List OV} {us : List Value} {bs : List Nat} (h : Gh C (.agg os) (.agg us.toArray) bs) : OV.rels C.w0 os us bs := by
  have := h.rel
  simp only [OV.rel] at this
  obtain ⟨vs, e, h1⟩ := this
  injection e with e
  subst e
  simpa using h1
end Go.Proofs.Ytnecoghfhcimeaa
/- Marks on descriptions. -/
namespace Go.Proofs.Ytnecoghfhcimeaa
set_option linter.unusedSimpArgs false
set_option linter.unusedVariables false
open Go.RowKit
open AV (Mem Keeps)
end Go.Proofs.Ytnecoghfhcimeaa
/- Marks: what the laws want. -/
namespace Go.Proofs.Ytnecoghfhcimeaa
set_option linter.unusedSimpArgs false
set_option linter.unusedVariables false
open Go.RowKit
open AV (Mem Keeps)
end Go.Proofs.Ytnecoghfhcimeaa
/- Values of the format in memory of their own: as the laws' helpers make them; read as data. -/
namespace Go.Proofs.Ytnecoghfhcimeaa
set_option linter.unusedSimpArgs false
set_option linter.unusedVariables false
open Go.RowKit
open AV (Mem Keeps)
mutual
def treOs : Tre → List OV
  | .mk n b l => [.c (.int .i64 n), bytesO b, .row 29 3 (tresOs l)]
def tresOs : List Tre → List OV
  | [] => []
  | v :: vs => treOs v ++ tresOs vs
end
end Go.Proofs.Ytnecoghfhcimeaa
/- Regions that draw their order, without calls: walked once for each order. Over any program. -/
namespace Go.Proofs.Ytnecoghfhcimeaa
set_option linter.unusedSimpArgs false
set_option linter.unusedVariables false
open Go.RowKit
open AV (Mem Keeps)
structure Nv (s : Sem Next) : Prop where
  val : ∀ (P : Program) (w : World) (x : Next) (w' : World), s.run P w = .ok x w' → (∃ v, x = .value v) ∨ x = .skip
theorem Nv.of {s : Sem Value} : Nv (do Pure.pure (.value (← s)) : Sem Next) := ⟨fun P w x w' e => by
  rw [Sem.run_bind] at e
  cases hs : s.run P w with
  | ok a w1 => rw [hs] at e; simp only [Result.andThen_ok, Sem.run_pure] at e; injection e with e; exact .inl ⟨a, e.symm⟩
  | halt q w1 => rw [hs] at e; cases e⟩
def sel (l : List Oper) : List Nat → List Oper
  | [] => []
  | i :: is => match l[i]? with
    | some o => o :: sel l is
    | none => sel l is
section
variable {P : Program} {C : Ctx} {k : List Item} {R : Act → World → Prop} {env : Env} {σ : List Ob}
def AllOrd (P : Program) (C : Ctx) (l : List Oper) (k : List Item) (R : Act → World → Prop) (S : St) : List (List Nat) → Prop
  | [] => True
  | π :: L => RunsL P C l.toArray (sel l π) k R S ∧ AllOrd P C l k R S L
theorem AllOrd.at_ {l : List Oper} {S : St} : ∀ {L : List (List Nat)}, AllOrd P C l k R S L → ∀ π ∈ L, RunsL P C l.toArray (sel l π) k R S
  | [], _, π, h => by simp at h
  | ρ :: L, hL, π, h => by
    rcases List.mem_cons.1 h with rfl | h
    · exact hL.1
    · exact AllOrd.at_ hL.2 π h
end
end Go.Proofs.Ytnecoghfhcimeaa
/- Regions that draw their order: walked as a tree, calls with results of their own among the operations. Over any program. -/
namespace Go.Proofs.Ytnecoghfhcimeaa
set_option linter.unusedSimpArgs false
set_option linter.unusedVariables false
open Go.RowKit
open AV (Mem Keeps)
section
variable {P : Program} {C C0 : Ctx} {l : List Oper} {k : List Item} {R : Act → World → Prop} {env : Env} {σ : List Ob} {f i t : Nat} {listed : Array Bool}
structure RunsA (P : Program) (C : Ctx) (l : List Oper) (k : List Item) (R : Act → World → Prop) (f : Nat) (listed : Array Bool) (S : St) : Prop where
  run : ∀ a w, Sim C S a w → wpAny P .any l.toArray (nrm (Fin P k R)) f listed a w
structure StepA (P : Program) (C : Ctx) (l : List Oper) (k : List Item) (R : Act → World → Prop) (f : Nat) (listed : Array Bool) (i : Nat) (o : Oper) (S : St) : Prop where
  run : ∀ a w, Sim C S a w → o.wp P a w (wpAny P .any l.toArray (nrm (Fin P k R)) f (listed.setIfInBounds i true)) (nrm (Fin P k R))
def StepsA (P : Program) (C : Ctx) (l : List Oper) (k : List Item) (R : Act → World → Prop) (f : Nat) (listed : Array Bool) (S : St) : List (Nat × Oper) → Prop
  | [] => True
  | p :: L => StepA P C l k R f listed p.1 p.2 S ∧ StepsA P C l k R f listed S L
theorem StepsA.at_ {S : St} : ∀ {L : List (Nat × Oper)}, StepsA P C l k R f listed S L → ∀ p ∈ L, StepA P C l k R f listed p.1 p.2 S
  | [], _, p, h => by simp at h
  | q :: L, hL, p, h => by
    rcases List.mem_cons.1 h with rfl | h
    · exact hL.1
    · exact StepsA.at_ hL.2 p h
theorem StepA.pur {o : Oper} {v : AV} (h : Pur P C o env σ v) (hd : o.dst = some t) (ht : t < C.n) (hk : RunsA P C l k R f (listed.setIfInBounds i true) ⟨(t, v) :: env, σ⟩) : StepA P C l k R f listed i o ⟨env, σ⟩ := by
  refine ⟨fun a w ⟨h1, h2, φ, h3, h4⟩ => ?_⟩
  refine h.run a ⟨w, φ, σ, C.ok⟩ h3 rfl (fun x _ => ev_rel h4 x) _ _ fun u w' hb hv => ?_
  obtain ⟨g1, g2⟩ := good_below h3 hb
  rw [hd]
  exact hk.run _ _ ⟨h1, by simp [Act.put, h2], φ, g1, (h4.keeps g2).put (by rw [h2]; exact ht) hv⟩
theorem RunsA.seq {S : St} (n : Nat) (hf : (l.drop n).length = f) (hs : Region.seqB .any l.toArray f n listed = true) (h : RunsL P C l.toArray (l.drop n) k R S) : RunsA P C l k R f listed S := by
  subst hf
  exact ⟨fun a w hS => wpAny_of_seq (md := .any) (Q' := nrm (Fin P k R)) (l.drop n) n listed a w (fun j => by simp [List.getElem?_drop]) hs (h.run a w hS)⟩
theorem RunsL.keep {ops : Array Oper} {rest : List Oper} (env' : Env) (h : Sub env' env) (hk : RunsL P C ops rest k R ⟨env', σ⟩) : RunsL P C ops rest k R ⟨env, σ⟩ :=
  ⟨fun a w ⟨h1, h2, φ, h3, h4⟩ => hk.run a w ⟨h1, h2, φ, h3, fun s => by
    rcases h.look s with e | e
    · show AV.rel _ (Proofs.Ytnecoghfhcimeaa.look env' s) _
      rw [e]; simp [AV.rel]
    · show AV.rel _ (Proofs.Ytnecoghfhcimeaa.look env' s) _
      rw [e]; exact h4 s⟩⟩
end
end Go.Proofs.Ytnecoghfhcimeaa
/- Regions that draw their order, with some operations that look at operands alone and may come late. Over any program. -/
namespace Go.Proofs.Ytnecoghfhcimeaa
set_option linter.unusedSimpArgs false
set_option linter.unusedVariables false
open Go.RowKit
open AV (Mem Keeps)
section
variable {P : Program} {md : Region.Mode} {ops : Array Oper}
def YA (P : Program) (ops : Array Oper) (o : Oper) (v : Value) (a : Act) : Prop := Region.wanted o (yielded ops a.tmps) = true ∧ ∀ w, (execOp a.eval o).run P w = .ok (.value v) w
theorem YA.put {oi oj : Oper} {v u : Value} {a : Act} (hsi : ∀ cs b, oi.op ≠ .select cs b) (h3 : ∀ d, oj.dst = some d → d ∉ oi.looksAt ops) (h : YA P ops oi v a) : YA P ops oi v (a.put oj.dst u) :=
  ⟨by rw [wanted_put oi a oj.dst u h3]; exact h.1, fun w => by rw [execOp_put oi hsi a oj.dst u h3]; exact h.2 w⟩
theorem wpOp_ya {F : Act → World → Prop} {j : Nat} {oi oj : Oper} {v : Value} (hj : ops[j]? = some oj) (hap : oi.apart ops oj = true) (hsi : ∀ cs b, oi.op ≠ .select cs b) (hsj : ∀ cs b, oj.op ≠ .select cs b) {K K' : Act → World → Prop} {a : Act} {w : World} (hy : YA P ops oi v a)
    (h : wpOp P ops (nrm F) j K' (a.put oi.dst v) w) (hK : ∀ a' w', YA P ops oi v a' → K' (a'.put oi.dst v) w' → K a' w') : wpOp P ops (nrm F) j K a w := by
  obtain ⟨h1, h2, h3⟩ := Oper.apart_spec hap
  unfold wpOp at *
  simp only [hj] at *
  rw [wanted_put oj a oi.dst _ h1] at h
  have key : ∀ u w', K' ((a.put oi.dst v).put oj.dst u) w' → K (a.put oj.dst u) w' := fun u w' hk => hK _ _ (hy.put hsi h3) (by rwa [← Act.put_comm a v u h2])
  split
  · rename_i hw
    simp only [hw, if_true] at h
    refine h.imp (fun h => ?_) (fun h => ⟨?_, h.2⟩)
    · unfold Oper.wp at *
      rw [execOp_put oj hsj a oi.dst _ h1] at h
      generalize (execOp a.eval oj).run P w = r at *
      cases r with
      | ok n w' =>
        cases n with
        | value u => exact key u w' h
        | skip => exact key undef w' h
        | enter f args => exact Calls.mono h (fun e w'' he => by cases e <;> first | exact key _ w'' he | exact he | exact he.elim)
        | row r args => exact Rows.mono h fun v w'' he => key v w'' he
        | defer d =>
          simp only [Oper.upon] at h ⊢
          have e : ({ a.put oi.dst v with defers := d :: (a.put oi.dst v).defers } : Act).put oj.dst undef = (({ a with defers := d :: a.defers } : Act).put oj.dst undef).put oi.dst v := by
            have := Act.put_comm ({ a with defers := d :: a.defers } : Act) v undef h2
            rw [← this]
            cases oi.dst <;> rfl
          rw [e] at h
          refine hK _ _ ?_ h
          have hy' : YA P ops oi v ({ a with defers := d :: a.defers } : Act) := hy
          exact hy'.put hsi h3
        | _ => exact h
      | halt x w' => cases x <;> exact h
    · have := h.1
      unfold Oper.asks at this ⊢
      rwa [execOp_put oj hsj a oi.dst _ h1] at this
  · rename_i hw
    simp only [hw] at h
    exact key undef w h
theorem wpAny_ya {F : Act → World → Prop} {i : Nat} {oi : Oper} {v : Value} (hi : ops[i]? = some oi) (hsel : ∀ (j : Nat) (o : Oper) cs b, ops[j]? = some o → o.op ≠ .select cs b) :
    ∀ (fuel : Nat) (listed : Array Bool) (a : Act) (w : World), YA P ops oi v a →
      (∀ j oj, ops[j]? = some oj → j ≠ i → listed.getD j true = false → (∀ e ∈ oj.after, Region.binds md e = true → e.on ≠ i) → oi.apart ops oj = true) →
      i ∈ Region.ready md ops listed →
      wpAny P md ops (nrm F) fuel (listed.setIfInBounds i true) (a.put oi.dst v) w → wpAny P md ops (nrm F) (fuel + 1) listed a w := by
  have own : ∀ {K : Act → World → Prop} {a : Act} {w : World}, YA P ops oi v a → K (a.put oi.dst v) w → wpOp P ops (nrm F) i K a w := by
    intro K a w hy h
    unfold wpOp
    simp only [hi]
    rw [if_pos hy.1]
    refine .inl ?_
    unfold Oper.wp
    rw [hy.2 w]
    exact h
  intro fuel
  induction fuel with
  | zero =>
    intro listed a w hy _ hr H
    refine ⟨fun h => (by rw [h] at hr; cases hr), fun j hj => ?_⟩
    by_cases hji : j = i
    · subst hji; exact own hy H
    · have := ready_mono hj hji
      rw [H.1] at this
      cases this
  | succ fuel ih =>
    intro listed a w hy hfree hr H
    refine ⟨fun h => (by rw [h] at hr; cases hr), fun j hj => ?_⟩
    by_cases hji : j = i
    · subst hji; exact own hy H
    · have h1 := H.2 j (ready_mono hj hji)
      obtain ⟨hjun, oj, hoj, hall⟩ := mem_ready.1 hj
      have hnot : ∀ e ∈ oj.after, Region.binds md e = true → e.on ≠ i := fun e he hb heq => by
        have h1 := hall e he hb
        have h0 := (mem_ready.1 hr).1
        rw [heq, getD_both h0] at h1
        cases h1
      have hfree' : ∀ k ok, ops[k]? = some ok → k ≠ i → (listed.setIfInBounds j true).getD k true = false →
          (∀ e ∈ ok.after, Region.binds md e = true → e.on ≠ i) → oi.apart ops ok = true := fun k ok hk hki hun hno => by
        refine hfree k ok hk hki ?_ hno
        by_cases hjk : j = k
        · subst hjk; exact hjun
        · rw [getD_set_ne true hjk] at hun; exact hun
      refine wpOp_ya hoj (hfree j oj hoj hji hjun hnot) (fun cs b => hsel i oi cs b hi) (fun cs b => hsel j oj cs b hoj) hy h1 fun a' w' hy' h3 => ih (listed.setIfInBounds j true) a' w' hy' hfree' (ready_mono hr (Ne.symm hji)) ?_
      rw [Array.setIfInBounds_comm _ _ hji]
      exact h3
def isMv (o : Oper) : Bool := match o with
  | ⟨some _, .move _, _, _, _, none⟩ => true
  | ⟨some _, .extract _ _, _, _, _, none⟩ => true
  | _ => false
theorem isMv_ya {o : Oper} (h : isMv o = true) (a : Act) : (∃ u, YA P ops o u a) ∨ ∀ w x w', (execOp a.eval o).run P w ≠ .ok x w' ∧ ∀ v, (execOp a.eval o).run P w ≠ .halt (.panic v) w' := by
  obtain ⟨dst, op, ty, pos, after, g⟩ := o
  unfold isMv at h
  split at h
  · rename_i he; injection he with e1 e2 e3 e4 e5 e6; subst e1; subst e2; subst e6
    exact .inl ⟨_, by simp [Region.wanted], fun w => by simp [execOp]; rfl⟩
  · rename_i t x j _ _ _ he; injection he with e1 e2 e3 e4 e5 e6; subst e1; subst e2; subst e6
    cases hx : a.eval x with
    | tuple vs =>
      cases hv : vs[j]? with
      | some u => exact .inl ⟨u, by simp [Region.wanted], fun w => by simp [execOp, Instr.extract, hx, hv]⟩
      | none => exact .inr fun w x w' => by simp [execOp, Instr.extract, hx, hv, stuck]
    | _ => exact .inr fun w x w' => by simp [execOp, Instr.extract, hx, stuck]
  · cases h
end
def backB (md : Region.Mode) (ops : Array Oper) (e : Nat) : Bool := match ops[e]? with
  | some o => o.after.all fun ed => !Region.binds md ed || decide (ed.on < e)
  | none => false
def sinkQ (md : Region.Mode) (ops : Array Oper) (pri : List Nat) (n : Nat) : Bool :=
  (List.range n).all fun i => (pri.contains i && backB md ops i) || (!pri.contains i && (List.range (n + 1)).any fun j => decide (i < j) && (decide (j = n) || !pri.contains j) && Region.waitsFor md ops j i)
def freeAll (md : Region.Mode) (ops : Array Oper) (e : Nat) : Bool := match ops[e]? with
  | some o => isMv o && (List.range ops.size).all fun j => decide (j = e) || Region.waitsFor md ops j e || Region.waitsFor md ops e j || match ops[j]? with
    | some oj => o.apart ops oj
    | none => true
  | none => false
theorem freeAll_spec {md : Region.Mode} {ops : Array Oper} {e : Nat} {oe : Oper} (he : ops[e]? = some oe) (h : freeAll md ops e = true) : isMv oe = true ∧ ∀ j oj, ops[j]? = some oj → j ≠ e → (∀ ed ∈ oj.after, Region.binds md ed = true → ed.on ≠ e) → (∀ ed ∈ oe.after, Region.binds md ed = true → ed.on ≠ j) → oe.apart ops oj = true := by
  unfold freeAll at h
  rw [he] at h
  simp only [Bool.and_eq_true] at h
  refine ⟨h.1, fun j oj hj hje hno hno' => ?_⟩
  have hjl : j < ops.size := (Array.getElem?_eq_some_iff.1 hj).1
  have := List.all_eq_true.1 h.2 j (List.mem_range.2 hjl)
  rw [hj] at this
  simp only [Bool.or_eq_true, decide_eq_true_eq] at this
  rcases this with ((h1 | h1) | h1) | h1
  · exact absurd h1 hje
  · obtain ⟨o', ho', ed, hed, hb, hon⟩ := Region.waitsFor_spec h1
    have : o' = oj := Option.some.inj (ho'.symm.trans hj)
    subst this
    exact absurd hon (hno ed hed hb)
  · obtain ⟨o', ho', ed, hed, hb, hon⟩ := Region.waitsFor_spec h1
    have : o' = oe := Option.some.inj (ho'.symm.trans he)
    subst this
    exact absurd hon (hno' ed hed hb)
  · exact h1
section
variable {P : Program} {C : Ctx} {ops : Array Oper} {σ : List Ob} {md : Region.Mode} {rs : Res} {pri : List Nat}
theorem notready {listed : Array Bool} {e : Nat} {o : Oper} (he : ops[e]? = some o) (hun : listed.getD e true = false) (h : e ∉ Region.ready md ops listed) : ∃ ed ∈ o.after, Region.binds md ed = true ∧ listed.getD ed.on false = false := by
  apply Classical.byContradiction
  intro hno
  refine h (mem_ready.2 ⟨hun, o, he, fun ed hed hb => ?_⟩)
  cases hl : listed.getD ed.on false with
  | true => rfl
  | false => exact absurd ⟨ed, hed, hb, hl⟩ hno
theorem unlisted_plain {n : Nat} {listed : Array Bool} (hs : sinkQ md ops pri n = true) (hn : n < ops.size) (hsz : listed.size = ops.size) (hno : ∀ e ∈ pri, e ∉ Region.ready md ops listed) :
    ∀ i, i < n → listed.getD i true = false → ∃ i', i' < n ∧ listed.getD i' true = false ∧ pri.contains i' = false := by
  intro i
  induction i using Nat.strongRecOn with
  | _ i ih =>
    intro hi hun
    have h1 := List.all_eq_true.1 hs i (List.mem_range.2 hi)
    rw [Bool.or_eq_true, Bool.and_eq_true, Bool.and_eq_true, Bool.not_eq_true'] at h1
    rcases h1 with ⟨hp, hb⟩ | ⟨hp, _⟩
    · have hmem : i ∈ pri := by simpa using hp
      obtain ⟨o, ho⟩ : ∃ o, ops[i]? = some o := ⟨_, Array.getElem?_eq_getElem (by omega)⟩
      obtain ⟨ed, hed, hbi, hl⟩ := notready ho hun (hno i hmem)
      unfold backB at hb
      rw [ho] at hb
      have := Array.all_eq_true'.1 hb ed hed
      rw [hbi] at this
      simp only [Bool.not_true, Bool.false_or, decide_eq_true_eq] at this
      exact ih ed.on this (by omega) (getD_in (by rw [hsz]; omega) hl)
    · exact ⟨i, hi, hun, hp⟩
theorem tail_waitsQ {n : Nat} {listed : Array Bool} (hs : sinkQ md ops pri n = true) (hc : Region.chainB md ops n = true) (hn : n < ops.size) (inv : HeadInv md ops n listed) (hno : ∀ e ∈ pri, e ∉ Region.ready md ops listed) {i : Nat} (hi : i < n) (hun : listed.getD i true = false) :
    ∀ t, n ≤ t → t ∉ Region.ready md ops listed := by
  obtain ⟨i0, hi0, hun0, hp0⟩ := unlisted_plain hs hn inv.size hno i hi hun
  have key : ∀ (d i : Nat), n - i = d → i < n → listed.getD i true = false → pri.contains i = false → n ∉ Region.ready md ops listed := by
    intro d
    induction d using Nat.strongRecOn with
    | _ d ih =>
      intro i hd hi hun hp hr
      obtain ⟨_, ot, hot, hall⟩ := mem_ready.1 hr
      have h1 := List.all_eq_true.1 hs i (List.mem_range.2 hi)
      rw [hp] at h1
      simp only [Bool.false_and, Bool.false_or, Bool.not_false, Bool.true_and] at h1
      obtain ⟨j, hj, hj2⟩ := List.any_eq_true.1 h1
      simp only [Bool.and_eq_true, Bool.or_eq_true, decide_eq_true_eq, Bool.not_eq_true'] at hj2
      obtain ⟨⟨hij, hjp⟩, hw⟩ := hj2
      obtain ⟨oj, hoj, e, he, hb, hon⟩ := Region.waitsFor_spec hw
      have hjle : j ≤ n := by have := List.mem_range.1 hj; omega
      by_cases hjt : j = n
      · subst hjt
        have : oj = ot := Option.some.inj (hoj.symm.trans hot)
        subst this
        have h2 := hall e he hb
        rw [hon, getD_both hun] at h2
        cases h2
      · have hjp' : pri.contains j = false := hjp.resolve_left hjt
        cases hl : listed.getD j false with
        | true =>
          have h2 := inv.closed j oj hoj hl e he hb
          rw [hon, getD_both hun] at h2
          cases h2
        | false =>
          have hjs : j < listed.size := by rw [inv.size]; omega
          exact ih (n - j) (by omega) j rfl (by omega) (getD_in hjs hl) hjp' hr
  intro t ht hr
  obtain ⟨_, ot, hot, hall⟩ := mem_ready.1 hr
  have htlt : t < ops.size := (Array.getElem?_eq_some_iff.1 hot).1
  by_cases htn : t = n
  · subst htn; exact key _ i0 rfl hi0 hun0 hp0 hr
  · have h1 := List.all_eq_true.1 hc t (List.mem_range.2 htlt)
    simp only [Bool.or_eq_true, decide_eq_true_eq] at h1
    rcases h1 with h1 | h1
    · omega
    · obtain ⟨o', ho', e, he, hb, hon⟩ := Region.waitsFor_spec h1
      have : o' = ot := Option.some.inj (ho'.symm.trans hot)
      subst this
      have h2 := hall e he hb
      rw [hon, getD_both (inv.tail (t - 1) (by omega) (by omega))] at h2
      cases h2
theorem not_waits {listed : Array Bool} {i j : Nat} {oj : Oper} (hi : i ∈ Region.ready md ops listed) (hj : j ∈ Region.ready md ops listed) (hoj : ops[j]? = some oj) : ∀ e ∈ oj.after, Region.binds md e = true → e.on ≠ i := fun e he hb heq => by
  obtain ⟨_, o', ho', hall⟩ := mem_ready.1 hj
  have : o' = oj := Option.some.inj (ho'.symm.trans hoj)
  subst this
  have h1 := hall e he hb
  rw [heq, getD_both (mem_ready.1 hi).1] at h1
  cases h1
variable {listed : Array Bool} {E : EE} {a : Act} {w : World}
theorem SimR.mv {i : Nat} {o : Oper} {v : AV} (hs : SimR C σ rs listed E a w) (ho : ops[i]? = some o) (hd : ∀ t, o.dst = some t → t < C.n) (hm : isMv o = true)
    (hy : YF P C ops σ rs i o v E) : ∃ u, YA P ops o u a ∧ SimR C σ rs (listed.setIfInBounds i true) (putE E o.dst v) (a.put o.dst u) w := by
  obtain ⟨s1, s2, φ, hG, hφ, hE⟩ := hs
  obtain ⟨dst, op, ty, pos, after, g⟩ := o
  obtain ⟨t, rfl, rfl⟩ : ∃ t, dst = some t ∧ g = none := by
    unfold isMv at hm
    split at hm
    · rename_i he; injection he with e1 e2 e3 e4 e5 e6; exact ⟨_, e1, e6⟩
    · rename_i he; injection he with e1 e2 e3 e4 e5 e6; exact ⟨_, e1, e6⟩
    · cases hm
  have htn := hd t rfl
  rcases hy with ⟨h0, ⟨hg, hv⟩ | ⟨hg, _⟩⟩ | ⟨p, e, zs, hp, hop, _⟩
  · have hwp := hv (res rs listed) a ⟨w, φ, σ ++ res rs listed, C.ok⟩ hG rfl (fun x _ => ev_evE' hE x) (fun a' w' => ∃ u, a' = a.put (some t) u ∧ AV.rel ⟨w', φ, σ ++ res rs listed, C.ok⟩ v u) (fun _ _ _ => False) fun u w' hb hu => ⟨u, rfl, hu⟩
    rcases isMv_ya (P := P) (ops := ops) hm a with ⟨u, hya⟩ | hno
    · refine ⟨u, hya, ?_⟩
      unfold Oper.wp at hwp
      rw [hya.2 w] at hwp
      simp only [Oper.upon] at hwp
      obtain ⟨u', he, hu⟩ := hwp
      have hu' : u = u' := by
        have h1 := getD_put a t t u (by rw [s2]; exact htn)
        have h2 := getD_put a t t u' (by rw [s2]; exact htn)
        rw [if_pos rfl] at h1 h2
        rw [← h1, ← h2, he]
      subst hu'
      refine ⟨s1, by simp [Act.put, s2], φ, ?_, fun p r hp hl => hφ p r hp ?_, fun s => ?_⟩
      · rw [res_same h0]; exact hG
      · rwa [getD_set_ne false (Ne.symm (h0 r (List.mem_of_getElem? hp)))] at hl
      · rw [res_same h0, getD_put a t s u (by rw [s2]; exact htn)]
        simp only [putE]
        split
        · exact hu
        · exact hE s
    · exfalso
      unfold Oper.wp at hwp
      cases hr : (execOp a.eval (⟨some t, op, ty, pos, after, none⟩ : Oper)).run P w with
      | ok x w' => exact (hno w x w').1 hr
      | halt q w' =>
        rw [hr] at hwp
        cases q <;> first | exact hwp | exact (hno w .skip w').2 _ hr
  · simp [gsayE] at hg
  · exfalso
    simp only at hop
    subst hop
    simp [isMv] at hm
end
def drawQB (l : List Oper) (pri head : List Nat) (n : Nat) : Bool :=
  Region.noSelect l.toArray && decide (n < l.length) && sinkQ .any l.toArray pri n && Region.chainB .any l.toArray n && decide ((pick l head).length = n) && (pri.all fun e => decide (e < n) && freeAll .any l.toArray e) &&
  lexIdx .any l.toArray (l.length - n) n ((pick l head).map (·.1)) (Array.replicate l.length false)
section
variable {P : Program} {C : Ctx} {k : List Item} {R : Act → World → Prop} {env : Env} {σ : List Ob}
end
end Go.Proofs.Ytnecoghfhcimeaa
/- Regions that draw their order, in which objects and rows are made: each has its place from the first. Over any program. Printed by gen/dru.py. -/
namespace Go.Proofs.Ytnecoghfhcimeaa
set_option linter.unusedSimpArgs false
set_option linter.unusedVariables false
open Go.RowKit
open AV (Mem Keeps)
section
variable {C : Ctx} {w w' : World} {φ : Nat → Option Nat} {σ : List Ob} {q g sz : Nat} {e : TypeId} {cs : List AV}
theorem keeps_fillU (hb : Below w.heap.size w w') (hg : w.heap.size ≤ g) (hq : σ[q]? = some ⟨e, 0, []⟩) (hφ : φ q = none) :
    Keeps (fun k => k ≠ q) ⟨w, φ, σ, C.ok⟩ ⟨w', upd φ q (some g), σ.set q ⟨e, sz, cs⟩, C.ok⟩ := by
  have hql : q < σ.length := (List.getElem?_eq_some_iff.1 hq).1
  refine ⟨⟨hb.size, fun b hlt hok => ⟨⟨hok.1, fun i hi he => ?_⟩, hb.block b hlt⟩⟩, fun i hi hil => ⟨by simpa using hil, upd_ne hi⟩, fun i ob hi ho => ⟨ob.cs, by simp only [List.getElem?_set_ne (Ne.symm hi)]; exact ho, rfl⟩, fun i b us t hi hil he hh => ⟨us, (hb.block b (Array.getElem?_eq_some_iff.1 hh).1).trans hh, rfl⟩⟩
  by_cases hiq : i = q
  · subst hiq; simp only [upd_eq, Option.some.injEq] at he; subst he; simp only at hlt; omega
  · simp only [upd_ne hiq] at he; exact hok.2 i (by simpa using hi) he
mutual
theorem only_place (hq : σ[q]? = some ⟨e, 0, []⟩) (hφ : φ q = none) : ∀ (v : AV) (u : Value), AV.rel ⟨w, φ, σ, C.ok⟩ v u → v.only (fun k => k ≠ q)
  | .ro r, u, h => by simp [AV.only]
  | .junk, u, _ => by simp [AV.only]
  | .obj i off, u, h => by
    simp only [AV.rel] at h
    obtain ⟨_, g, h2, _⟩ := h
    simp only [AV.only]
    rintro rfl; rw [hφ] at h2; cases h2
  | .pin i off g, u, h => by
    simp only [AV.rel] at h
    obtain ⟨_, h2, _⟩ := h
    simp only [AV.only]
    rintro rfl; rw [hφ] at h2; cases h2
  | .own i, u, h => by
    simp only [AV.rel] at h
    obtain ⟨ob, n, h1, h2, h3, _⟩ := h
    simp only [AV.only]
    rintro rfl; rw [hq] at h1; injection h1 with h1; subst h1; exact absurd h3 (Nat.lt_irrefl 0)
  | .agg vs, u, h => by
    simp only [AV.rel] at h
    obtain ⟨us', _, h1⟩ := h
    simp only [AV.only]; exact onlys_place hq hφ vs _ h1
  | .tup vs, u, h => by
    simp only [AV.rel] at h
    obtain ⟨us', _, h1⟩ := h
    simp only [AV.only]; exact onlys_place hq hφ vs _ h1
  | .fn f a b, u, h => by
    simp only [AV.rel] at h
    obtain ⟨us', vs', _, h1, h2⟩ := h
    simp only [AV.only]; exact ⟨onlys_place hq hφ a _ h1, onlys_place hq hφ b _ h2⟩
theorem onlys_place (hq : σ[q]? = some ⟨e, 0, []⟩) (hφ : φ q = none) : ∀ (vs : List AV) (us' : List Value), AV.rels ⟨w, φ, σ, C.ok⟩ vs us' → AV.onlys (fun k => k ≠ q) vs
  | [], us', h => by simp [AV.onlys]
  | x :: xs, us', h => by
    simp only [AV.rels] at h
    obtain ⟨u, us'', _, h1, h2⟩ := h
    simp only [AV.onlys]; exact ⟨only_place hq hφ x u h1, onlys_place hq hφ xs us'' h2⟩
end
theorem rel_fillU (hb : Below w.heap.size w w') (hg : w.heap.size ≤ g) (hq : σ[q]? = some ⟨e, 0, []⟩) (hφ : φ q = none) (v : AV) (u : Value) (h : AV.rel ⟨w, φ, σ, C.ok⟩ v u) : AV.rel ⟨w', upd φ q (some g), σ.set q ⟨e, sz, cs⟩, C.ok⟩ v u :=
  AV.rel_keeps (keeps_fillU hb hg hq hφ) v u (only_place hq hφ v u h) h
theorem good_fillU (hG : Good C ⟨w, φ, σ, C.ok⟩) (hb : Below w.heap.size w w') (hg : w.heap.size ≤ g) (hq : σ[q]? = some ⟨e, 0, []⟩) (hφ : φ q = none) (hob : ObRel ⟨w', upd φ q (some g), σ.set q ⟨e, sz, cs⟩, C.ok⟩ ⟨e, sz, cs⟩ (some g)) :
    Good C ⟨w', upd φ q (some g), σ.set q ⟨e, sz, cs⟩, C.ok⟩ := by
  have hql : q < σ.length := (List.getElem?_eq_some_iff.1 hq).1
  refine ⟨rfl, fun i j b hi hj e1 e2 => ?_, fun i o hi => ?_, fun i b hi hbi => ?_, hG.frm.below hb⟩
  · simp only [List.length_set] at hi hj
    by_cases hiq : i = q <;> by_cases hjq : j = q
    · omega
    · subst hiq; simp only [upd_eq, Option.some.injEq] at e1; simp only [upd_ne hjq] at e2
      have := hG.lt hj e2; simp only at this; omega
    · subst hjq; simp only [upd_eq, Option.some.injEq] at e2; simp only [upd_ne hiq] at e1
      have := hG.lt hi e1; simp only at this; omega
    · simp only [upd_ne hiq] at e1; simp only [upd_ne hjq] at e2
      exact hG.inj i j b hi hj e1 e2
  · by_cases hiq : i = q
    · subst hiq
      simp only [List.getElem?_set_self hql, Option.some.injEq] at hi
      subst hi
      simp only [upd_eq]
      exact hob
    · simp only [List.getElem?_set_ne (Ne.symm hiq)] at hi
      have h := hG.ob i o hi
      simp only [upd_ne hiq]
      simp only at h
      cases hgi : φ i with
      | none => rw [hgi] at h; exact h
      | some b =>
        rw [hgi] at h
        obtain ⟨vs, q1, q2, q3⟩ := h
        refine ⟨vs, (hb.block b (Array.getElem?_eq_some_iff.1 q1).1).trans q1, q2, fun j v hj => ?_⟩
        obtain ⟨x, k1, k2, k3⟩ := q3 j v hj
        exact ⟨x, k1, k2, rel_fillU hb hg hq hφ v x k3⟩
  · simp only [List.length_set] at hi
    by_cases hiq : i = q
    · subst hiq; simp only [upd_eq, Option.some.injEq] at hbi; subst hbi; exact .inr (Nat.le_trans hG.frm.size hg)
    · simp only [upd_ne hiq] at hbi; exact hG.mine i b hi hbi
end
structure RE where
  idx : Nat
  pre : Option (Nat × Nat)
  t : TypeId
  sz : Nat
  cs : List RV
abbrev ResU := List RE
def RE.ob (r : RE) : Ob := ⟨r.t, r.sz, r.cs.map .ro⟩
def RE.all (r : RE) : List Nat := r.idx :: match r.pre with
  | some p => [p.1]
  | none => []
def reOb (listed : Array Bool) (r : RE) : Ob :=
  if listed.getD r.idx false = true then r.ob else match r.pre with
    | some p => if listed.getD p.1 false = true then ⟨r.t, r.sz, []⟩ else ⟨r.t, 0, []⟩
    | none => ⟨r.t, 0, []⟩
def resU (rs : ResU) (listed : Array Bool) : List Ob := rs.map (reOb listed)
def fullU (rs : ResU) : List Ob := rs.map RE.ob
def MkN (P : Program) (C : Ctx) (o : Oper) (E : EE) (ob : Ob) (q : Nat) (v : AV) : Prop :=
  (v = .own q ∨ v = .obj q 0) ∧ ∀ (a : Act) (w : World) (φ : Nat → Option Nat) (σ : List Ob), Good C ⟨w, φ, σ, C.ok⟩ → σ[q]? = some ⟨ob.t, 0, []⟩ → φ q = none → (∀ x ∈ o.op.operands, AV.rel ⟨w, φ, σ, C.ok⟩ (evE E x) (a.eval x)) → ∀ (K : Act → World → Prop) (Q : Exit → Act → World → Prop),
    (∀ u w' g, Below w.heap.size w w' → w.heap.size ≤ g → ObRel ⟨w', upd φ q (some g), σ.set q ob, C.ok⟩ ob (some g) → AV.rel ⟨w', upd φ q (some g), σ.set q ob, C.ok⟩ v u → K (a.put o.dst u) w') → o.wp P a w K Q
def MkQ (P : Program) (C : Ctx) (o : Oper) (E : EE) (r : RE) (s q : Nat) : Prop :=
  ∀ (a : Act) (w : World) (φ : Nat → Option Nat) (σ : List Ob), Good C ⟨w, φ, σ, C.ok⟩ → σ[q]? = some ⟨r.t, r.sz, []⟩ → AV.rel ⟨w, φ, σ, C.ok⟩ (.own q) (a.tmps.getD s undef) → (∀ (j : Nat) ob, σ[j]? = some ob → AV.onlys (fun k => k ≠ q) ob.cs) →
    (∀ x ∈ o.op.operands, AV.rel ⟨w, φ, σ, C.ok⟩ (evE E x) (a.eval x)) → ∀ (K : Act → World → Prop) (Q : Exit → Act → World → Prop),
    (∀ u w' b, Good C ⟨w', upd φ q b, σ.set q r.ob, C.ok⟩ → Keeps (fun k => k ≠ q) ⟨w, φ, σ, C.ok⟩ ⟨w', upd φ q b, σ.set q r.ob, C.ok⟩ → AV.rel ⟨w', upd φ q b, σ.set q r.ob, C.ok⟩ (.own q) u → K (a.put o.dst u) w') → o.wp P a w K Q
theorem MkN.congr {P : Program} {C : Ctx} {o : Oper} {E E' : EE} {ob : Ob} {q : Nat} {v : AV} (h : MkN P C o E ob q v) (he : ∀ x ∈ o.op.operands, evE E' x = evE E x) : MkN P C o E' ob q v :=
  ⟨h.1, fun a w φ σ hG h1 h2 hx => h.2 a w φ σ hG h1 h2 fun x hm => by rw [← he x hm]; exact hx x hm⟩
theorem MkQ.congr {P : Program} {C : Ctx} {o : Oper} {E E' : EE} {r : RE} {s q : Nat} (h : MkQ P C o E r s q) (he : ∀ x ∈ o.op.operands, evE E' x = evE E x) : MkQ P C o E' r s q :=
  fun a w φ σ hG h1 h2 h3 hx => h a w φ σ hG h1 h2 h3 fun x hm => by rw [← he x hm]; exact hx x hm
def staged (rs : ResU) (n : Nat) (o : Oper) (v : AV) : Prop := ∀ p r, rs[p]? = some r → r.pre.isSome = true → v.only (fun k => k ≠ n + p) ∨ (isMv o = false ∧ ∃ e ∈ o.after, (∀ md, Region.binds md e = true) ∧ e.on = r.idx)
def YU (P : Program) (C : Ctx) (ops : Array Oper) (σ : List Ob) (rs : ResU) (i : Nat) (o : Oper) (v : AV) (E : EE) : Prop :=
  ((∀ r ∈ rs, i ∉ r.all) ∧ staged rs σ.length o v ∧ ((gsayE ops E o.guard = some true ∧ ∀ more, PurF P C o E (σ ++ more) v) ∨ (gsayE ops E o.guard = some false ∧ v = .ro (.c undef)))) ∨
  (∃ p r, rs[p]? = some r ∧ r.idx = i ∧ r.pre = none ∧ o.guard = none ∧ o.dst.isSome = true ∧ MkN P C o E r.ob (σ.length + p) v) ∨
  (∃ p r s, rs[p]? = some r ∧ r.pre = some (i, s) ∧ o.guard = none ∧ o.dst = some s ∧ MkN P C o E ⟨r.t, r.sz, []⟩ (σ.length + p) (.own (σ.length + p)) ∧ v = .junk) ∨
  (∃ p r j s, rs[p]? = some r ∧ r.idx = i ∧ r.pre = some (j, s) ∧ o.guard = none ∧ o.dst.isSome = true ∧ MkQ P C o E r s (σ.length + p) ∧ v = .own (σ.length + p))
section
variable {P : Program} {C : Ctx} {ops : Array Oper} {σ : List Ob} {md : Region.Mode} {rs : ResU} {pri : List Nat}
theorem YU.put {i : Nat} {oi oj : Oper} {v u : AV} {E : EE} (hy : YU P C ops σ rs i oi v E) (h3 : ∀ d, oj.dst = some d → d ∉ oi.looksAt ops) : YU P C ops σ rs i oi v (putE E oj.dst u) := by
  have hc : ∀ x ∈ oi.op.operands, evE (putE E oj.dst u) x = evE E x := fun x hx => evE_put fun t ht => mem_looks_op (h3 t ht) x hx
  unfold YU at *
  rw [gsay_put h3]
  rcases hy with ⟨h0, hs, ⟨hw, hv⟩ | hy⟩ | ⟨p, r, k1, k2, k3, k4, k5, k6⟩ | ⟨p, r, s, k1, k2, k3, k4, k5, k6⟩ | ⟨p, r, j, s, k1, k2, k3, k4, k5, k6, k7⟩
  · exact .inl ⟨h0, hs, .inl ⟨hw, fun more => (hv more).congr hc⟩⟩
  · exact .inl ⟨h0, hs, .inr hy⟩
  · exact .inr (.inl ⟨p, r, k1, k2, k3, k4, k5, k6.congr hc⟩)
  · exact .inr (.inr (.inl ⟨p, r, s, k1, k2, k3, k4, k5.congr hc, k6⟩))
  · exact .inr (.inr (.inr ⟨p, r, j, s, k1, k2, k3, k4, k5, k6.congr hc, k7⟩))
theorem YU.unput {i : Nat} {oi : Oper} {d : Option Nat} {v u : AV} {E : EE} (hy : YU P C ops σ rs i oi v (putE E d u)) (h3 : ∀ t, d = some t → t ∉ oi.looksAt ops) : YU P C ops σ rs i oi v E := by
  have hc : ∀ x ∈ oi.op.operands, evE E x = evE (putE E d u) x := fun x hx => (evE_put fun t ht => mem_looks_op (h3 t ht) x hx).symm
  unfold YU at *
  rw [gsay_put h3] at hy
  rcases hy with ⟨h0, hs, ⟨hw, hv⟩ | hy⟩ | ⟨p, r, k1, k2, k3, k4, k5, k6⟩ | ⟨p, r, s, k1, k2, k3, k4, k5, k6⟩ | ⟨p, r, j, s, k1, k2, k3, k4, k5, k6, k7⟩
  · exact .inl ⟨h0, hs, .inl ⟨hw, fun more => (hv more).congr hc⟩⟩
  · exact .inl ⟨h0, hs, .inr hy⟩
  · exact .inr (.inl ⟨p, r, k1, k2, k3, k4, k5, k6.congr hc⟩)
  · exact .inr (.inr (.inl ⟨p, r, s, k1, k2, k3, k4, k5.congr hc, k6⟩))
  · exact .inr (.inr (.inr ⟨p, r, j, s, k1, k2, k3, k4, k5, k6.congr hc, k7⟩))
def aOpV (P : Program) (C : Ctx) (ops : Array Oper) (σ : List Ob) (rs : ResU) (i : Nat) (K : EE → Prop) (E : EE) : Prop := ∃ o v, ops[i]? = some o ∧ YU P C ops σ rs i o v E ∧ K (putE E o.dst v)
theorem aOpV_mono {i : Nat} {E : EE} {K K' : EE → Prop} (h : ∀ E, K E → K' E) (hh : aOpV P C ops σ rs i K E) : aOpV P C ops σ rs i K' E := by
  obtain ⟨o, v, h1, h2, h3⟩ := hh
  exact ⟨o, v, h1, h2, h _ h3⟩
theorem aOpV_put {i j : Nat} {oi oj : Oper} {v : AV} (hj : ops[j]? = some oj) (hap : oi.apart ops oj = true) {K : EE → Prop} {E : EE} (hy : YU P C ops σ rs i oi v E) (h : aOpV P C ops σ rs j K (putE E oi.dst v)) :
    aOpV P C ops σ rs j (fun E' => YU P C ops σ rs i oi v E' ∧ K (putE E' oi.dst v)) E := by
  obtain ⟨h1, h2, h3⟩ := Oper.apart_spec hap
  obtain ⟨o, u, k1, k2, k3⟩ := h
  rw [hj] at k1; injection k1 with k1; subst k1
  refine ⟨oj, u, hj, k2.unput h1, hy.put h3, ?_⟩
  rw [← putE_comm h2]; exact k3
def wpAnyV (P : Program) (C : Ctx) (md : Region.Mode) (ops : Array Oper) (σ : List Ob) (rs : ResU) (pri : List Nat) (n : Nat) (L : Array Bool → EE → Prop) : Nat → Array Bool → EE → Prop
  | 0, listed, E => L listed E
  | f + 1, listed, E => (∃ e ∈ pri, e ∈ Region.ready md ops listed ∧ e < n ∧ aOpV P C ops σ rs e (wpAnyV P C md ops σ rs pri n L f (listed.setIfInBounds e true)) E) ∨
      ((∀ e ∈ pri, e ∉ Region.ready md ops listed) ∧ Region.ready md ops listed ≠ [] ∧ ∀ i ∈ Region.ready md ops listed, i < n ∧ aOpV P C ops σ rs i (wpAnyV P C md ops σ rs pri n L f (listed.setIfInBounds i true)) E)
def wpLexV (P : Program) (C : Ctx) (ops : Array Oper) (σ : List Ob) (rs : ResU) (Q : EE → Prop) : List (Nat × Oper) → EE → Prop
  | [], E => Q E
  | (i, o) :: rest, E => ∃ v, YU P C ops σ rs i o v E ∧ wpLexV P C ops σ rs Q rest (putE E o.dst v)
theorem V_any {n : Nat} {L : Array Bool → EE → Prop} (hpri : ∀ e ∈ pri, freeAll md ops e = true) (hdone : ∀ listed E, L listed E → ∀ j ∈ Region.ready md ops listed, n ≤ j) :
    ∀ (f : Nat) (listed : Array Bool) (E : EE), wpAnyV P C md ops σ rs pri n L f listed E → ∀ j ∈ Region.ready md ops listed, j < n → ∃ f', f = f' + 1 ∧ aOpV P C ops σ rs j (wpAnyV P C md ops σ rs pri n L f' (listed.setIfInBounds j true)) E
  | 0, listed, E, h, j, hj, hjn => by have := hdone _ _ h j hj; omega
  | f + 1, listed, E, h, j, hj, hjn => by
    rcases h with ⟨e, he, her, hen, o, v, ho, hy, hK⟩ | ⟨_, _, h⟩
    · by_cases hej : e = j
      · subst hej; exact ⟨f, rfl, o, v, ho, hy, hK⟩
      · obtain ⟨f', rfl, h2⟩ := V_any hpri hdone f _ _ hK j (ready_mono hj (Ne.symm hej)) hjn
        refine ⟨f' + 1, rfl, ?_⟩
        obtain ⟨_, oj, hoj, _⟩ := mem_ready.1 hj
        have hap := (freeAll_spec ho (hpri e he)).2 j oj hoj (Ne.symm hej) (not_waits her hj hoj) (not_waits hj her ho)
        refine aOpV_mono (fun E' h3 => .inl ⟨e, he, ready_mono her hej, hen, o, v, ho, h3.1, ?_⟩) (aOpV_put hoj hap hy h2)
        rw [Array.setIfInBounds_comm _ _ (Ne.symm hej)]
        exact h3.2
    · exact ⟨f, rfl, (h j hj).2⟩
theorem V_first {n i : Nat} {oi : Oper} {v : AV} {L : Array Bool → EE → Prop} (hi : ops[i]? = some oi) (hpri : ∀ e ∈ pri, freeAll md ops e = true)
    (hs : sinkQ md ops pri n = true) (hc : Region.chainB md ops n = true) (hn : n < ops.size) (hin : i < n) (hpn : ∀ e ∈ pri, e < n)
    (hdone : ∀ listed E, L listed E → ∀ j ∈ Region.ready md ops listed, n ≤ j) :
    ∀ (f : Nat) (listed : Array Bool) (E : EE), HeadInv md ops n listed →
      (∀ j oj, ops[j]? = some oj → j ≠ i → listed.getD j true = false → (∀ e ∈ oj.after, Region.binds md e = true → e.on ≠ i) → oi.apart ops oj = true) →
      i ∈ Region.ready md ops listed → YU P C ops σ rs i oi v E →
      wpAnyV P C md ops σ rs pri n L f (listed.setIfInBounds i true) (putE E oi.dst v) → wpAnyV P C md ops σ rs pri n L (f + 1) listed E := by
  intro f
  induction f with
  | zero =>
    intro listed E inv hfree hr hy H
    by_cases hp : i ∈ pri
    · exact .inl ⟨i, hp, hr, hin, oi, v, hi, hy, H⟩
    · have no : ∀ j ∈ Region.ready md ops listed, j < n → j = i := fun j hj hjn => by
        apply Classical.byContradiction
        intro hji
        have := hdone _ _ H j (ready_mono hj hji)
        omega
      have hnp : ∀ e ∈ pri, e ∉ Region.ready md ops listed := fun e he her => hp (no e her (hpn e he) ▸ he)
      refine .inr ⟨hnp, fun h => (by rw [h] at hr; cases hr), fun j hj => ?_⟩
      have hjn : j < n := by
        rcases Nat.lt_or_ge j n with h | h
        · exact h
        · exact absurd hj (tail_waitsQ hs hc hn inv hnp hin (mem_ready.1 hr).1 j h)
      obtain rfl := no j hj hjn
      exact ⟨hjn, oi, v, hi, hy, H⟩
  | succ f ih =>
    intro listed E inv hfree hr hy H
    by_cases hp : i ∈ pri
    · exact .inl ⟨i, hp, hr, hin, oi, v, hi, hy, H⟩
    · have step : ∀ j ∈ Region.ready md ops listed, j < n → j ≠ i → aOpV P C ops σ rs j (wpAnyV P C md ops σ rs pri n L (f + 1) (listed.setIfInBounds j true)) E := fun j hj hjn hji => by
        obtain ⟨f', hf, h1⟩ := V_any hpri hdone _ _ _ H j (ready_mono hj hji) hjn
        injection hf with hf
        have hf : f' = f := hf.symm
        subst hf
        obtain ⟨hjun, oj, hoj, hall⟩ := mem_ready.1 hj
        have hfree' : ∀ k ok, ops[k]? = some ok → k ≠ i → (listed.setIfInBounds j true).getD k true = false →
            (∀ e ∈ ok.after, Region.binds md e = true → e.on ≠ i) → oi.apart ops ok = true := fun k ok hk hki hun hno => by
          refine hfree k ok hk hki ?_ hno
          by_cases hjk : j = k
          · subst hjk; exact hjun
          · rw [getD_set_ne true hjk] at hun; exact hun
        refine aOpV_mono (fun E' h3 => ih (listed.setIfInBounds j true) E' (inv.set hj hjn) hfree' (ready_mono hr (Ne.symm hji)) h3.1 ?_) (aOpV_put hoj (hfree j oj hoj hji hjun (not_waits hr hj hoj)) hy h1)
        rw [Array.setIfInBounds_comm _ _ hji]
        exact h3.2
      by_cases he : ∃ e ∈ pri, e ∈ Region.ready md ops listed
      · obtain ⟨e, he, her⟩ := he
        exact .inl ⟨e, he, her, hpn e he, step e her (hpn e he) (by rintro rfl; exact hp he)⟩
      · have hnp : ∀ e ∈ pri, e ∉ Region.ready md ops listed := fun e h1 h2 => he ⟨e, h1, h2⟩
        refine .inr ⟨hnp, fun h => (by rw [h] at hr; cases hr), fun j hj => ?_⟩
        have hjn : j < n := by
          rcases Nat.lt_or_ge j n with h | h
          · exact h
          · exact absurd hj (tail_waitsQ hs hc hn inv hnp hin (mem_ready.1 hr).1 j h)
        refine ⟨hjn, ?_⟩
        by_cases hji : j = i
        · subst hji; exact ⟨oi, v, hi, hy, H⟩
        · exact step j hj hjn hji
theorem wpAnyV_lex {n g : Nat} {Lq : EE → Prop} (hpri : ∀ e ∈ pri, freeAll md ops e = true) (hpn : ∀ e ∈ pri, e < n) (hs : sinkQ md ops pri n = true) (hc : Region.chainB md ops n = true) (hn : n < ops.size) :
    ∀ (l : List (Nat × Oper)) (listed : Array Bool) (E : EE), (∀ p ∈ l, ops[p.1]? = some p.2) → HeadInv md ops n listed →
    lexIdx md ops g n (l.map (·.1)) listed = true → wpLexV P C ops σ rs Lq l E →
    wpAnyV P C md ops σ rs pri n (fun listed' E' => Region.seqB md ops g n listed' = true ∧ (∀ j, j < n → listed'.getD j false = true) ∧ Lq E') l.length listed E
  | [], listed, E, _, _, hB, h => by
    simp only [List.map_nil, lexIdx, Bool.and_eq_true] at hB
    exact ⟨hB.1, fun j hj => List.all_eq_true.1 hB.2 j (List.mem_range.2 hj), h⟩
  | (k, o) :: l, listed, E, hl, inv, hB, h => by
    have h0 : ops[k]? = some o := hl (k, o) (by simp)
    simp only [List.map_cons, lexIdx, Bool.and_eq_true, decide_eq_true_eq] at hB
    obtain ⟨⟨⟨hr, hf⟩, hkn⟩, hB'⟩ := hB
    have hr' : k ∈ Region.ready md ops listed := by simpa using hr
    obtain ⟨v, hy, hK⟩ := h
    exact V_first h0 hpri hs hc hn hkn hpn (fun listed' E' hL => seqB_ready hL.1) l.length listed E inv (Region.free_spec h0 hf) hr' hy
      (wpAnyV_lex hpri hpn hs hc hn l _ _ (fun p hp => hl p (by simp [hp])) (inv.set hr' hkn) hB' hK)
end
structure WfU (md : Region.Mode) (ops : Array Oper) (rs : ResU) : Prop where
  one : ∀ (p : Nat) r (p' : Nat) r' i, rs[p]? = some r → rs[p']? = some r' → i ∈ r.all → i ∈ r'.all → p = p'
  two : ∀ (p : Nat) r j s, rs[p]? = some r → r.pre = some (j, s) → r.idx ≠ j
  edge : ∀ (p : Nat) r j s, rs[p]? = some r → r.pre = some (j, s) → ∃ o, ops[r.idx]? = some o ∧ ∃ e ∈ o.after, Region.binds md e = true ∧ e.on = j
  slot : ∀ (p : Nat) r j s, rs[p]? = some r → r.pre = some (j, s) → ∀ i o, ops[i]? = some o → o.dst = some s → i = j
theorem RE.mem_idx (r : RE) : r.idx ∈ r.all := by simp [RE.all]
theorem RE.mem_pre {r : RE} {j s : Nat} (h : r.pre = some (j, s)) : j ∈ r.all := by simp [RE.all, h]
structure StU (C : Ctx) (σ : List Ob) (rs : ResU) (listed : Array Bool) (a : Act) (w : World) (φ : Nat → Option Nat) : Prop where
  made : ∀ (p : Nat) r, rs[p]? = some r → listed.getD r.idx false = false → (∀ j s, r.pre = some (j, s) → listed.getD j false = true → AV.rel ⟨w, φ, σ ++ resU rs listed, C.ok⟩ (.own (σ.length + p)) (a.tmps.getD s undef)) ∧
    ((∀ j s, r.pre = some (j, s) → listed.getD j false = false) → φ (σ.length + p) = none)
structure SimU (C : Ctx) (σ : List Ob) (rs : ResU) (listed : Array Bool) (E : EE) (a : Act) (w : World) : Prop where
  defers : a.defers = []
  size : a.tmps.size = C.n
  lsz : ∀ (p : Nat) r, rs[p]? = some r → ∀ i ∈ r.all, i < listed.size
  cl : ∀ (p : Nat) r j s, rs[p]? = some r → r.pre = some (j, s) → listed.getD r.idx false = true → listed.getD j false = true
  free : ∀ (p : Nat) r, rs[p]? = some r → r.pre.isSome = true → ∀ o ∈ σ, AV.onlys (fun k => k ≠ σ.length + p) o.cs
  only : ∀ (p : Nat) r, rs[p]? = some r → r.pre.isSome = true → listed.getD r.idx false = false → ∀ t, (E t).only (fun k => k ≠ σ.length + p)
  mem : ∃ φ, Good C ⟨w, φ, σ ++ resU rs listed, C.ok⟩ ∧ StU C σ rs listed a w φ ∧ ∀ t, AV.rel ⟨w, φ, σ ++ resU rs listed, C.ok⟩ (E t) (a.tmps.getD t undef)
theorem reOb_off {listed : Array Bool} {r : RE} {i : Nat} (h : i ∉ r.all) : reOb (listed.setIfInBounds i true) r = reOb listed r := by
  have h1 : i ≠ r.idx := fun e => h (e ▸ r.mem_idx)
  unfold reOb
  rw [getD_set_ne false h1]
  cases hp : r.pre with
  | none => rfl
  | some p =>
    obtain ⟨j, s⟩ := p
    have h2 : i ≠ j := fun e => h (e ▸ RE.mem_pre hp)
    simp only [getD_set_ne false h2]
theorem resU_same {rs : ResU} {listed : Array Bool} {i : Nat} (h : ∀ r ∈ rs, i ∉ r.all) : resU rs (listed.setIfInBounds i true) = resU rs listed := by
  unfold resU
  exact List.map_congr_left fun r hr => reOb_off (h r hr)
theorem getD_set_self {listed : Array Bool} {i : Nat} (hi : i < listed.size) : (listed.setIfInBounds i true).getD i false = true := by simp [hi]
theorem resU_set {md : Region.Mode} {ops : Array Oper} {rs : ResU} {listed : Array Bool} {i p : Nat} {r : RE} {ob : Ob} (hw : WfU md ops rs) (hp : rs[p]? = some r) (hm : i ∈ r.all) (ho : reOb (listed.setIfInBounds i true) r = ob) :
    resU rs (listed.setIfInBounds i true) = (resU rs listed).set p ob := by
  apply List.ext_getElem?
  intro j
  rw [List.getElem?_set]
  unfold resU
  rw [List.getElem?_map]
  by_cases e : p = j
  · subst e
    have hlt : p < rs.length := (List.getElem?_eq_some_iff.1 hp).1
    rw [hp]
    simp [hlt, ho]
  · rw [if_neg e, List.getElem?_map]
    cases hj : rs[j]? with
    | none => rfl
    | some r' =>
      simp only [Option.map_some, Option.some.injEq]
      exact reOb_off fun hm' => e (hw.one p r j r' i hp hj hm hm')
theorem onlys_of_ros {p : Nat → Prop} {o : Ob} {listed : Array Bool} {rs : ResU} (h : o ∈ resU rs listed) : AV.onlys p o.cs := by
  unfold resU at h
  obtain ⟨r, _, rfl⟩ := List.mem_map.1 h
  unfold reOb RE.ob
  split
  · exact onlys_ro _ _
  · split
    · split <;> exact onlys_ro _ []
    · exact onlys_ro _ []
section
variable {P : Program} {C : Ctx} {ops : Array Oper} {σ : List Ob} {md : Region.Mode} {rs : ResU} {pri : List Nat} {listed : Array Bool} {E : EE} {a : Act} {w : World}
theorem SimU.op {Q : Exit → Act → World → Prop} {i : Nat} {o : Oper} {v : AV} {K : Act → World → Prop} (hw : WfU md ops rs) (hs : SimU C σ rs listed E a w) (hi : i ∈ Region.ready md ops listed) (ho : ops[i]? = some o) (hd : ∀ t, o.dst = some t → t < C.n)
    (hy : YU P C ops σ rs i o v E) (hK : ∀ a' w', SimU C σ rs (listed.setIfInBounds i true) (putE E o.dst v) a' w' → K a' w') : wpOp P ops Q i K a w := by
  obtain ⟨s1, s2, s3, scl, s4, s5, φ, hG, hst, hE⟩ := hs
  have hi0 := (mem_ready.1 hi).1
  obtain ⟨dst, op, ty, pos, after, g⟩ := o
  simp only at hd
  have putA : ∀ (u : Value) (t : Nat), dst ≠ some t → (a.put dst u).tmps.getD t undef = a.tmps.getD t undef := by
    intro u t hne
    cases dst with
    | none => rfl
    | some s => rw [getD_put a s t u (by rw [s2]; exact hd s rfl), if_neg fun e => hne (by rw [e])]
  have putR : ∀ {φ' : Nat → Option Nat} {σ' : List Ob} {w' : World} {u : Value}, (∀ t, AV.rel ⟨w', φ', σ', C.ok⟩ (E t) (a.tmps.getD t undef)) → AV.rel ⟨w', φ', σ', C.ok⟩ v u → ∀ t, AV.rel ⟨w', φ', σ', C.ok⟩ (putE E dst v t) ((a.put dst u).tmps.getD t undef) := by
    intro φ' σ' w' u h1 h2 t
    cases dst with
    | none => exact h1 t
    | some s =>
      rw [getD_put a s t u (by rw [s2]; exact hd s rfl)]
      simp only [putE]
      split
      · exact h2
      · exact h1 t
  have putJ : ∀ {φ' : Nat → Option Nat} {σ' : List Ob} {w' : World} {u : Value}, (∀ t, AV.rel ⟨w', φ', σ', C.ok⟩ (E t) (a.tmps.getD t undef)) → ∀ t, AV.rel ⟨w', φ', σ', C.ok⟩ (putE E dst .junk t) ((a.put dst u).tmps.getD t undef) := by
    intro φ' σ' w' u h1 t
    cases dst with
    | none => exact h1 t
    | some s =>
      rw [getD_put a s t u (by rw [s2]; exact hd s rfl)]
      simp only [putE]
      split
      · simp [AV.rel]
      · exact h1 t
  have szR : ∀ u, (a.put dst u).tmps.size = C.n := fun u => by cases dst <;> simp [Act.put, s2]
  have dfR : ∀ u, (a.put dst u).defers = [] := fun u => by cases dst <;> exact s1
  have s3' : ∀ (p : Nat) r, rs[p]? = some r → ∀ k ∈ r.all, k < (listed.setIfInBounds i true).size := fun p r hp k hk => by simpa using s3 p r hp k hk
  have scl' : ∀ (p : Nat) r j s, rs[p]? = some r → r.pre = some (j, s) → (listed.setIfInBounds i true).getD r.idx false = true → (listed.setIfInBounds i true).getD j false = true := by
    intro p r j s hp hpr hl
    have hjs := s3 p r hp j (RE.mem_pre hpr)
    by_cases hij : i = j
    · rw [hij]; exact getD_set_self hjs
    rw [getD_set_ne false hij]
    by_cases hir : i = r.idx
    · obtain ⟨o', ho', e, he, hb, hon⟩ := hw.edge p r j s hp hpr
      obtain ⟨_, o'', ho'', hall⟩ := mem_ready.1 hi
      have : o'' = o' := Option.some.inj (ho''.symm.trans (hir ▸ ho'))
      subst this
      have := hall e he hb
      rw [hon] at this
      exact this
    · rw [getD_set_ne false hir] at hl
      exact scl p r j s hp hpr hl
  have onlyR : ∀ {v' : AV}, (∀ (p : Nat) r, rs[p]? = some r → r.pre.isSome = true → (listed.setIfInBounds i true).getD r.idx false = false → v'.only (fun k => k ≠ σ.length + p)) → ∀ (p : Nat) r, rs[p]? = some r → r.pre.isSome = true → (listed.setIfInBounds i true).getD r.idx false = false → ∀ t, (putE E dst v' t).only (fun k => k ≠ σ.length + p) := by
    intro v' h p r hp hpr hl t
    have hl0 : listed.getD r.idx false = false := by
      by_cases e : i = r.idx
      · rw [e, getD_set_self (s3 p r hp _ r.mem_idx)] at hl; cases hl
      · rwa [getD_set_ne false e] at hl
    cases dst with
    | none => exact s5 p r hp hpr hl0 t
    | some s =>
      simp only [putE]
      split
      · exact h p r hp hpr hl
      · exact s5 p r hp hpr hl0 t
  -- other places' rows lie where they lay
  have slotR : ∀ (p : Nat) r j s, rs[p]? = some r → r.pre = some (j, s) → i ≠ j → ∀ u, (a.put dst u).tmps.getD s undef = a.tmps.getD s undef := fun p r j s hp hpr hij u => putA u s fun e => hij (hw.slot p r j s hp hpr i _ ho e)
  unfold wpOp
  simp only [ho]
  rcases hy with ⟨h0, hsg, ⟨hg, hv⟩ | ⟨hg, rfl⟩⟩ | ⟨p, r, hp, hri, hrp, hgd, hds, hmk⟩ | ⟨p, r, s, hp, hrp, hgd, hds, hmk, rfl⟩ | ⟨p, r, j, s, hp, hri, hrp, hgd, hds, hmk, rfl⟩
  · have hres := resU_same (listed := listed) (fun r hr => h0 r hr)
    have hne : ∀ (p : Nat) r, rs[p]? = some r → i ≠ r.idx := fun p r hp e => h0 r (List.mem_of_getElem? hp) (e ▸ r.mem_idx)
    have hnj : ∀ (p : Nat) r j s, rs[p]? = some r → r.pre = some (j, s) → i ≠ j := fun p r j s hp hpr e => h0 r (List.mem_of_getElem? hp) (e ▸ RE.mem_pre hpr)
    rw [if_pos (gsay_yes hg a _ hE)]
    refine .inl (hv (resU rs listed) a ⟨w, φ, σ ++ resU rs listed, C.ok⟩ hG rfl (fun x _ => ev_evE' hE x) _ _ fun u w' hb hu => hK _ _ ?_)
    obtain ⟨g1, g2⟩ := good_below hG hb
    refine ⟨dfR u, szR u, s3', scl', s4, onlyR (fun p r hp hpr hl => (hsg p r hp hpr).resolve_right fun ⟨_, e, he, hb, hon⟩ => by
      rw [getD_set_ne false (hne p r hp)] at hl
      obtain ⟨_, o', ho', hall'⟩ := mem_ready.1 hi
      rw [ho] at ho'; injection ho' with ho'; subst ho'
      have := hall' e he (hb md)
      rw [hon, hl] at this; cases this), φ, by rw [hres]; exact g1, ⟨fun p r hp hl => ?_⟩, by rw [hres]; exact putR (fun t => AV.rel_keeps g2 _ _ (AV.only_true _) (hE t)) hu⟩
    rw [getD_set_ne false (hne p r hp)] at hl
    obtain ⟨k1, k2⟩ := hst.made p r hp hl
    refine ⟨fun j s hpr hj => ?_, fun h => k2 fun j s hpr => ?_⟩
    · rw [getD_set_ne false (hnj p r j s hp hpr)] at hj
      rw [hres, slotR p r j s hp hpr (hnj p r j s hp hpr)]
      exact AV.rel_keeps g2 _ _ (AV.only_true _) (k1 j s hpr hj)
    · have := h j s hpr
      rwa [getD_set_ne false (hnj p r j s hp hpr)] at this
  · have hres := resU_same (listed := listed) (fun r hr => h0 r hr)
    have hne : ∀ (p : Nat) r, rs[p]? = some r → i ≠ r.idx := fun p r hp e => h0 r (List.mem_of_getElem? hp) (e ▸ r.mem_idx)
    have hnj : ∀ (p : Nat) r j s, rs[p]? = some r → r.pre = some (j, s) → i ≠ j := fun p r j s hp hpr e => h0 r (List.mem_of_getElem? hp) (e ▸ RE.mem_pre hpr)
    rw [gsay_no hg a _ hE, if_neg (by simp)]
    refine hK _ _ ⟨dfR _, szR _, s3', scl', s4, onlyR (fun p r hp hpr hl => (hsg p r hp hpr).resolve_right fun ⟨_, e, he, hb, hon⟩ => by
      rw [getD_set_ne false (hne p r hp)] at hl
      obtain ⟨_, o', ho', hall'⟩ := mem_ready.1 hi
      rw [ho] at ho'; injection ho' with ho'; subst ho'
      have := hall' e he (hb md)
      rw [hon, hl] at this; cases this), φ, by rw [hres]; exact hG, ⟨fun p r hp hl => ?_⟩, by rw [hres]; exact putR hE (by simp [AV.rel, RV.rel])⟩
    rw [getD_set_ne false (hne p r hp)] at hl
    obtain ⟨k1, k2⟩ := hst.made p r hp hl
    refine ⟨fun j s hpr hj => ?_, fun h => k2 fun j s hpr => ?_⟩
    · rw [getD_set_ne false (hnj p r j s hp hpr)] at hj
      rw [hres, slotR p r j s hp hpr (hnj p r j s hp hpr)]
      exact k1 j s hpr hj
    · have := h j s hpr
      rwa [getD_set_ne false (hnj p r j s hp hpr)] at this
  · -- an object or a row is made in its place
    simp only at hgd hds
    subst hgd; subst hri
    have his := s3 p r hp _ r.mem_idx
    have hlf : listed.getD r.idx false = false := getD_both hi0
    have hpl : p < rs.length := (List.getElem?_eq_some_iff.1 hp).1
    have hob0 : reOb listed r = ⟨r.t, 0, []⟩ := by unfold reOb; rw [hlf]; simp [hrp]
    have hq : (σ ++ resU rs listed)[σ.length + p]? = some ⟨r.ob.t, 0, []⟩ := by
      rw [List.getElem?_append_right (by omega), show σ.length + p - σ.length = p by omega]
      unfold resU
      rw [List.getElem?_map, hp]
      simp only [Option.map_some, hob0, RE.ob]
    have hφq : φ (σ.length + p) = none := (hst.made p r hp hlf).2 fun j s h => by rw [hrp] at h; cases h
    have hset := resU_set (ob := r.ob) (listed := listed) hw hp r.mem_idx (by unfold reOb; rw [getD_set_self his]; rfl)
    have hσ : (σ ++ resU rs listed).set (σ.length + p) r.ob = σ ++ resU rs (listed.setIfInBounds r.idx true) := by
      rw [List.set_append_right _ _ (by omega), show σ.length + p - σ.length = p by omega, hset]
    rw [if_pos (by simp [Region.wanted])]
    refine .inl (hmk.2 a w φ _ hG hq hφq (fun x _ => ev_evE' hE x) _ _ fun u w' g hb hg hor hu => hK _ _ ?_)
    have g1 := good_fillU hG hb hg hq hφq hor
    have hall : ∀ t, AV.rel ⟨w', upd φ (σ.length + p) (some g), (σ ++ resU rs listed).set (σ.length + p) r.ob, C.ok⟩ (E t) (a.tmps.getD t undef) := fun t => rel_fillU hb hg hq hφq _ _ (hE t)
    have hoth : ∀ p' r' , rs[p']? = some r' → p' ≠ p → r.idx ∉ r'.all := fun p' r' hp' hne hm => hne (hw.one p' r' p r r.idx hp' hp hm r.mem_idx)
    refine ⟨dfR u, szR u, s3', scl', s4, onlyR fun p' r' hp' hpr' hl => ?_, upd φ (σ.length + p) (some g), by rw [← hσ]; exact g1, ⟨fun p' r' hp' hl => ?_⟩, by rw [← hσ]; exact putR hall hu⟩
    · have hne : p' ≠ p := by
        rintro rfl
        rw [hp] at hp'; injection hp' with hp'; subst hp'
        rw [hrp] at hpr'; cases hpr'
      rcases hmk.1 with rfl | rfl <;> (simp only [AV.only]; omega)
    · by_cases hpp : p' = p
      · subst hpp
        rw [hp] at hp'; injection hp' with hp'; subst hp'
        rw [getD_set_self his] at hl; cases hl
      · have hno := hoth p' r' hp' hpp
        have hri : r.idx ≠ r'.idx := fun e => hno (e ▸ r'.mem_idx)
        rw [getD_set_ne false hri] at hl
        obtain ⟨k1, k2⟩ := hst.made p' r' hp' hl
        refine ⟨fun j s hpr hj => ?_, fun h => ?_⟩
        · have hij : r.idx ≠ j := fun e => hno (e ▸ RE.mem_pre hpr)
          rw [getD_set_ne false hij] at hj
          rw [← hσ, slotR p' r' j s hp' hpr hij]
          exact rel_fillU hb hg hq hφq _ _ (k1 j s hpr hj)
        · rw [upd_ne (by omega)]
          refine k2 fun j s hpr => ?_
          have hij : r.idx ≠ j := fun e => hno (e ▸ RE.mem_pre hpr)
          have := h j s hpr
          rwa [getD_set_ne false hij] at this
  · -- a row is laid empty
    simp only at hgd hds
    subst hgd; subst hds
    have his := s3 p r hp _ (RE.mem_pre hrp)
    have hlf : listed.getD i false = false := getD_both hi0
    have hij := hw.two p r i s hp hrp
    have hlx : listed.getD r.idx false = false := by
      cases hh : listed.getD r.idx false with
      | false => rfl
      | true => rw [scl p r i s hp hrp hh] at hlf; cases hlf
    have hlx' : (listed.setIfInBounds i true).getD r.idx false = false := by rw [getD_set_ne false (Ne.symm hij)]; exact hlx
    have hob0 : reOb listed r = ⟨r.t, 0, []⟩ := by unfold reOb; rw [hlx]; simp [hrp, hlf]
    have hob1 : reOb (listed.setIfInBounds i true) r = ⟨r.t, r.sz, []⟩ := by unfold reOb; rw [hlx']; simp only [hrp, getD_set_self his]; rfl
    have hq : (σ ++ resU rs listed)[σ.length + p]? = some ⟨r.t, 0, []⟩ := by
      rw [List.getElem?_append_right (by omega), show σ.length + p - σ.length = p by omega]
      unfold resU
      rw [List.getElem?_map, hp]
      simp only [Option.map_some, hob0]
    have hφq : φ (σ.length + p) = none := (hst.made p r hp hlx).2 fun j s' h => by rw [hrp] at h; injection h with h; injection h with h; subst h; exact hlf
    have hset := resU_set (listed := listed) hw hp (RE.mem_pre hrp) hob1
    have hσ : (σ ++ resU rs listed).set (σ.length + p) ⟨r.t, r.sz, []⟩ = σ ++ resU rs (listed.setIfInBounds i true) := by
      rw [List.set_append_right _ _ (by omega), show σ.length + p - σ.length = p by omega, hset]
    rw [if_pos (by simp [Region.wanted])]
    refine .inl (hmk.2 a w φ _ hG hq hφq (fun x _ => ev_evE' hE x) _ _ fun u w' g hb hg hor hu => hK _ _ ?_)
    have g1 := good_fillU hG hb hg hq hφq hor
    have hall : ∀ t, AV.rel ⟨w', upd φ (σ.length + p) (some g), (σ ++ resU rs listed).set (σ.length + p) ⟨r.t, r.sz, []⟩, C.ok⟩ (E t) (a.tmps.getD t undef) := fun t => rel_fillU hb hg hq hφq _ _ (hE t)
    refine ⟨dfR u, szR u, s3', scl', s4, onlyR fun p' r' hp' hpr' hl => by simp [AV.only], upd φ (σ.length + p) (some g), by rw [← hσ]; exact g1, ⟨fun p' r' hp' hl => ?_⟩, by rw [← hσ]; exact putJ hall⟩
    by_cases hpp : p' = p
    · subst hpp
      rw [hp] at hp'; injection hp' with hp'; subst hp'
      refine ⟨fun j s' hpr hj => ?_, fun h => ?_⟩
      · rw [hrp] at hpr; injection hpr with hpr; injection hpr with e1 e2; subst e2
        rw [← hσ, getD_put a s s u (by rw [s2]; exact hd s rfl), if_pos rfl]
        exact hu
      · have := h i s hrp
        rw [getD_set_self his] at this; cases this
    · have hno : i ∉ r'.all := fun hm => hpp (hw.one p' r' p r i hp' hp hm (RE.mem_pre hrp))
      have hri : i ≠ r'.idx := fun e => hno (e ▸ r'.mem_idx)
      rw [getD_set_ne false hri] at hl
      obtain ⟨k1, k2⟩ := hst.made p' r' hp' hl
      refine ⟨fun j s' hpr hj => ?_, fun h => ?_⟩
      · have hij' : i ≠ j := fun e => hno (e ▸ RE.mem_pre hpr)
        rw [getD_set_ne false hij'] at hj
        rw [← hσ, slotR p' r' j s' hp' hpr hij']
        exact rel_fillU hb hg hq hφq _ _ (k1 j s' hpr hj)
      · rw [upd_ne (by omega)]
        refine k2 fun j s' hpr => ?_
        have hij' : i ≠ j := fun e => hno (e ▸ RE.mem_pre hpr)
        have := h j s' hpr
        rwa [getD_set_ne false hij'] at this
  · -- what was laid empty grows
    simp only at hgd hds
    subst hgd; subst hri
    have his := s3 p r hp _ r.mem_idx
    have hlf : listed.getD r.idx false = false := getD_both hi0
    have hij := hw.two p r j s hp hrp
    have hpl : p < rs.length := (List.getElem?_eq_some_iff.1 hp).1
    have hlj : listed.getD j false = true := by
      have := scl' p r j s hp hrp (getD_set_self his)
      rwa [getD_set_ne false hij] at this
    have hob0 : reOb listed r = ⟨r.t, r.sz, []⟩ := by unfold reOb; rw [hlf]; simp [hrp, hlj]
    have hq : (σ ++ resU rs listed)[σ.length + p]? = some ⟨r.t, r.sz, []⟩ := by
      rw [List.getElem?_append_right (by omega), show σ.length + p - σ.length = p by omega]
      unfold resU
      rw [List.getElem?_map, hp]
      simp only [Option.map_some, hob0]
    have hset := resU_set (ob := r.ob) (listed := listed) hw hp r.mem_idx (by unfold reOb; rw [getD_set_self his]; rfl)
    have hσ : (σ ++ resU rs listed).set (σ.length + p) r.ob = σ ++ resU rs (listed.setIfInBounds r.idx true) := by
      rw [List.set_append_right _ _ (by omega), show σ.length + p - σ.length = p by omega, hset]
    have hfr : ∀ (k : Nat) ob, (σ ++ resU rs listed)[k]? = some ob → AV.onlys (fun z => z ≠ σ.length + p) ob.cs := fun k ob hk => by
      rcases List.mem_append.1 (List.mem_of_getElem? hk) with h | h
      · exact s4 p r hp (by rw [hrp]; rfl) ob h
      · exact onlys_of_ros h
    have hE5 := s5 p r hp (by rw [hrp]; rfl) hlf
    rw [if_pos (by simp [Region.wanted])]
    refine .inl (hmk a w φ _ hG hq ((hst.made p r hp hlf).1 j s hrp hlj) hfr (fun x _ => ev_evE' hE x) _ _ fun u w' b g1 g2 hu => hK _ _ ?_)
    have hall : ∀ t, AV.rel ⟨w', upd φ (σ.length + p) b, (σ ++ resU rs listed).set (σ.length + p) r.ob, C.ok⟩ (E t) (a.tmps.getD t undef) := fun t => AV.rel_keeps g2 _ _ (hE5 t) (hE t)
    have hoth : ∀ p' r' , rs[p']? = some r' → p' ≠ p → r.idx ∉ r'.all := fun p' r' hp' hne hm => hne (hw.one p' r' p r r.idx hp' hp hm r.mem_idx)
    refine ⟨dfR u, szR u, s3', scl', s4, onlyR fun p' r' hp' hpr' hl => ?_, upd φ (σ.length + p) b, by rw [← hσ]; exact g1, ⟨fun p' r' hp' hl => ?_⟩, by rw [← hσ]; exact putR hall hu⟩
    · have hne : p' ≠ p := by
        rintro rfl
        rw [hp] at hp'; injection hp' with hp'; subst hp'
        rw [getD_set_self his] at hl; cases hl
      simp only [AV.only]; omega
    · by_cases hpp : p' = p
      · subst hpp
        rw [hp] at hp'; injection hp' with hp'; subst hp'
        rw [getD_set_self his] at hl; cases hl
      · have hno := hoth p' r' hp' hpp
        have hri : r.idx ≠ r'.idx := fun e => hno (e ▸ r'.mem_idx)
        rw [getD_set_ne false hri] at hl
        obtain ⟨k1, k2⟩ := hst.made p' r' hp' hl
        refine ⟨fun j' s' hpr hj => ?_, fun h => ?_⟩
        · have hij' : r.idx ≠ j' := fun e => hno (e ▸ RE.mem_pre hpr)
          rw [getD_set_ne false hij'] at hj
          rw [← hσ, slotR p' r' j' s' hp' hpr hij']
          exact AV.rel_keeps g2 _ _ (by simp only [AV.only]; omega) (k1 j' s' hpr hj)
        · rw [upd_ne (by omega)]
          refine k2 fun j' s' hpr => ?_
          have hij' : r.idx ≠ j' := fun e => hno (e ▸ RE.mem_pre hpr)
          have := h j' s' hpr
          rwa [getD_set_ne false hij'] at this
theorem SimU.mv {i : Nat} {o : Oper} {v : AV} (hw : WfU md ops rs) (hs : SimU C σ rs listed E a w) (ho : ops[i]? = some o) (hd : ∀ t, o.dst = some t → t < C.n) (hm : isMv o = true) (hmr : ∀ r ∈ rs, i ∉ r.all)
    (hy : YU P C ops σ rs i o v E) : ∃ u, YA P ops o u a ∧ SimU C σ rs (listed.setIfInBounds i true) (putE E o.dst v) (a.put o.dst u) w := by
  obtain ⟨s1, s2, s3, scl, s4, s5, φ, hG, hst, hE⟩ := hs
  obtain ⟨dst, op, ty, pos, after, g⟩ := o
  obtain ⟨t, rfl, rfl⟩ : ∃ t, dst = some t ∧ g = none := by
    unfold isMv at hm
    split at hm
    · rename_i he; injection he with e1 e2 e3 e4 e5 e6; exact ⟨_, e1, e6⟩
    · rename_i he; injection he with e1 e2 e3 e4 e5 e6; exact ⟨_, e1, e6⟩
    · cases hm
  have htn := hd t rfl
  have hres := resU_same (listed := listed) hmr
  have hne : ∀ (p : Nat) r, rs[p]? = some r → i ≠ r.idx := fun p r hp e => hmr r (List.mem_of_getElem? hp) (e ▸ r.mem_idx)
  have hnj : ∀ (p : Nat) r j s, rs[p]? = some r → r.pre = some (j, s) → i ≠ j := fun p r j s hp hpr e => hmr r (List.mem_of_getElem? hp) (e ▸ RE.mem_pre hpr)
  have bad : ∀ (p : Nat) r, rs[p]? = some r → i ∈ r.all → False := fun p r hp hm => hmr r (List.mem_of_getElem? hp) hm
  rcases hy with ⟨h0, hsg, ⟨hg, hv⟩ | ⟨hg, _⟩⟩ | ⟨p, r, hp, hri, _⟩ | ⟨p, r, s, hp, hrp, _⟩ | ⟨p, r, j, s, hp, hri, _⟩
  · have hwp := hv (resU rs listed) a ⟨w, φ, σ ++ resU rs listed, C.ok⟩ hG rfl (fun x _ => ev_evE' hE x) (fun a' w' => ∃ u, a' = a.put (some t) u ∧ AV.rel ⟨w', φ, σ ++ resU rs listed, C.ok⟩ v u) (fun _ _ _ => False) fun u w' hb hu => ⟨u, rfl, hu⟩
    rcases isMv_ya (P := P) (ops := ops) hm a with ⟨u, hya⟩ | hno
    · refine ⟨u, hya, ?_⟩
      unfold Oper.wp at hwp
      rw [hya.2 w] at hwp
      simp only [Oper.upon] at hwp
      obtain ⟨u', he, hu⟩ := hwp
      have hu' : u = u' := by
        have h1 := getD_put a t t u (by rw [s2]; exact htn)
        have h2 := getD_put a t t u' (by rw [s2]; exact htn)
        rw [if_pos rfl] at h1 h2
        rw [← h1, ← h2, he]
      subst hu'
      refine ⟨s1, by simp [Act.put, s2], fun p r hp k hk => by simpa using s3 p r hp k hk, fun p r j s hp hpr hl => ?_, s4, fun p r hp hpr hl s => ?_, φ, by rw [hres]; exact hG, ⟨fun p r hp hl => ?_⟩, fun s => ?_⟩
      · rw [getD_set_ne false (hne p r hp)] at hl
        rw [getD_set_ne false (hnj p r j s hp hpr)]
        exact scl p r j s hp hpr hl
      · rw [getD_set_ne false (hne p r hp)] at hl
        simp only [putE]
        split
        · exact (hsg p r hp hpr).resolve_right fun h => by rw [hm] at h; exact absurd h.1 (by decide)
        · exact s5 p r hp hpr hl s
      · rw [getD_set_ne false (hne p r hp)] at hl
        obtain ⟨k1, k2⟩ := hst.made p r hp hl
        refine ⟨fun j s hpr hj => ?_, fun h => k2 fun j s hpr => ?_⟩
        · rw [getD_set_ne false (hnj p r j s hp hpr)] at hj
          rw [hres, getD_put a t s u (by rw [s2]; exact htn), if_neg fun e => hnj p r j s hp hpr (hw.slot p r j s hp hpr i _ ho (by rw [e]))]
          exact k1 j s hpr hj
        · have := h j s hpr
          rwa [getD_set_ne false (hnj p r j s hp hpr)] at this
      · rw [hres, getD_put a t s u (by rw [s2]; exact htn)]
        simp only [putE]
        split
        · exact hu
        · exact hE s
    · exfalso
      unfold Oper.wp at hwp
      cases hr : (execOp a.eval (⟨some t, op, ty, pos, after, none⟩ : Oper)).run P w with
      | ok x w' => exact (hno w x w').1 hr
      | halt q w' =>
        rw [hr] at hwp
        cases q <;> first | exact hwp | exact (hno w .skip w').2 _ hr
  · simp [gsayE] at hg
  · exact (bad p r hp (hri ▸ r.mem_idx)).elim
  · exact (bad p r hp (RE.mem_pre hrp)).elim
  · exact (bad p r hp (hri ▸ r.mem_idx)).elim
theorem wpAny_of_V {n g : Nat} {L : Array Bool → EE → Prop} {F : Act → World → Prop} (hpri : ∀ e ∈ pri, freeAll md ops e = true) (hsel : ∀ (j : Nat) (o : Oper) cs b, ops[j]? = some o → o.op ≠ .select cs b) (hw : WfU md ops rs) (hpm : ∀ e ∈ pri, ∀ r ∈ rs, e ∉ r.all) (hd : ∀ (i : Nat) o t, ops[i]? = some o → o.dst = some t → t < C.n)
    (hL : ∀ listed E a w, L listed E → SimU C σ rs listed E a w → wpAny P md ops (nrm F) g listed a w) :
    ∀ (f : Nat) (listed : Array Bool) (E : EE) (a : Act) (w : World), SimU C σ rs listed E a w → wpAnyV P C md ops σ rs pri n L f listed E → wpAny P md ops (nrm F) (f + g) listed a w
  | 0, listed, E, a, w, hs, h => by rw [Nat.zero_add]; exact hL _ _ _ _ h hs
  | f + 1, listed, E, a, w, hs, h => by
    rw [show f + 1 + g = (f + g) + 1 by omega]
    rcases h with ⟨e, he, her, hen, o, v, ho, hy, hK⟩ | ⟨_, h0, h⟩
    · obtain ⟨hmv, hap⟩ := freeAll_spec ho (hpri e he)
      obtain ⟨u, hya, hs'⟩ := SimU.mv hw hs ho (fun t ht => hd e o t ho ht) hmv (hpm e he) hy
      exact wpAny_ya ho hsel _ listed a w hya (fun j oj hj hje hun hno => hap j oj hj hje hno fun ed hed hb hon => by
        obtain ⟨_, o', ho', hall⟩ := mem_ready.1 her
        have : o' = o := Option.some.inj (ho'.symm.trans ho)
        subst this
        have h1 := hall ed hed hb
        rw [hon, getD_both hun] at h1
        cases h1) her (wpAny_of_V hpri hsel hw hpm hd hL f _ _ _ w hs' hK)
    · refine ⟨fun h1 => absurd h1 h0, fun i hi => ?_⟩
      obtain ⟨o, v, ho, hy, hK⟩ := (h i hi).2
      exact SimU.op hw hs hi ho (fun t ht => hd i o t ho ht) hy fun a' w' hs' => wpAny_of_V hpri hsel hw hpm hd hL f _ _ a' w' hs' hK
end
def keyAll (k : Nat × Option (Nat × Nat)) : List Nat := k.1 :: match k.2 with
  | some p => [p.1]
  | none => []
def wfB (l : List Oper) (pri : List Nat) (n : Nat) (keys : List (Nat × Option (Nat × Nat))) : Bool :=
  decide (keys.flatMap keyAll).Nodup && (keys.flatMap keyAll).all (fun i => decide (i < n) && !pri.contains i) && keys.all fun k => match k.2 with
    | none => true
    | some p => (match l[k.1]? with
      | some o => o.after.any fun e => Region.binds .any e && decide (e.on = p.1)
      | none => false) && (List.range l.length).all fun i => match l[i]? with
        | some o => decide (o.dst ≠ some p.2) || decide (i = p.1)
        | none => true
theorem nd_flat {κ : Type} {f : κ → List Nat} : ∀ {l : List κ}, (l.flatMap f).Nodup → ∀ (p : Nat) a (p' : Nat) a' i, l[p]? = some a → l[p']? = some a' → i ∈ f a → i ∈ f a' → p = p'
  | [], _, p, a, _, _, _, h, _, _, _ => by simp at h
  | x :: l, hn, p, a, p', a', i, h, h', hi, hi' => by
    rw [List.flatMap_cons, List.nodup_append] at hn
    obtain ⟨_, h2, h3⟩ := hn
    cases p with
    | zero =>
      cases p' with
      | zero => rfl
      | succ p' =>
        simp only [List.getElem?_cons_zero, Option.some.injEq, List.getElem?_cons_succ] at h h'
        subst h
        exact absurd rfl (h3 i hi i (List.mem_flatMap.2 ⟨a', List.mem_of_getElem? h', hi'⟩))
    | succ p =>
      cases p' with
      | zero =>
        simp only [List.getElem?_cons_zero, Option.some.injEq, List.getElem?_cons_succ] at h h'
        subst h'
        exact absurd rfl (h3 i hi' i (List.mem_flatMap.2 ⟨a, List.mem_of_getElem? h, hi⟩))
      | succ p' =>
        simp only [List.getElem?_cons_succ] at h h'
        rw [nd_flat h2 p a p' a' i h h' hi hi']
theorem nd_in {κ : Type} {f : κ → List Nat} : ∀ {l : List κ}, (l.flatMap f).Nodup → ∀ a ∈ l, (f a).Nodup
  | [], _, a, h => by cases h
  | x :: l, hn, a, h => by
    rw [List.flatMap_cons, List.nodup_append] at hn
    rcases List.mem_cons.1 h with rfl | h
    · exact hn.1
    · exact nd_in hn.2.1 a h
def RE.key (r : RE) : Nat × Option (Nat × Nat) := (r.idx, r.pre)
theorem RE.all_key (r : RE) : r.all = keyAll r.key := by
  unfold RE.all keyAll RE.key
  cases r.pre <;> rfl
theorem wf_of {l : List Oper} {rs : ResU} {pri : List Nat} {n : Nat} {keys : List (Nat × Option (Nat × Nat))} (hk : rs.map RE.key = keys) (h : wfB l pri n keys = true) :
    WfU .any l.toArray rs ∧ (∀ r ∈ rs, ∀ i ∈ r.all, i < n) ∧ ∀ e ∈ pri, ∀ r ∈ rs, e ∉ r.all := by
  subst hk
  unfold wfB at h
  simp only [Bool.and_eq_true, decide_eq_true_eq] at h
  obtain ⟨⟨h1, h2⟩, h3⟩ := h
  have hin : ∀ r ∈ rs, ∀ i ∈ r.all, i < n ∧ i ∉ pri := fun r hr i hi => by
    have := List.all_eq_true.1 h2 i (List.mem_flatMap.2 ⟨r.key, List.mem_map_of_mem hr, r.all_key ▸ hi⟩)
    simpa using this
  have at_ : ∀ (p : Nat) r, rs[p]? = some r → (rs.map RE.key)[p]? = some r.key := fun p r hp => by rw [List.getElem?_map, hp]; rfl
  have h4 : ∀ (p : Nat) r j s, rs[p]? = some r → r.pre = some (j, s) → (∃ o, l[r.idx]? = some o ∧ ∃ e ∈ o.after, Region.binds .any e = true ∧ e.on = j) ∧ ∀ i o, l[i]? = some o → o.dst = some s → i = j := by
    intro p r j s hp hpr
    have := List.all_eq_true.1 h3 r.key (List.mem_map_of_mem (List.mem_of_getElem? hp))
    simp only [RE.key, hpr, Bool.and_eq_true] at this
    obtain ⟨k1, k2⟩ := this
    refine ⟨?_, fun i o hi hd => ?_⟩
    · split at k1
      · rename_i o ho
        rw [Array.any_eq_true'] at k1
        obtain ⟨e, he, hb⟩ := k1
        simp only [Bool.and_eq_true, decide_eq_true_eq] at hb
        exact ⟨o, ho, e, he, hb.1, hb.2⟩
      · cases k1
    · have := List.all_eq_true.1 k2 i (List.mem_range.2 (List.getElem?_eq_some_iff.1 hi).1)
      rw [hi] at this
      simp only [Bool.or_eq_true, decide_eq_true_eq] at this
      rcases this with h | h
      · exact absurd hd h
      · exact h
  refine ⟨⟨fun p r p' r' i hp hp' hm hm' => nd_flat h1 p r.key p' r'.key i (at_ p r hp) (at_ p' r' hp') (r.all_key ▸ hm) (r'.all_key ▸ hm'), fun p r j s hp hpr he => ?_, fun p r j s hp hpr => ?_, fun p r j s hp hpr i o hi hd => (h4 p r j s hp hpr).2 i o (by simpa using hi) hd⟩, fun r hr i hi => (hin r hr i hi).1, fun e he r hr hm => (hin r hr e hm).2 he⟩
  · have := nd_in h1 r.key (List.mem_of_getElem? (at_ p r hp))
    rw [← r.all_key] at this
    unfold RE.all at this
    simp [hpr] at this
    exact this he
  · obtain ⟨o, ho, he⟩ := (h4 p r j s hp hpr).1
    exact ⟨o, by simpa using ho, he⟩
theorem reOb_blank {m : Nat} (r : RE) : reOb (Array.replicate m false) r = ⟨r.t, 0, []⟩ := by
  unfold reOb
  rw [getD_replicate_false]
  simp only [Bool.false_eq_true, if_false]
  split
  · rw [getD_replicate_false]; rfl
  · rfl
theorem resU_full {rs : ResU} {listed : Array Bool} (h : ∀ r ∈ rs, listed.getD r.idx false = true) : resU rs listed = fullU rs := by
  unfold resU fullU
  refine List.map_congr_left fun r hr => ?_
  unfold reOb
  rw [if_pos (h r hr)]
section
variable {P : Program} {C : Ctx} {k : List Item} {R : Act → World → Prop} {env : Env} {σ : List Ob}
structure RunsU (P : Program) (C : Ctx) (ops : Array Oper) (rs : ResU) (tail : List Oper) (l : List (Nat × Oper)) (k : List Item) (R : Act → World → Prop) (S : St) : Prop where
  run : wpLexV P C ops S.σ rs (fun E => ∃ env', E = look env' ∧ RunsL P C ops tail k R ⟨env', S.σ ++ fullU rs⟩) l (look S.env)
theorem Runs.drawV {id : Nat} {l : List Oper} {cn : Nat} {keys : List (Nat × Option (Nat × Nat))} (pri head : List Nat) (n : Nat) (rs : ResU) (hf : P.follows .mixedOrders = true) (hn : C.n = cn) (hB : drawQB l pri head n = true) (hd : dstOk cn l = true)
    (hk : rs.map RE.key = keys) (hwf : wfB l pri n keys = true)
    (h : RunsU P C l.toArray rs (l.drop n) (pick l head) k R ⟨env, σ⟩) : Runs P C (.code (.region id l.toArray true) :: k) R ⟨env, σ⟩ := by
  refine ⟨fun a w hs => Fin.of_wp (wp_region_any hf ?_)⟩
  unfold drawQB at hB
  simp only [Bool.and_eq_true, decide_eq_true_eq] at hB
  obtain ⟨⟨⟨⟨⟨⟨hsel, hnl⟩, hsk⟩, hch⟩, hlen⟩, hpr⟩, hlex⟩ := hB
  obtain ⟨hw, hin, hpm⟩ := wf_of (l := l) (pri := pri) (n := n) hk hwf
  have hpri : ∀ e ∈ pri, freeAll .any l.toArray e = true := fun e he => by have := List.all_eq_true.1 hpr e he; simp only [Bool.and_eq_true] at this; exact this.2
  have hpn : ∀ e ∈ pri, e < n := fun e he => by have := List.all_eq_true.1 hpr e he; simp only [Bool.and_eq_true, decide_eq_true_eq] at this; exact this.1
  obtain ⟨s1, s2, φ, hG, hE⟩ := hs
  have hb : Below w.heap.size w { w with drawn := w.drawn + 1 } := ⟨rfl, rfl, rfl, Nat.le_refl _, fun _ _ => rfl⟩
  obtain ⟨g1, g2⟩ := good_below hG hb
  let φ0 : Nat → Option Nat := fun i => if i < σ.length then φ i else none
  have hφ0 : ∀ j, φ0 (σ.length + j) = none := fun j => if_neg (by omega)
  have hblank : ∀ (j : Nat) r, rs[j]? = some r → (resU rs (Array.replicate l.length false))[j]? = some ⟨r.t, 0, []⟩ := fun j r hj => by unfold resU; rw [List.getElem?_map, hj]; simp only [Option.map_some, reOb_blank]
  obtain ⟨G1, G2⟩ := good_grow (φ' := φ0) (new := resU rs (Array.replicate l.length false)) g1 (Below.refl _ _) (fun i hi => if_pos hi) (fun j hj g hg => by rw [hφ0] at hg; cases hg) (fun i j g hi hj e1 e2 => by rw [hφ0] at e1; cases e1) (fun j o hj => by
    rw [hφ0]
    unfold resU at hj
    rw [List.getElem?_map, Option.map_eq_some_iff] at hj
    obtain ⟨r, _, rfl⟩ := hj
    rw [reOb_blank]; rfl)
  have hE1 : ∀ t, AV.rel ⟨{ w with drawn := w.drawn + 1 }, φ0, σ ++ resU rs (Array.replicate l.length false), C.ok⟩ (look env t) (a.tmps.getD t undef) := fun t => AV.rel_keeps G2 _ _ (AV.only_true _) (AV.rel_keeps g2 _ _ (AV.only_true _) (hE t))
  have hplace : ∀ (p : Nat) r, rs[p]? = some r → (σ ++ resU rs (Array.replicate l.length false))[σ.length + p]? = some ⟨r.t, 0, []⟩ := fun p r hp => by
    rw [List.getElem?_append_right (by omega), show σ.length + p - σ.length = p by omega]
    exact hblank p r hp
  have hdd : ∀ (i : Nat) o t, l.toArray[i]? = some o → o.dst = some t → t < C.n := fun i o t hi ht => by rw [hn]; exact dstOk_at hd i o t (by simpa using hi) ht
  have inv0 : HeadInv .any l.toArray n (Array.replicate l.length false) :=
    ⟨by simp, fun j oj _ hl => (by rw [getD_replicate_false] at hl; cases hl), fun t _ ht => getD_in (by simpa using ht) (getD_replicate_false _ _)⟩
  have hmemH : ∀ p ∈ pick l head, l.toArray[p.1]? = some p.2 := fun p hp => by simpa using pick_mem hp
  have hsz : l.toArray.size = (pick l head).length + (l.length - n) := by simp; omega
  refine (show ∀ m, m = l.toArray.size → wpAny P .any l.toArray (nrm (Fin P k R)) m (Array.replicate l.toArray.size false) a { w with drawn := w.drawn + 1 } from ?_) _ rfl
  intro m hm
  obtain rfl := hm.trans hsz
  have H := wpAnyV_lex (P := P) (C := C) (σ := σ) (md := .any) (ops := l.toArray) (g := l.length - n) hpri hpn hsk hch (by simpa using hnl) (pick l head) (Array.replicate l.toArray.size false) (look env) hmemH (by simpa using inv0) (by simpa using hlex) h.run
  have hS0 : SimU C σ rs (Array.replicate l.length false) (look env) a { w with drawn := w.drawn + 1 } := by
    refine ⟨s1, s2, fun p r hp i hi => ?_, fun p r j s hp hpr hl => ?_, fun p r hp hpr o ho => ?_, fun p r hp hpr hl t => ?_, φ0, G1, ⟨fun p r hp hl => ⟨fun j s hpr hj => ?_, fun _ => hφ0 p⟩⟩, hE1⟩
    · have := hin r (List.mem_of_getElem? hp) i hi
      simp only [Array.size_replicate]; omega
    · rw [getD_replicate_false] at hl; cases hl
    · obtain ⟨i, hi⟩ := List.getElem?_of_mem ho
      have hil := (List.getElem?_eq_some_iff.1 hi).1
      have hob := G1.ob i o (by rw [show (⟨{ w with drawn := w.drawn + 1 }, φ0, σ ++ resU rs (Array.replicate l.length false), C.ok⟩ : Mem).σ = σ ++ resU rs (Array.replicate l.length false) from rfl, List.getElem?_append_left hil]; exact hi)
      refine onlys_at fun j v hj => ?_
      cases hg : φ0 i with
      | none => simp only [hg, ObRel] at hob; rw [hob] at hj; simp at hj
      | some g =>
        simp only [hg, ObRel] at hob
        obtain ⟨us, _, _, q3⟩ := hob
        obtain ⟨x, _, _, k3⟩ := q3 j v hj
        exact only_place (hplace p r hp) (hφ0 p) v x k3
    · exact only_place (hplace p r hp) (hφ0 p) _ _ (hE1 t)
    · rw [getD_replicate_false] at hj; cases hj
  refine wpAny_of_V hpri (Region.noSelect_spec hsel) hw hpm hdd (fun listed' E' a'' w'' hL hS => ?_) _ _ (look env) a _ (by simpa using hS0) H
  obtain ⟨hsq, hall, env'', rfl, hR⟩ := hL
  have hfl := resU_full (rs := rs) (listed := listed') fun r hr => hall r.idx (hin r hr _ r.mem_idx)
  obtain ⟨u1, u2, _, _, _, _, φ', G', _, hE''⟩ := hS
  rw [hfl] at G' hE''
  have := wpAny_of_seq (md := .any) (Q' := nrm (Fin P k R)) (l.drop n) n listed' a'' w'' (fun j => by simp [List.getElem?_drop]) (by rw [List.length_drop]; exact hsq) (hR.run a'' w'' ⟨u1, u2, φ', G', hE''⟩)
  rwa [List.length_drop] at this
theorem Runs.toDrawV {id : Nat} {l : List Oper} {k' : List Item} {cn : Nat} {keys : List (Nat × Option (Nat × Nat))} (m : Nat) (pri head : List Nat) (n : Nat) (rs : ResU) (hf : P.follows .mixedOrders = true) (hn : C.n = cn) (hc : Proofs.Ytnecoghfhcimeaa.ctls m k = .code (.region id l.toArray true) :: k') (hB : drawQB l pri head n = true) (hd : dstOk cn l = true)
    (hk : rs.map RE.key = keys) (hwf : wfB l pri n keys = true)
    (h : RunsU P C l.toArray rs (l.drop n) (pick l head) k' R ⟨env, σ⟩) : Runs P C k R ⟨env, σ⟩ := Runs.ctls m hc (Runs.drawV pri head n rs hf hn hB hd hk hwf h)
variable {ops : Array Oper} {rs : ResU} {tail : List Oper} {rest : List (Nat × Oper)} {i t : Nat} {o : Oper}
theorem RunsU.nil (h : RunsL P C ops tail k R ⟨env, σ ++ fullU rs⟩) : RunsU P C ops rs tail [] k R ⟨env, σ⟩ := ⟨⟨env, rfl, h⟩⟩
theorem RunsU.pur {v : AV} (h : ∀ more, Pur P C o env (σ ++ more) v) (hi : ((rs.map RE.key).flatMap keyAll).contains i = false) (hs : staged rs σ.length o v) (hg : gsay ops env o.guard = some true) (hd : o.dst = some t) (hk : RunsU P C ops rs tail rest k R ⟨(t, v) :: env, σ⟩) : RunsU P C ops rs tail ((i, o) :: rest) k R ⟨env, σ⟩ := by
  refine ⟨v, .inl ⟨fun r hr hm => ?_, hs, .inl ⟨hg, fun more => (h more).toF⟩⟩, ?_⟩
  · have : i ∈ (rs.map RE.key).flatMap keyAll := List.mem_flatMap.2 ⟨r.key, List.mem_map_of_mem hr, r.all_key ▸ hm⟩
    rw [← List.contains_iff_mem] at this
    rw [this] at hi; cases hi
  · rw [hd, show (⟨env, σ⟩ : St).env = env from rfl, ← look_putE]
    exact hk.run
theorem RunsU.step {T : Tab} (hT : TabOk P T) {v : AV} (hd : o.dst = some t) (hg : gsay ops env o.guard = some true) (h : ∀ more, aop T env (σ ++ more) o.op = some v) (hi : ((rs.map RE.key).flatMap keyAll).contains i = false) (hs : staged rs σ.length o v) (hk : RunsU P C ops rs tail rest k R ⟨(t, v) :: env, σ⟩) : RunsU P C ops rs tail ((i, o) :: rest) k R ⟨env, σ⟩ := by
  obtain ⟨dst, op, ty, pos, after, g⟩ := o
  simp only at hd; subst hd
  exact RunsU.pur (fun more => pu_auto hT (h more)) hi hs hg rfl hk
theorem RunsU.made {p : Nat} {r : RE} {v : AV} (hr : rs[p]? = some r) (hi : r.idx = i) (hp : r.pre = none) (hg : o.guard = none) (hd : o.dst = some t) (hm : MkN P C o (look env) r.ob (σ.length + p) v) (hk : RunsU P C ops rs tail rest k R ⟨(t, v) :: env, σ⟩) : RunsU P C ops rs tail ((i, o) :: rest) k R ⟨env, σ⟩ := by
  refine ⟨v, .inr (.inl ⟨p, r, hr, hi, hp, hg, by rw [hd]; rfl, hm⟩), ?_⟩
  rw [hd, show (⟨env, σ⟩ : St).env = env from rfl, ← look_putE]
  exact hk.run
theorem RunsU.lay {p : Nat} {r : RE} (hr : rs[p]? = some r) (hp : r.pre = some (i, t)) (hg : o.guard = none) (hd : o.dst = some t) (hm : MkN P C o (look env) ⟨r.t, r.sz, []⟩ (σ.length + p) (.own (σ.length + p))) (hk : RunsU P C ops rs tail rest k R ⟨(t, .junk) :: env, σ⟩) : RunsU P C ops rs tail ((i, o) :: rest) k R ⟨env, σ⟩ := by
  refine ⟨.junk, .inr (.inr (.inl ⟨p, r, t, hr, hp, hg, hd, hm, rfl⟩)), ?_⟩
  rw [hd, show (⟨env, σ⟩ : St).env = env from rfl, ← look_putE]
  exact hk.run
variable {E : EE} {q : Nat} {ty : TypeId} {pos : String} {after : Array Edge}
end
end Go.Proofs.Ytnecoghfhcimeaa
/- impl.CopyValue, spec.CopyValue. -/
namespace Go.Proofs.Ytnecoghfhcimeaa
set_option linter.unusedSimpArgs false
set_option linter.unusedVariables false
open Go.RowKit
open AV (Mem Keeps)
set_option maxRecDepth 100000 in
instance tb_value : TB Try.prog 29 [(0, 1), (1, 1), (2, 1)] [.int .i64 0, .slice none 0 0, .slice none 0 0] := ⟨_, _, _, rfl, rfl, rfl, rfl, by kernel_rfl, by decide⟩
end Go.Proofs.Ytnecoghfhcimeaa
/- The fields of a value: the program's side. -/
namespace Go.Proofs.Ytnecoghfhcimeaa
set_option linter.unusedSimpArgs false
set_option linter.unusedVariables false
open Go.RowKit
end Go.Proofs.Ytnecoghfhcimeaa
/- The fields of a value: the law's words. -/
namespace Go.Proofs.Ytnecoghfhcimeaa
set_option linter.unusedSimpArgs false
set_option linter.unusedVariables false
open Go.RowKit
set_option maxHeartbeats 16000000 in
theorem l9Own_ac {d : Des} (hl : d.length ≤ 1048576) {x : Rul} (hk : KindOk d x) (v : Tre) (hv : v.Ok) : ACv Try.prog 185 [desR d, .agg (rulR x), treR v] (.bool (decide (OwnV d x v))) := by
  have hlv : (v.items.map Tre.cells).length = v.items.length := List.length_map ..
  have hlb : (v.bytes.map fun z => [RV.u8 z]).length = v.bytes.length := List.length_map ..
  have hlk : (x.kids.map fun z => [RV.int z]).length = x.kids.length := List.length_map ..
  have hM := spec_IntegerLimit d (x.kids.headD 0) (by unfold maxLen; omega)
  have hI := l9Item_ac hk v.number 0 (Int.le_refl 0)
  obtain ⟨f5, f7, f8, f4⟩ := item_fields hk
  have hp8 := pow8_le (s := x.size)
  refine ac_enter Try.func185 rfl _ Try.ntmps185 (by simp) fun C hn hm => ?_
  by_cases k1 : x.kind = 1
  · have hF : OwnV d x v ↔ (0 ≤ v.number ∧ v.number ≤ pow8 x.size - 1) ∧ v.bytes.length = 0 ∧ v.items.length = 0 := by
      unfold OwnV
      simp only [k1, if_true, show ¬ (1 : Int) = 2 by decide, show ¬ (1 : Int) = 3 by decide, show ¬ (1 : Int) = 4 by decide, show ¬ (1 : Int) = 5 by decide, show ¬ (1 : Int) = 6 by decide, show ¬ (1 : Int) = 7 by decide, show ¬ (1 : Int) = 8 by decide, show ¬ (1 : Int) = 9 by decide, show ¬ (1 : Int) = 10 by decide, if_false]
    have hP := l2Power_ac x.size (by unfold KindOk InR at hk; omega)
    repeat' (first
 | refine RunsL.step tabOk hn rfl ?_
 | refine RunsL.nil ?_
 | refine Runs.toRegion 30 rfl ?_
 | ((first | refine RunsL.pe hn rfl rfl rfl ?_ | refine RunsD.pe rfl rfl ?_); first
 | refine ⟨_, pu_callR hP rfl, ?_⟩
 | refine ⟨_, pu_callR hM rfl, ?_⟩
 | refine ⟨_, pu_callR (spec_Min _ _) rfl, ?_⟩
 | refine ⟨_, pu_callR (l1In_ac _ _ _) rfl, ?_⟩
 | refine ⟨_, pu_callR hI rfl, ?_⟩)
 | (refine Runs.ctls 30 rfl ?_; first | ((first | refine Runs.cond_yes rfl ?_ ?_ | refine Runs.cond_nno rfl ?_ ?_); · first | omega | rfl | assumption | (simp only [List.length_map]; omega)) | ((first | refine Runs.cond_no rfl ?_ ?_ | refine Runs.cond_nyes rfl ?_ ?_); · first | omega | rfl | assumption | (simp only [List.length_map]; omega)) | refine Runs.ret (ends_ro hm rfl rfl ?_) | exact Runs.ret (ends_cellR hm rfl rfl rfl (Nat.le_of_ble_eq_true rfl) rfl rfl))
 | refine op_box rfl (tl hn rfl) ?_
 | refine RunsD.step tabOk hn rfl rfl ?_
 | refine RunsD.nil ?_
 | refine Runs.toDraw 30 mixed hn rfl (by kernel_rfl) rfl ?_
 | ((first | refine RunsL.pe hn rfl rfl rfl ?_ | refine RunsD.pe rfl rfl ?_); first
 | refine ⟨_, pu_add rfl rfl (by omega), ?_⟩
 | refine ⟨_, pu_indexAddr_map rfl rfl (by omega) (by assumption), ?_⟩
 | refine ⟨_, pu_sub rfl rfl (by omega), ?_⟩
 | refine ⟨_, pu_pick_b rfl rfl rfl, ?_⟩
 | refine ⟨_, pu_mul rfl rfl (by omega), ?_⟩
 | refine ⟨_, pu_build rfl rfl rfl rfl rfl rfl, ?_⟩)
 | ((first | refine RunsL.guard_dec rfl rfl rfl ?_ ?_ | refine RunsL.guard_ndec rfl rfl rfl ?_ ?_ | refine RunsL.guard_nb rfl rfl rfl ?_ ?_ | refine RunsL.guard_b rfl rfl rfl ?_ ?_ | refine RunsD.guard_dec rfl rfl rfl ?_ ?_ | refine RunsD.guard_ndec rfl rfl rfl ?_ ?_ | refine RunsD.guard_nb rfl rfl rfl ?_ ?_ | refine RunsD.guard_b rfl rfl rfl ?_ ?_) <;> intro h <;> try (exfalso; first | omega | contradiction | (simp only [List.length_map] at h; omega))))
    all_goals first
      | exact rr_bool (decide_eq_true (p := OwnV d x v) (hF.2 (by omega))).symm
      | exact rr_bool (decide_eq_false (p := OwnV d x v) fun hh => by have := hF.1 hh; omega).symm
      | exact rr_bool (decide_eq_decide.2 ⟨fun q => hF.2 (by omega), fun q => by have := hF.1 q; omega⟩)
      | (exfalso; omega)
  by_cases k2 : x.kind = 2
  · have hF : OwnV d x v ↔ v.number = 0 ∧ v.bytes.length = 0 ∧ v.items.length = 0 := by
      unfold OwnV
      simp only [k2, if_true, show ¬ (2 : Int) = 1 by decide, show ¬ (2 : Int) = 3 by decide, show ¬ (2 : Int) = 4 by decide, show ¬ (2 : Int) = 5 by decide, show ¬ (2 : Int) = 6 by decide, show ¬ (2 : Int) = 7 by decide, show ¬ (2 : Int) = 8 by decide, show ¬ (2 : Int) = 9 by decide, show ¬ (2 : Int) = 10 by decide, if_false]
    repeat' (first
 | refine RunsL.step tabOk hn rfl ?_
 | refine RunsL.nil ?_
 | refine Runs.toRegion 30 rfl ?_
 | ((first | refine RunsL.pe hn rfl rfl rfl ?_ | refine RunsD.pe rfl rfl ?_); first
 | refine ⟨_, pu_callR hM rfl, ?_⟩
 | refine ⟨_, pu_callR (spec_Min _ _) rfl, ?_⟩
 | refine ⟨_, pu_callR (l1In_ac _ _ _) rfl, ?_⟩
 | refine ⟨_, pu_callR hI rfl, ?_⟩)
 | (refine Runs.ctls 30 rfl ?_; first | ((first | refine Runs.cond_yes rfl ?_ ?_ | refine Runs.cond_nno rfl ?_ ?_); · first | omega | rfl | assumption | (simp only [List.length_map]; omega)) | ((first | refine Runs.cond_no rfl ?_ ?_ | refine Runs.cond_nyes rfl ?_ ?_); · first | omega | rfl | assumption | (simp only [List.length_map]; omega)) | refine Runs.ret (ends_ro hm rfl rfl ?_) | exact Runs.ret (ends_cellR hm rfl rfl rfl (Nat.le_of_ble_eq_true rfl) rfl rfl))
 | refine op_box rfl (tl hn rfl) ?_
 | refine RunsD.step tabOk hn rfl rfl ?_
 | refine RunsD.nil ?_
 | refine Runs.toDraw 30 mixed hn rfl (by kernel_rfl) rfl ?_
 | ((first | refine RunsL.pe hn rfl rfl rfl ?_ | refine RunsD.pe rfl rfl ?_); first
 | refine ⟨_, pu_add rfl rfl (by omega), ?_⟩
 | refine ⟨_, pu_indexAddr_map rfl rfl (by omega) (by assumption), ?_⟩
 | refine ⟨_, pu_sub rfl rfl (by omega), ?_⟩
 | refine ⟨_, pu_pick_b rfl rfl rfl, ?_⟩
 | refine ⟨_, pu_mul rfl rfl (by omega), ?_⟩
 | refine ⟨_, pu_build rfl rfl rfl rfl rfl rfl, ?_⟩)
 | ((first | refine RunsL.guard_dec rfl rfl rfl ?_ ?_ | refine RunsL.guard_ndec rfl rfl rfl ?_ ?_ | refine RunsL.guard_nb rfl rfl rfl ?_ ?_ | refine RunsL.guard_b rfl rfl rfl ?_ ?_ | refine RunsD.guard_dec rfl rfl rfl ?_ ?_ | refine RunsD.guard_ndec rfl rfl rfl ?_ ?_ | refine RunsD.guard_nb rfl rfl rfl ?_ ?_ | refine RunsD.guard_b rfl rfl rfl ?_ ?_) <;> intro h <;> try (exfalso; first | omega | contradiction | (simp only [List.length_map] at h; omega))))
    all_goals first
      | exact rr_bool (decide_eq_true (p := OwnV d x v) (hF.2 (by omega))).symm
      | exact rr_bool (decide_eq_false (p := OwnV d x v) fun hh => by have := hF.1 hh; omega).symm
      | exact rr_bool (decide_eq_decide.2 ⟨fun q => hF.2 (by omega), fun q => by have := hF.1 q; omega⟩)
      | (exfalso; omega)
  by_cases k3 : x.kind = 3
  · have hF : OwnV d x v ↔ v.number = 0 ∧ (v.bytes.length : Int) = x.size ∧ v.items.length = 0 := by
      unfold OwnV
      simp only [k3, if_true, show ¬ (3 : Int) = 1 by decide, show ¬ (3 : Int) = 2 by decide, show ¬ (3 : Int) = 4 by decide, show ¬ (3 : Int) = 5 by decide, show ¬ (3 : Int) = 6 by decide, show ¬ (3 : Int) = 7 by decide, show ¬ (3 : Int) = 8 by decide, show ¬ (3 : Int) = 9 by decide, show ¬ (3 : Int) = 10 by decide, if_false]
    repeat' (first
 | refine RunsL.step tabOk hn rfl ?_
 | refine RunsL.nil ?_
 | refine Runs.toRegion 30 rfl ?_
 | ((first | refine RunsL.pe hn rfl rfl rfl ?_ | refine RunsD.pe rfl rfl ?_); first
 | refine ⟨_, pu_callR hM rfl, ?_⟩
 | refine ⟨_, pu_callR (spec_Min _ _) rfl, ?_⟩
 | refine ⟨_, pu_callR (l1In_ac _ _ _) rfl, ?_⟩
 | refine ⟨_, pu_callR hI rfl, ?_⟩)
 | (refine Runs.ctls 30 rfl ?_; first | ((first | refine Runs.cond_yes rfl ?_ ?_ | refine Runs.cond_nno rfl ?_ ?_); · first | omega | rfl | assumption | (simp only [List.length_map]; omega)) | ((first | refine Runs.cond_no rfl ?_ ?_ | refine Runs.cond_nyes rfl ?_ ?_); · first | omega | rfl | assumption | (simp only [List.length_map]; omega)) | refine Runs.ret (ends_ro hm rfl rfl ?_) | exact Runs.ret (ends_cellR hm rfl rfl rfl (Nat.le_of_ble_eq_true rfl) rfl rfl))
 | refine op_box rfl (tl hn rfl) ?_
 | refine RunsD.step tabOk hn rfl rfl ?_
 | refine RunsD.nil ?_
 | refine Runs.toDraw 30 mixed hn rfl (by kernel_rfl) rfl ?_
 | ((first | refine RunsL.pe hn rfl rfl rfl ?_ | refine RunsD.pe rfl rfl ?_); first
 | refine ⟨_, pu_add rfl rfl (by omega), ?_⟩
 | refine ⟨_, pu_indexAddr_map rfl rfl (by omega) (by assumption), ?_⟩
 | refine ⟨_, pu_sub rfl rfl (by omega), ?_⟩
 | refine ⟨_, pu_pick_b rfl rfl rfl, ?_⟩
 | refine ⟨_, pu_mul rfl rfl (by omega), ?_⟩
 | refine ⟨_, pu_build rfl rfl rfl rfl rfl rfl, ?_⟩)
 | ((first | refine RunsL.guard_dec rfl rfl rfl ?_ ?_ | refine RunsL.guard_ndec rfl rfl rfl ?_ ?_ | refine RunsL.guard_nb rfl rfl rfl ?_ ?_ | refine RunsL.guard_b rfl rfl rfl ?_ ?_ | refine RunsD.guard_dec rfl rfl rfl ?_ ?_ | refine RunsD.guard_ndec rfl rfl rfl ?_ ?_ | refine RunsD.guard_nb rfl rfl rfl ?_ ?_ | refine RunsD.guard_b rfl rfl rfl ?_ ?_) <;> intro h <;> try (exfalso; first | omega | contradiction | (simp only [List.length_map] at h; omega))))
    all_goals first
      | exact rr_bool (decide_eq_true (p := OwnV d x v) (hF.2 (by omega))).symm
      | exact rr_bool (decide_eq_false (p := OwnV d x v) fun hh => by have := hF.1 hh; omega).symm
      | exact rr_bool (decide_eq_decide.2 ⟨fun q => hF.2 (by omega), fun q => by have := hF.1 q; omega⟩)
      | (exfalso; omega)
  by_cases k4 : x.kind = 4
  · have hF : OwnV d x v ↔ v.number = 0 ∧ (v.bytes.length : Int) ≤ mn 400 (lim d (x.kids.headD 0)) ∧ v.items.length = 0 := by
      unfold OwnV
      simp only [k4, if_true, show ¬ (4 : Int) = 1 by decide, show ¬ (4 : Int) = 2 by decide, show ¬ (4 : Int) = 3 by decide, show ¬ (4 : Int) = 5 by decide, show ¬ (4 : Int) = 6 by decide, show ¬ (4 : Int) = 7 by decide, show ¬ (4 : Int) = 8 by decide, show ¬ (4 : Int) = 9 by decide, show ¬ (4 : Int) = 10 by decide, if_false]
    have hk0 := head_at (l := x.kids) (by have := f4 k4; omega)
    repeat' (first
 | refine RunsL.step tabOk hn rfl ?_
 | refine RunsL.nil ?_
 | refine Runs.toRegion 30 rfl ?_
 | ((first | refine RunsL.pe hn rfl rfl rfl ?_ | refine RunsD.pe rfl rfl ?_); first
 | refine ⟨_, pu_callR hM rfl, ?_⟩
 | refine ⟨_, pu_callR (spec_Min _ _) rfl, ?_⟩
 | refine ⟨_, pu_callR (l1In_ac _ _ _) rfl, ?_⟩
 | refine ⟨_, pu_callR hI rfl, ?_⟩)
 | (refine Runs.ctls 30 rfl ?_; first | ((first | refine Runs.cond_yes rfl ?_ ?_ | refine Runs.cond_nno rfl ?_ ?_); · first | omega | rfl | assumption | (simp only [List.length_map]; omega)) | ((first | refine Runs.cond_no rfl ?_ ?_ | refine Runs.cond_nyes rfl ?_ ?_); · first | omega | rfl | assumption | (simp only [List.length_map]; omega)) | refine Runs.ret (ends_ro hm rfl rfl ?_) | exact Runs.ret (ends_cellR hm rfl rfl rfl (Nat.le_of_ble_eq_true rfl) rfl rfl))
 | refine op_box rfl (tl hn rfl) ?_
 | refine RunsD.step tabOk hn rfl rfl ?_
 | refine RunsD.nil ?_
 | refine Runs.toDraw 30 mixed hn rfl (by kernel_rfl) rfl ?_
 | ((first | refine RunsL.pe hn rfl rfl rfl ?_ | refine RunsD.pe rfl rfl ?_); first
 | refine ⟨_, pu_add rfl rfl (by omega), ?_⟩
 | refine ⟨_, pu_indexAddr_map rfl rfl (by omega) (by assumption), ?_⟩
 | refine ⟨_, pu_sub rfl rfl (by omega), ?_⟩
 | refine ⟨_, pu_pick_b rfl rfl rfl, ?_⟩
 | refine ⟨_, pu_mul rfl rfl (by omega), ?_⟩
 | refine ⟨_, pu_build rfl rfl rfl rfl rfl rfl, ?_⟩)
 | ((first | refine RunsL.guard_dec rfl rfl rfl ?_ ?_ | refine RunsL.guard_ndec rfl rfl rfl ?_ ?_ | refine RunsL.guard_nb rfl rfl rfl ?_ ?_ | refine RunsL.guard_b rfl rfl rfl ?_ ?_ | refine RunsD.guard_dec rfl rfl rfl ?_ ?_ | refine RunsD.guard_ndec rfl rfl rfl ?_ ?_ | refine RunsD.guard_nb rfl rfl rfl ?_ ?_ | refine RunsD.guard_b rfl rfl rfl ?_ ?_) <;> intro h <;> try (exfalso; first | omega | contradiction | (simp only [List.length_map] at h; omega))))
    all_goals first
      | exact rr_bool (decide_eq_true (p := OwnV d x v) (hF.2 (by omega))).symm
      | exact rr_bool (decide_eq_false (p := OwnV d x v) fun hh => by have := hF.1 hh; omega).symm
      | exact rr_bool (decide_eq_decide.2 ⟨fun q => hF.2 (by omega), fun q => by have := hF.1 q; omega⟩)
      | (exfalso; omega)
  by_cases k10 : x.kind = 10
  · have hF : OwnV d x v ↔ v.number = 0 ∧ v.bytes.length ≤ 400 ∧ v.items.length = 0 := by
      unfold OwnV
      simp only [k10, if_true, show ¬ (10 : Int) = 1 by decide, show ¬ (10 : Int) = 2 by decide, show ¬ (10 : Int) = 3 by decide, show ¬ (10 : Int) = 4 by decide, show ¬ (10 : Int) = 5 by decide, show ¬ (10 : Int) = 6 by decide, show ¬ (10 : Int) = 7 by decide, show ¬ (10 : Int) = 8 by decide, show ¬ (10 : Int) = 9 by decide, if_false]
    repeat' (first
 | refine RunsL.step tabOk hn rfl ?_
 | refine RunsL.nil ?_
 | refine Runs.toRegion 30 rfl ?_
 | ((first | refine RunsL.pe hn rfl rfl rfl ?_ | refine RunsD.pe rfl rfl ?_); first
 | refine ⟨_, pu_callR hM rfl, ?_⟩
 | refine ⟨_, pu_callR (spec_Min _ _) rfl, ?_⟩
 | refine ⟨_, pu_callR (l1In_ac _ _ _) rfl, ?_⟩
 | refine ⟨_, pu_callR hI rfl, ?_⟩)
 | (refine Runs.ctls 30 rfl ?_; first | ((first | refine Runs.cond_yes rfl ?_ ?_ | refine Runs.cond_nno rfl ?_ ?_); · first | omega | rfl | assumption | (simp only [List.length_map]; omega)) | ((first | refine Runs.cond_no rfl ?_ ?_ | refine Runs.cond_nyes rfl ?_ ?_); · first | omega | rfl | assumption | (simp only [List.length_map]; omega)) | refine Runs.ret (ends_ro hm rfl rfl ?_) | exact Runs.ret (ends_cellR hm rfl rfl rfl (Nat.le_of_ble_eq_true rfl) rfl rfl))
 | refine op_box rfl (tl hn rfl) ?_
 | refine RunsD.step tabOk hn rfl rfl ?_
 | refine RunsD.nil ?_
 | refine Runs.toDraw 30 mixed hn rfl (by kernel_rfl) rfl ?_
 | ((first | refine RunsL.pe hn rfl rfl rfl ?_ | refine RunsD.pe rfl rfl ?_); first
 | refine ⟨_, pu_add rfl rfl (by omega), ?_⟩
 | refine ⟨_, pu_indexAddr_map rfl rfl (by omega) (by assumption), ?_⟩
 | refine ⟨_, pu_sub rfl rfl (by omega), ?_⟩
 | refine ⟨_, pu_pick_b rfl rfl rfl, ?_⟩
 | refine ⟨_, pu_mul rfl rfl (by omega), ?_⟩
 | refine ⟨_, pu_build rfl rfl rfl rfl rfl rfl, ?_⟩)
 | ((first | refine RunsL.guard_dec rfl rfl rfl ?_ ?_ | refine RunsL.guard_ndec rfl rfl rfl ?_ ?_ | refine RunsL.guard_nb rfl rfl rfl ?_ ?_ | refine RunsL.guard_b rfl rfl rfl ?_ ?_ | refine RunsD.guard_dec rfl rfl rfl ?_ ?_ | refine RunsD.guard_ndec rfl rfl rfl ?_ ?_ | refine RunsD.guard_nb rfl rfl rfl ?_ ?_ | refine RunsD.guard_b rfl rfl rfl ?_ ?_) <;> intro h <;> try (exfalso; first | omega | contradiction | (simp only [List.length_map] at h; omega))))
    all_goals first
      | exact rr_bool (decide_eq_true (p := OwnV d x v) (hF.2 (by omega))).symm
      | exact rr_bool (decide_eq_false (p := OwnV d x v) fun hh => by have := hF.1 hh; omega).symm
      | exact rr_bool (decide_eq_decide.2 ⟨fun q => hF.2 (by omega), fun q => by have := hF.1 q; omega⟩)
      | (exfalso; omega)
  by_cases k5 : x.kind = 5
  · have hF : OwnV d x v ↔ v.number = 0 ∧ v.bytes.length = 0 ∧ (v.items.length : Int) ≤ mn 40 (lim d (x.kids.headD 0)) := by
      unfold OwnV
      simp only [k5, if_true, show ¬ (5 : Int) = 1 by decide, show ¬ (5 : Int) = 2 by decide, show ¬ (5 : Int) = 3 by decide, show ¬ (5 : Int) = 4 by decide, show ¬ (5 : Int) = 6 by decide, show ¬ (5 : Int) = 7 by decide, show ¬ (5 : Int) = 8 by decide, show ¬ (5 : Int) = 9 by decide, show ¬ (5 : Int) = 10 by decide, if_false]
    have hk0 := head_at (l := x.kids) (by have := f5 k5; omega)
    repeat' (first
 | refine RunsL.step tabOk hn rfl ?_
 | refine RunsL.nil ?_
 | refine Runs.toRegion 30 rfl ?_
 | ((first | refine RunsL.pe hn rfl rfl rfl ?_ | refine RunsD.pe rfl rfl ?_); first
 | refine ⟨_, pu_callR hM rfl, ?_⟩
 | refine ⟨_, pu_callR (spec_Min _ _) rfl, ?_⟩
 | refine ⟨_, pu_callR (l1In_ac _ _ _) rfl, ?_⟩
 | refine ⟨_, pu_callR hI rfl, ?_⟩)
 | (refine Runs.ctls 30 rfl ?_; first | ((first | refine Runs.cond_yes rfl ?_ ?_ | refine Runs.cond_nno rfl ?_ ?_); · first | omega | rfl | assumption | (simp only [List.length_map]; omega)) | ((first | refine Runs.cond_no rfl ?_ ?_ | refine Runs.cond_nyes rfl ?_ ?_); · first | omega | rfl | assumption | (simp only [List.length_map]; omega)) | refine Runs.ret (ends_ro hm rfl rfl ?_) | exact Runs.ret (ends_cellR hm rfl rfl rfl (Nat.le_of_ble_eq_true rfl) rfl rfl))
 | refine op_box rfl (tl hn rfl) ?_
 | refine RunsD.step tabOk hn rfl rfl ?_
 | refine RunsD.nil ?_
 | refine Runs.toDraw 30 mixed hn rfl (by kernel_rfl) rfl ?_
 | ((first | refine RunsL.pe hn rfl rfl rfl ?_ | refine RunsD.pe rfl rfl ?_); first
 | refine ⟨_, pu_add rfl rfl (by omega), ?_⟩
 | refine ⟨_, pu_indexAddr_map rfl rfl (by omega) (by assumption), ?_⟩
 | refine ⟨_, pu_sub rfl rfl (by omega), ?_⟩
 | refine ⟨_, pu_pick_b rfl rfl rfl, ?_⟩
 | refine ⟨_, pu_mul rfl rfl (by omega), ?_⟩
 | refine ⟨_, pu_build rfl rfl rfl rfl rfl rfl, ?_⟩)
 | ((first | refine RunsL.guard_dec rfl rfl rfl ?_ ?_ | refine RunsL.guard_ndec rfl rfl rfl ?_ ?_ | refine RunsL.guard_nb rfl rfl rfl ?_ ?_ | refine RunsL.guard_b rfl rfl rfl ?_ ?_ | refine RunsD.guard_dec rfl rfl rfl ?_ ?_ | refine RunsD.guard_ndec rfl rfl rfl ?_ ?_ | refine RunsD.guard_nb rfl rfl rfl ?_ ?_ | refine RunsD.guard_b rfl rfl rfl ?_ ?_) <;> intro h <;> try (exfalso; first | omega | contradiction | (simp only [List.length_map] at h; omega))))
    all_goals first
      | exact rr_bool (decide_eq_true (p := OwnV d x v) (hF.2 (by omega))).symm
      | exact rr_bool (decide_eq_false (p := OwnV d x v) fun hh => by have := hF.1 hh; omega).symm
      | exact rr_bool (decide_eq_decide.2 ⟨fun q => hF.2 (by omega), fun q => by have := hF.1 q; omega⟩)
      | (exfalso; omega)
  by_cases k6 : x.kind = 6
  · have hF : OwnV d x v ↔ v.number = 0 ∧ v.bytes.length = 0 ∧ v.items.length = x.kids.length := by
      unfold OwnV
      simp only [k6, if_true, show ¬ (6 : Int) = 1 by decide, show ¬ (6 : Int) = 2 by decide, show ¬ (6 : Int) = 3 by decide, show ¬ (6 : Int) = 4 by decide, show ¬ (6 : Int) = 5 by decide, show ¬ (6 : Int) = 7 by decide, show ¬ (6 : Int) = 8 by decide, show ¬ (6 : Int) = 9 by decide, show ¬ (6 : Int) = 10 by decide, if_false]
    repeat' (first
 | refine RunsL.step tabOk hn rfl ?_
 | refine RunsL.nil ?_
 | refine Runs.toRegion 30 rfl ?_
 | ((first | refine RunsL.pe hn rfl rfl rfl ?_ | refine RunsD.pe rfl rfl ?_); first
 | refine ⟨_, pu_callR hM rfl, ?_⟩
 | refine ⟨_, pu_callR (spec_Min _ _) rfl, ?_⟩
 | refine ⟨_, pu_callR (l1In_ac _ _ _) rfl, ?_⟩
 | refine ⟨_, pu_callR hI rfl, ?_⟩)
 | (refine Runs.ctls 30 rfl ?_; first | ((first | refine Runs.cond_yes rfl ?_ ?_ | refine Runs.cond_nno rfl ?_ ?_); · first | omega | rfl | assumption | (simp only [List.length_map]; omega)) | ((first | refine Runs.cond_no rfl ?_ ?_ | refine Runs.cond_nyes rfl ?_ ?_); · first | omega | rfl | assumption | (simp only [List.length_map]; omega)) | refine Runs.ret (ends_ro hm rfl rfl ?_) | exact Runs.ret (ends_cellR hm rfl rfl rfl (Nat.le_of_ble_eq_true rfl) rfl rfl))
 | refine op_box rfl (tl hn rfl) ?_
 | refine RunsD.step tabOk hn rfl rfl ?_
 | refine RunsD.nil ?_
 | refine Runs.toDraw 30 mixed hn rfl (by kernel_rfl) rfl ?_
 | ((first | refine RunsL.pe hn rfl rfl rfl ?_ | refine RunsD.pe rfl rfl ?_); first
 | refine ⟨_, pu_add rfl rfl (by omega), ?_⟩
 | refine ⟨_, pu_indexAddr_map rfl rfl (by omega) (by assumption), ?_⟩
 | refine ⟨_, pu_sub rfl rfl (by omega), ?_⟩
 | refine ⟨_, pu_pick_b rfl rfl rfl, ?_⟩
 | refine ⟨_, pu_mul rfl rfl (by omega), ?_⟩
 | refine ⟨_, pu_build rfl rfl rfl rfl rfl rfl, ?_⟩)
 | ((first | refine RunsL.guard_dec rfl rfl rfl ?_ ?_ | refine RunsL.guard_ndec rfl rfl rfl ?_ ?_ | refine RunsL.guard_nb rfl rfl rfl ?_ ?_ | refine RunsL.guard_b rfl rfl rfl ?_ ?_ | refine RunsD.guard_dec rfl rfl rfl ?_ ?_ | refine RunsD.guard_ndec rfl rfl rfl ?_ ?_ | refine RunsD.guard_nb rfl rfl rfl ?_ ?_ | refine RunsD.guard_b rfl rfl rfl ?_ ?_) <;> intro h <;> try (exfalso; first | omega | contradiction | (simp only [List.length_map] at h; omega))))
    all_goals first
      | exact rr_bool (decide_eq_true (p := OwnV d x v) (hF.2 (by omega))).symm
      | exact rr_bool (decide_eq_false (p := OwnV d x v) fun hh => by have := hF.1 hh; omega).symm
      | exact rr_bool (decide_eq_decide.2 ⟨fun q => hF.2 (by omega), fun q => by have := hF.1 q; omega⟩)
      | (exfalso; omega)
  by_cases k7 : x.kind = 7
  · have hF : OwnV d x v ↔ v.bytes.length = 0 ∧ v.items.length = 1 ∧ 0 ≤ itemR x v.number 0 := by
      unfold OwnV
      simp only [k7, if_true, show ¬ (7 : Int) = 1 by decide, show ¬ (7 : Int) = 2 by decide, show ¬ (7 : Int) = 3 by decide, show ¬ (7 : Int) = 4 by decide, show ¬ (7 : Int) = 5 by decide, show ¬ (7 : Int) = 6 by decide, show ¬ (7 : Int) = 8 by decide, show ¬ (7 : Int) = 9 by decide, show ¬ (7 : Int) = 10 by decide, if_false]
    repeat' (first
 | refine RunsL.step tabOk hn rfl ?_
 | refine RunsL.nil ?_
 | refine Runs.toRegion 30 rfl ?_
 | ((first | refine RunsL.pe hn rfl rfl rfl ?_ | refine RunsD.pe rfl rfl ?_); first
 | refine ⟨_, pu_callR hM rfl, ?_⟩
 | refine ⟨_, pu_callR (spec_Min _ _) rfl, ?_⟩
 | refine ⟨_, pu_callR (l1In_ac _ _ _) rfl, ?_⟩
 | refine ⟨_, pu_callR hI rfl, ?_⟩)
 | (refine Runs.ctls 30 rfl ?_; first | ((first | refine Runs.cond_yes rfl ?_ ?_ | refine Runs.cond_nno rfl ?_ ?_); · first | omega | rfl | assumption | (simp only [List.length_map]; omega)) | ((first | refine Runs.cond_no rfl ?_ ?_ | refine Runs.cond_nyes rfl ?_ ?_); · first | omega | rfl | assumption | (simp only [List.length_map]; omega)) | refine Runs.ret (ends_ro hm rfl rfl ?_) | exact Runs.ret (ends_cellR hm rfl rfl rfl (Nat.le_of_ble_eq_true rfl) rfl rfl))
 | refine op_box rfl (tl hn rfl) ?_
 | refine RunsD.step tabOk hn rfl rfl ?_
 | refine RunsD.nil ?_
 | refine Runs.toDraw 30 mixed hn rfl (by kernel_rfl) rfl ?_
 | ((first | refine RunsL.pe hn rfl rfl rfl ?_ | refine RunsD.pe rfl rfl ?_); first
 | refine ⟨_, pu_add rfl rfl (by omega), ?_⟩
 | refine ⟨_, pu_indexAddr_map rfl rfl (by omega) (by assumption), ?_⟩
 | refine ⟨_, pu_sub rfl rfl (by omega), ?_⟩
 | refine ⟨_, pu_pick_b rfl rfl rfl, ?_⟩
 | refine ⟨_, pu_mul rfl rfl (by omega), ?_⟩
 | refine ⟨_, pu_build rfl rfl rfl rfl rfl rfl, ?_⟩)
 | ((first | refine RunsL.guard_dec rfl rfl rfl ?_ ?_ | refine RunsL.guard_ndec rfl rfl rfl ?_ ?_ | refine RunsL.guard_nb rfl rfl rfl ?_ ?_ | refine RunsL.guard_b rfl rfl rfl ?_ ?_ | refine RunsD.guard_dec rfl rfl rfl ?_ ?_ | refine RunsD.guard_ndec rfl rfl rfl ?_ ?_ | refine RunsD.guard_nb rfl rfl rfl ?_ ?_ | refine RunsD.guard_b rfl rfl rfl ?_ ?_) <;> intro h <;> try (exfalso; first | omega | contradiction | (simp only [List.length_map] at h; omega))))
    all_goals first
      | exact rr_bool (decide_eq_true (p := OwnV d x v) (hF.2 (by omega))).symm
      | exact rr_bool (decide_eq_false (p := OwnV d x v) fun hh => by have := hF.1 hh; omega).symm
      | exact rr_bool (decide_eq_decide.2 ⟨fun q => hF.2 (by omega), fun q => by have := hF.1 q; omega⟩)
      | (exfalso; omega)
  by_cases k8 : x.kind = 8
  · have hF : OwnV d x v ↔ v.number = 0 ∧ v.bytes.length = 0 ∧ v.items.length ≤ 1 := by
      unfold OwnV
      simp only [k8, if_true, show ¬ (8 : Int) = 1 by decide, show ¬ (8 : Int) = 2 by decide, show ¬ (8 : Int) = 3 by decide, show ¬ (8 : Int) = 4 by decide, show ¬ (8 : Int) = 5 by decide, show ¬ (8 : Int) = 6 by decide, show ¬ (8 : Int) = 7 by decide, show ¬ (8 : Int) = 9 by decide, show ¬ (8 : Int) = 10 by decide, if_false]
    repeat' (first
 | refine RunsL.step tabOk hn rfl ?_
 | refine RunsL.nil ?_
 | refine Runs.toRegion 30 rfl ?_
 | ((first | refine RunsL.pe hn rfl rfl rfl ?_ | refine RunsD.pe rfl rfl ?_); first
 | refine ⟨_, pu_callR hM rfl, ?_⟩
 | refine ⟨_, pu_callR (spec_Min _ _) rfl, ?_⟩
 | refine ⟨_, pu_callR (l1In_ac _ _ _) rfl, ?_⟩
 | refine ⟨_, pu_callR hI rfl, ?_⟩)
 | (refine Runs.ctls 30 rfl ?_; first | ((first | refine Runs.cond_yes rfl ?_ ?_ | refine Runs.cond_nno rfl ?_ ?_); · first | omega | rfl | assumption | (simp only [List.length_map]; omega)) | ((first | refine Runs.cond_no rfl ?_ ?_ | refine Runs.cond_nyes rfl ?_ ?_); · first | omega | rfl | assumption | (simp only [List.length_map]; omega)) | refine Runs.ret (ends_ro hm rfl rfl ?_) | exact Runs.ret (ends_cellR hm rfl rfl rfl (Nat.le_of_ble_eq_true rfl) rfl rfl))
 | refine op_box rfl (tl hn rfl) ?_
 | refine RunsD.step tabOk hn rfl rfl ?_
 | refine RunsD.nil ?_
 | refine Runs.toDraw 30 mixed hn rfl (by kernel_rfl) rfl ?_
 | ((first | refine RunsL.pe hn rfl rfl rfl ?_ | refine RunsD.pe rfl rfl ?_); first
 | refine ⟨_, pu_add rfl rfl (by omega), ?_⟩
 | refine ⟨_, pu_indexAddr_map rfl rfl (by omega) (by assumption), ?_⟩
 | refine ⟨_, pu_sub rfl rfl (by omega), ?_⟩
 | refine ⟨_, pu_pick_b rfl rfl rfl, ?_⟩
 | refine ⟨_, pu_mul rfl rfl (by omega), ?_⟩
 | refine ⟨_, pu_build rfl rfl rfl rfl rfl rfl, ?_⟩)
 | ((first | refine RunsL.guard_dec rfl rfl rfl ?_ ?_ | refine RunsL.guard_ndec rfl rfl rfl ?_ ?_ | refine RunsL.guard_nb rfl rfl rfl ?_ ?_ | refine RunsL.guard_b rfl rfl rfl ?_ ?_ | refine RunsD.guard_dec rfl rfl rfl ?_ ?_ | refine RunsD.guard_ndec rfl rfl rfl ?_ ?_ | refine RunsD.guard_nb rfl rfl rfl ?_ ?_ | refine RunsD.guard_b rfl rfl rfl ?_ ?_) <;> intro h <;> try (exfalso; first | omega | contradiction | (simp only [List.length_map] at h; omega))))
    all_goals first
      | exact rr_bool (decide_eq_true (p := OwnV d x v) (hF.2 (by omega))).symm
      | exact rr_bool (decide_eq_false (p := OwnV d x v) fun hh => by have := hF.1 hh; omega).symm
      | exact rr_bool (decide_eq_decide.2 ⟨fun q => hF.2 (by omega), fun q => by have := hF.1 q; omega⟩)
      | (exfalso; omega)
  by_cases k9 : x.kind = 9
  · have hF : OwnV d x v ↔ v.number = 0 ∧ v.bytes.length = 0 ∧ v.items.length = 1 := by
      unfold OwnV
      simp only [k9, if_true, show ¬ (9 : Int) = 1 by decide, show ¬ (9 : Int) = 2 by decide, show ¬ (9 : Int) = 3 by decide, show ¬ (9 : Int) = 4 by decide, show ¬ (9 : Int) = 5 by decide, show ¬ (9 : Int) = 6 by decide, show ¬ (9 : Int) = 7 by decide, show ¬ (9 : Int) = 8 by decide, show ¬ (9 : Int) = 10 by decide, if_false]
    repeat' (first
 | refine RunsL.step tabOk hn rfl ?_
 | refine RunsL.nil ?_
 | refine Runs.toRegion 30 rfl ?_
 | ((first | refine RunsL.pe hn rfl rfl rfl ?_ | refine RunsD.pe rfl rfl ?_); first
 | refine ⟨_, pu_callR hM rfl, ?_⟩
 | refine ⟨_, pu_callR (spec_Min _ _) rfl, ?_⟩
 | refine ⟨_, pu_callR (l1In_ac _ _ _) rfl, ?_⟩
 | refine ⟨_, pu_callR hI rfl, ?_⟩)
 | (refine Runs.ctls 30 rfl ?_; first | ((first | refine Runs.cond_yes rfl ?_ ?_ | refine Runs.cond_nno rfl ?_ ?_); · first | omega | rfl | assumption | (simp only [List.length_map]; omega)) | ((first | refine Runs.cond_no rfl ?_ ?_ | refine Runs.cond_nyes rfl ?_ ?_); · first | omega | rfl | assumption | (simp only [List.length_map]; omega)) | refine Runs.ret (ends_ro hm rfl rfl ?_) | exact Runs.ret (ends_cellR hm rfl rfl rfl (Nat.le_of_ble_eq_true rfl) rfl rfl))
 | refine op_box rfl (tl hn rfl) ?_
 | refine RunsD.step tabOk hn rfl rfl ?_
 | refine RunsD.nil ?_
 | refine Runs.toDraw 30 mixed hn rfl (by kernel_rfl) rfl ?_
 | ((first | refine RunsL.pe hn rfl rfl rfl ?_ | refine RunsD.pe rfl rfl ?_); first
 | refine ⟨_, pu_add rfl rfl (by omega), ?_⟩
 | refine ⟨_, pu_indexAddr_map rfl rfl (by omega) (by assumption), ?_⟩
 | refine ⟨_, pu_sub rfl rfl (by omega), ?_⟩
 | refine ⟨_, pu_pick_b rfl rfl rfl, ?_⟩
 | refine ⟨_, pu_mul rfl rfl (by omega), ?_⟩
 | refine ⟨_, pu_build rfl rfl rfl rfl rfl rfl, ?_⟩)
 | ((first | refine RunsL.guard_dec rfl rfl rfl ?_ ?_ | refine RunsL.guard_ndec rfl rfl rfl ?_ ?_ | refine RunsL.guard_nb rfl rfl rfl ?_ ?_ | refine RunsL.guard_b rfl rfl rfl ?_ ?_ | refine RunsD.guard_dec rfl rfl rfl ?_ ?_ | refine RunsD.guard_ndec rfl rfl rfl ?_ ?_ | refine RunsD.guard_nb rfl rfl rfl ?_ ?_ | refine RunsD.guard_b rfl rfl rfl ?_ ?_) <;> intro h <;> try (exfalso; first | omega | contradiction | (simp only [List.length_map] at h; omega))))
    all_goals first
      | exact rr_bool (decide_eq_true (p := OwnV d x v) (hF.2 (by omega))).symm
      | exact rr_bool (decide_eq_false (p := OwnV d x v) fun hh => by have := hF.1 hh; omega).symm
      | exact rr_bool (decide_eq_decide.2 ⟨fun q => hF.2 (by omega), fun q => by have := hF.1 q; omega⟩)
      | (exfalso; omega)
  · exfalso
    unfold KindOk at hk
    omega
end Go.Proofs.Ytnecoghfhcimeaa
/- Which values a rule has: the walks of both sides. -/
namespace Go.Proofs.Ytnecoghfhcimeaa
set_option linter.unusedSimpArgs false
set_option linter.unusedVariables false
open Go.RowKit
set_option maxHeartbeats 4000000 in
theorem l9Valid_ac {d : Des} (hG : Good' d) (hl : d.length ≤ 1048576) : ∀ v : Tre, v.Ok → ∀ (r : Nat) (x : Rul), d[r]? = some x → ACv Try.prog 163 [desR d, .int (r : Int), treR v] (.bool (decide (Vld d r v))) := by
  refine Tre.ind fun v ih hv r x hx => ?_
  have hx' : d[(r : Int).toNat]? = some x := hx
  have hr : r < d.length := (List.getElem?_eq_some_iff.1 hx).1
  obtain ⟨o1, o2, o3, o4⟩ := hv.out
  have o3' := o3
  unfold maxLen at o3'
  have hlm : (d.map rulR).length = d.length := List.length_map ..
  have hlv : (v.items.map Tre.cells).length = v.items.length := List.length_map ..
  have hk := kind_at hG hx
  have how := l9Own_ac hl hk v hv
  have hiff := vld_iff (v := v) hx
  refine ac_enter Try.func163 rfl _ Try.ntmps163 (by simp) fun C hn hm => ?_
  by_cases ho : OwnV d x v
  · rw [decide_eq_true ho] at how
    repeat' (first
 | refine RunsL.step tabOk hn rfl ?_
 | refine RunsL.nil ?_
 | refine Runs.toRegion 30 rfl ?_
 | ((first | refine RunsL.pe hn rfl rfl rfl ?_ | refine RunsD.pe rfl rfl ?_); first
 | refine ⟨_, pu_callR how rfl, ?_⟩)
 | (refine Runs.ctls 30 rfl ?_; first | refine Runs.cond_t rfl ?_ | refine Runs.cond_f rfl ?_ | ((first | refine Runs.cond_yes rfl ?_ ?_ | refine Runs.cond_nno rfl ?_ ?_); · first | omega | rfl | assumption | (simp only [List.length_map]; omega)) | ((first | refine Runs.cond_no rfl ?_ ?_ | refine Runs.cond_nyes rfl ?_ ?_); · first | omega | rfl | assumption | (simp only [List.length_map]; omega)) | refine Runs.ret (ends_ro hm rfl rfl ?_) | exact Runs.ret (ends_cellR hm rfl rfl rfl (Nat.le_of_ble_eq_true rfl) rfl rfl))
 | refine op_box rfl (tl hn rfl) ?_
 | refine op_alloc (tl hn rfl) ?_
 | refine op_storeN rfl rfl rfl rfl (Nat.le_of_ble_eq_true rfl) ?_
 | refine RunsD.step tabOk hn rfl rfl ?_
 | refine RunsD.nil ?_
 | refine Runs.toDraw 30 mixed hn rfl (by kernel_rfl) rfl ?_
 | ((first | refine RunsL.pe hn rfl rfl rfl ?_ | refine RunsD.pe rfl rfl ?_); first
 | refine ⟨_, pu_add rfl rfl (by omega), ?_⟩
 | refine ⟨_, pu_indexAddr_map rfl rfl (by omega) (by assumption), ?_⟩
 | refine ⟨_, pu_sub rfl rfl (by omega), ?_⟩
 | refine ⟨_, pu_pick_b rfl rfl rfl, ?_⟩
 | refine ⟨_, pu_mul rfl rfl (by omega), ?_⟩
 | refine ⟨_, pu_build rfl rfl rfl rfl rfl rfl, ?_⟩))
    refine Runs.loopN 30 rfl (fun j => [(3, .obj 0 0), (5, .obj 1 0), (7, .obj 2 0), (8, .int (j : Int))]) (fun _ => [⟨38, 0, [.ro (rulsR d)]⟩, ⟨29, 0, [.int v.number, .ro (bytesR v.bytes), .ro (tresR v.items)]⟩, ⟨52, 0, [.str x.name, .int x.kind, .int x.size, .bool x.little, .ro (bytesR x.bytes), .ro (strsR x.names), .ro (intsR x.tags), .ro (intsR x.kids)]⟩]) (fun j => ∀ (i : Nat) y, i < j → v.items[i]? = some y → Vld d (itemR x v.number i).toNat y) v.items.length 0 (Nat.zero_le _) (fun i y h => absurd h (by omega)) ⟨rfl, rfl, rfl, rfl, trivial⟩ rfl fun j hj hQ next => ?_
    by_cases hlt : j < v.items.length
    · obtain ⟨y, hy⟩ : ∃ y, v.items[(j : Int).toNat]? = some y := ⟨_, List.getElem?_eq_getElem hlt⟩
      have hy' : v.items[j]? = some y := hy
      have hm' := List.mem_of_getElem? hy'
      obtain ⟨k0, k1⟩ := own_item hG hx ho hlt
      have hI := l9Item_ac hk v.number (j : Int) (by omega)
      have hcall := ih y hm' (o4 y hm') (itemR x v.number j).toNat _ (List.getElem?_eq_getElem (by omega))
      rw [show (((itemR x v.number j).toNat : Nat) : Int) = itemR x v.number j by omega] at hcall
      by_cases hz : Vld d (itemR x v.number j).toNat y
      · rw [decide_eq_true hz] at hcall
        repeat' (first
 | refine RunsL.step tabOk hn rfl ?_
 | refine RunsL.nil ?_
 | refine Runs.toRegion 30 rfl ?_
 | ((first | refine RunsL.pe hn rfl rfl rfl ?_ | refine RunsD.pe rfl rfl ?_); first
 | refine ⟨_, pu_callR hI rfl, ?_⟩
 | refine ⟨_, pu_callR hcall rfl, ?_⟩
 | refine ⟨_, pu_loadN_eq rfl (Tre.cells_eq _) rfl, ?_⟩)
 | (refine Runs.ctls 30 rfl ?_; first | refine Runs.cond_t rfl ?_ | refine Runs.cond_f rfl ?_ | ((first | refine Runs.cond_yes rfl ?_ ?_ | refine Runs.cond_nno rfl ?_ ?_); · first | omega | rfl | assumption | (simp only [List.length_map]; omega)) | ((first | refine Runs.cond_no rfl ?_ ?_ | refine Runs.cond_nyes rfl ?_ ?_); · first | omega | rfl | assumption | (simp only [List.length_map]; omega)) | refine Runs.ret (ends_ro hm rfl rfl ?_) | exact Runs.ret (ends_cellR hm rfl rfl rfl (Nat.le_of_ble_eq_true rfl) rfl rfl))
 | refine op_box rfl (tl hn rfl) ?_
 | refine op_alloc (tl hn rfl) ?_
 | refine op_storeN rfl rfl rfl rfl (Nat.le_of_ble_eq_true rfl) ?_
 | refine RunsD.step tabOk hn rfl rfl ?_
 | refine RunsD.nil ?_
 | refine Runs.toDraw 30 mixed hn rfl (by kernel_rfl) rfl ?_
 | ((first | refine RunsL.pe hn rfl rfl rfl ?_ | refine RunsD.pe rfl rfl ?_); first
 | refine ⟨_, pu_add rfl rfl (by omega), ?_⟩
 | refine ⟨_, pu_indexAddr_map rfl rfl (by omega) (by assumption), ?_⟩
 | refine ⟨_, pu_sub rfl rfl (by omega), ?_⟩
 | refine ⟨_, pu_pick_b rfl rfl rfl, ?_⟩
 | refine ⟨_, pu_mul rfl rfl (by omega), ?_⟩
 | refine ⟨_, pu_build rfl rfl rfl rfl rfl rfl, ?_⟩))
        refine next _ _ ⟨rfl, rfl, rfl, rfl, trivial⟩ hlt (fun i z hi hz' => ?_) rfl
        by_cases e : i = j
        · subst e; rw [hy'] at hz'; injection hz' with hz'; rw [← hz']; exact hz
        · exact hQ i z (by omega) hz'
      · rw [decide_eq_false hz] at hcall
        repeat' (first
 | refine RunsL.step tabOk hn rfl ?_
 | refine RunsL.nil ?_
 | refine Runs.toRegion 30 rfl ?_
 | ((first | refine RunsL.pe hn rfl rfl rfl ?_ | refine RunsD.pe rfl rfl ?_); first
 | refine ⟨_, pu_callR hI rfl, ?_⟩
 | refine ⟨_, pu_callR hcall rfl, ?_⟩
 | refine ⟨_, pu_loadN_eq rfl (Tre.cells_eq _) rfl, ?_⟩)
 | (refine Runs.ctls 30 rfl ?_; first | refine Runs.cond_t rfl ?_ | refine Runs.cond_f rfl ?_ | ((first | refine Runs.cond_yes rfl ?_ ?_ | refine Runs.cond_nno rfl ?_ ?_); · first | omega | rfl | assumption | (simp only [List.length_map]; omega)) | ((first | refine Runs.cond_no rfl ?_ ?_ | refine Runs.cond_nyes rfl ?_ ?_); · first | omega | rfl | assumption | (simp only [List.length_map]; omega)) | refine Runs.ret (ends_ro hm rfl rfl ?_) | exact Runs.ret (ends_cellR hm rfl rfl rfl (Nat.le_of_ble_eq_true rfl) rfl rfl))
 | refine op_box rfl (tl hn rfl) ?_
 | refine op_alloc (tl hn rfl) ?_
 | refine op_storeN rfl rfl rfl rfl (Nat.le_of_ble_eq_true rfl) ?_
 | refine RunsD.step tabOk hn rfl rfl ?_
 | refine RunsD.nil ?_
 | refine Runs.toDraw 30 mixed hn rfl (by kernel_rfl) rfl ?_
 | ((first | refine RunsL.pe hn rfl rfl rfl ?_ | refine RunsD.pe rfl rfl ?_); first
 | refine ⟨_, pu_add rfl rfl (by omega), ?_⟩
 | refine ⟨_, pu_indexAddr_map rfl rfl (by omega) (by assumption), ?_⟩
 | refine ⟨_, pu_sub rfl rfl (by omega), ?_⟩
 | refine ⟨_, pu_pick_b rfl rfl rfl, ?_⟩
 | refine ⟨_, pu_mul rfl rfl (by omega), ?_⟩
 | refine ⟨_, pu_build rfl rfl rfl rfl rfl rfl, ?_⟩))
        exact rr_bool (decide_eq_false fun hh => hz ((hiff.1 hh).2 j y hy')).symm
    · repeat' (first
 | refine RunsL.step tabOk hn rfl ?_
 | refine RunsL.nil ?_
 | refine Runs.toRegion 30 rfl ?_
 | (refine Runs.ctls 30 rfl ?_; first | refine Runs.cond_t rfl ?_ | refine Runs.cond_f rfl ?_ | ((first | refine Runs.cond_yes rfl ?_ ?_ | refine Runs.cond_nno rfl ?_ ?_); · first | omega | rfl | assumption | (simp only [List.length_map]; omega)) | ((first | refine Runs.cond_no rfl ?_ ?_ | refine Runs.cond_nyes rfl ?_ ?_); · first | omega | rfl | assumption | (simp only [List.length_map]; omega)) | refine Runs.ret (ends_ro hm rfl rfl ?_) | exact Runs.ret (ends_cellR hm rfl rfl rfl (Nat.le_of_ble_eq_true rfl) rfl rfl))
 | refine op_box rfl (tl hn rfl) ?_
 | refine op_alloc (tl hn rfl) ?_
 | refine op_storeN rfl rfl rfl rfl (Nat.le_of_ble_eq_true rfl) ?_
 | refine RunsD.step tabOk hn rfl rfl ?_
 | refine RunsD.nil ?_
 | refine Runs.toDraw 30 mixed hn rfl (by kernel_rfl) rfl ?_
 | ((first | refine RunsL.pe hn rfl rfl rfl ?_ | refine RunsD.pe rfl rfl ?_); first
 | refine ⟨_, pu_add rfl rfl (by omega), ?_⟩
 | refine ⟨_, pu_indexAddr_map rfl rfl (by omega) (by assumption), ?_⟩
 | refine ⟨_, pu_sub rfl rfl (by omega), ?_⟩
 | refine ⟨_, pu_pick_b rfl rfl rfl, ?_⟩
 | refine ⟨_, pu_mul rfl rfl (by omega), ?_⟩
 | refine ⟨_, pu_build rfl rfl rfl rfl rfl rfl, ?_⟩))
      exact rr_bool (decide_eq_true (hiff.2 ⟨ho, fun i y hy => hQ i y (by have := (List.getElem?_eq_some_iff.1 hy).1; omega) hy⟩)).symm
  · rw [decide_eq_false ho] at how
    repeat' (first
 | refine RunsL.step tabOk hn rfl ?_
 | refine RunsL.nil ?_
 | refine Runs.toRegion 30 rfl ?_
 | ((first | refine RunsL.pe hn rfl rfl rfl ?_ | refine RunsD.pe rfl rfl ?_); first
 | refine ⟨_, pu_callR how rfl, ?_⟩)
 | (refine Runs.ctls 30 rfl ?_; first | refine Runs.cond_t rfl ?_ | refine Runs.cond_f rfl ?_ | ((first | refine Runs.cond_yes rfl ?_ ?_ | refine Runs.cond_nno rfl ?_ ?_); · first | omega | rfl | assumption | (simp only [List.length_map]; omega)) | ((first | refine Runs.cond_no rfl ?_ ?_ | refine Runs.cond_nyes rfl ?_ ?_); · first | omega | rfl | assumption | (simp only [List.length_map]; omega)) | refine Runs.ret (ends_ro hm rfl rfl ?_) | exact Runs.ret (ends_cellR hm rfl rfl rfl (Nat.le_of_ble_eq_true rfl) rfl rfl))
 | refine op_box rfl (tl hn rfl) ?_
 | refine op_alloc (tl hn rfl) ?_
 | refine op_storeN rfl rfl rfl rfl (Nat.le_of_ble_eq_true rfl) ?_
 | refine RunsD.step tabOk hn rfl rfl ?_
 | refine RunsD.nil ?_
 | refine Runs.toDraw 30 mixed hn rfl (by kernel_rfl) rfl ?_
 | ((first | refine RunsL.pe hn rfl rfl rfl ?_ | refine RunsD.pe rfl rfl ?_); first
 | refine ⟨_, pu_add rfl rfl (by omega), ?_⟩
 | refine ⟨_, pu_indexAddr_map rfl rfl (by omega) (by assumption), ?_⟩
 | refine ⟨_, pu_sub rfl rfl (by omega), ?_⟩
 | refine ⟨_, pu_pick_b rfl rfl rfl, ?_⟩
 | refine ⟨_, pu_mul rfl rfl (by omega), ?_⟩
 | refine ⟨_, pu_build rfl rfl rfl rfl rfl rfl, ?_⟩))
    exact rr_bool (decide_eq_false fun hh => ho (hiff.1 hh).1).symm
def VldI (d : Des) (r : Int) (v : Tre) : Prop := Kn d r ∧ Vld d r.toNat v
noncomputable instance (d : Des) (r : Int) (v : Tre) : Decidable (VldI d r v) := Classical.propDecidable _
set_option maxHeartbeats 4000000 in
theorem spec_IsValidValue (d : Des) (ho : DesOk d) (hd : dtotal d ≤ 1048576) (r : Int) (v : Tre) (hv : v.Ok) : ACv Try.prog 138 [desR d, .int r, treR v] (.bool (decide (VldI d r v))) := by
  have hkn := l7Rule_ac d ho hd r
  have et : dtotal d = d.length + (d.map Rul.total).sum := rfl
  by_cases hK : Kn d r
  · obtain ⟨n, x, rfl, hn', hx⟩ := kn_nat hK
    have hc := l9Valid_ac hK.1 (by omega) v hv n x hx
    rw [decide_eq_true hK] at hkn
    refine ac_enter Try.func138 rfl _ Try.ntmps138 (by simp) fun C hn hm => ?_
    repeat' (first
 | refine RunsL.step tabOk hn rfl ?_
 | refine RunsL.nil ?_
 | refine Runs.toRegion 30 rfl ?_
 | (refine RunsL.pe hn rfl rfl rfl ?_; first
 | refine ⟨_, pu_callR hkn rfl, ?_⟩
 | refine ⟨_, pu_callR hc rfl, ?_⟩)
 | (refine Runs.ctls 30 rfl ?_; first | ((first | refine Runs.cond_yes rfl ?_ ?_ | refine Runs.cond_nno rfl ?_ ?_); · first | omega | rfl | assumption | (simp only [List.length_map]; omega)) | ((first | refine Runs.cond_no rfl ?_ ?_ | refine Runs.cond_nyes rfl ?_ ?_); · first | omega | rfl | assumption | (simp only [List.length_map]; omega)) | refine Runs.ret (ends_ro hm rfl rfl ?_) | exact Runs.ret (ends_cellR hm rfl rfl rfl (Nat.le_of_ble_eq_true rfl) rfl rfl))
 | refine op_box rfl (tl hn rfl) ?_
 | ((first | refine RunsL.guard_dec rfl rfl rfl ?_ ?_ | refine RunsL.guard_ndec rfl rfl rfl ?_ ?_ | refine RunsL.guard_nb rfl rfl rfl ?_ ?_ | refine RunsL.guard_b rfl rfl rfl ?_ ?_) <;> intro h <;> try (exfalso; first | omega | contradiction | (simp only [List.length_map] at h; omega))))
    all_goals exact rr_bool (decide_eq_decide.2 ⟨fun h => ⟨hK, h⟩, fun h => h.2⟩)
  · rw [decide_eq_false hK] at hkn
    refine ac_enter Try.func138 rfl _ Try.ntmps138 (by simp) fun C hn hm => ?_
    repeat' (first
 | refine RunsL.step tabOk hn rfl ?_
 | refine RunsL.nil ?_
 | refine Runs.toRegion 30 rfl ?_
 | (refine RunsL.pe hn rfl rfl rfl ?_; first
 | refine ⟨_, pu_callR hkn rfl, ?_⟩)
 | (refine Runs.ctls 30 rfl ?_; first | ((first | refine Runs.cond_yes rfl ?_ ?_ | refine Runs.cond_nno rfl ?_ ?_); · first | omega | rfl | assumption | (simp only [List.length_map]; omega)) | ((first | refine Runs.cond_no rfl ?_ ?_ | refine Runs.cond_nyes rfl ?_ ?_); · first | omega | rfl | assumption | (simp only [List.length_map]; omega)) | refine Runs.ret (ends_ro hm rfl rfl ?_) | exact Runs.ret (ends_cellR hm rfl rfl rfl (Nat.le_of_ble_eq_true rfl) rfl rfl))
 | refine op_box rfl (tl hn rfl) ?_
 | ((first | refine RunsL.guard_dec rfl rfl rfl ?_ ?_ | refine RunsL.guard_ndec rfl rfl rfl ?_ ?_ | refine RunsL.guard_nb rfl rfl rfl ?_ ?_ | refine RunsL.guard_b rfl rfl rfl ?_ ?_) <;> intro h <;> try (exfalso; first | omega | contradiction | (simp only [List.length_map] at h; omega))))
    all_goals exact rr_bool (decide_eq_false fun h => hK h.1).symm
end Go.Proofs.Ytnecoghfhcimeaa
/- The draw of a value of a rule: what it may be; the kinds without items. -/
namespace Go.Proofs.Ytnecoghfhcimeaa
set_option linter.unusedSimpArgs false
set_option linter.unusedVariables false
open Go.RowKit
open AV (Mem Keeps)
def tb (r : Nat) : Nat := 16 * 4 ^ r
structure MkV (d : Des) (r : Nat) (v : Tre) : Prop where
  vld : Vld d r v
  ok : v.Ok
  total : v.total ≤ tb r
def treRR (v : Tre) : RR := .agg [.ro (.int v.number), .row 5 1 (v.bytes.map RV.u8), .row 29 3 (v.items.flatMap Tre.cells)]
theorem treRR_ok (v : Tre) : Seals (treRR v) (treR v) := by
  have h1 := seals_bytes 5 v.bytes
  have h2 := seals_rowN 29 3 v.items Tre.cells fun x _ => Tre.cells_len x
  rw [← List.flatMap_def] at h2
  unfold treRR
  rw [Seals]
  refine ⟨_, rfl, ?_⟩
  rw [SealsL]
  refine ⟨_, _, rfl, by rw [Seals], ?_⟩
  rw [SealsL]
  refine ⟨_, _, rfl, h1, ?_⟩
  rw [SealsL]
  refine ⟨_, _, rfl, h2, ?_⟩
  rw [SealsL]
def rowT (l : List Tre) : Ob := ⟨29, 3, (l.flatMap Tre.cells).map .ro⟩
theorem harv_tre {σ : List Ob} {v : Tre} {a b : Nat} (h1 : σ[a]? = some (rowU v.bytes)) (h2 : σ[b]? = some (rowT v.items)) : Harv σ (treRR v) (.agg [.int v.number, .own a, .own b]) [a, b] := by
  simp only [treRR, Harv, Harvs, rowU, rowT] at *
  exact ⟨_, rfl, _, _, [], _, rfl, rfl, ⟨rfl, rfl⟩, _, _, [a], _, rfl, rfl, ⟨a, rfl, h1, rfl⟩, _, _, [b], _, rfl, rfl, ⟨b, rfl, h2, rfl⟩, rfl, rfl⟩
def QTre (p : Tre → Prop) (rr : RR) : Prop := ∃ v, Seals rr (treR v) ∧ p v
theorem qtre_ok {p : Tre → Prop} : ∀ rr, QTre p rr → ∃ r, Seals rr r ∧ ∃ v, r = treR v ∧ p v := by
  rintro _ ⟨v, hs, hv⟩
  exact ⟨_, hs, v, rfl, hv⟩
theorem ends_tre {C : Ctx} {fn : Func} {ct : TypeId} {b : List UInt8} {g : Nat} {u : Value} {p : Tre → Prop} {env : Env} {σ : List Ob} {i h : Int} {more : List Ob} {t j : Nat} {v : Tre} {tt : TypeId} {x y : Nat} (hm : ∀ x, C.mu x → x = g) (hr : fn.results = #[.cell t 29]) (hσ : σ = curOb ct u i h :: more) (ht : look env 0 = .pin 0 0 g) (hi : CurOk b i)
    (h1 : look env t = .obj j 0) (h2 : σ[j]? = some ⟨tt, 0, [.int v.number, .own x, .own y]⟩) (k1 : σ[x]? = some (rowU v.bytes)) (k2 : σ[y]? = some (rowT v.items)) (hn : [x, y].Nodup) (h0 : 0 ∉ [x, y]) (hQ : p v) : ∀ a w, Sim C ⟨env, σ⟩ a w → EndsD Try.prog C fn ct b g u (QTre p) a w :=
  endsD1 hm hr hσ ht hi (.agg [.int v.number, .own x, .own y]) (by
    simp only [ResV]
    exact ⟨j, 0, _, h1, h2, .inr ⟨3, by infer_instance, Nat.le_refl _, rfl⟩⟩) (treRR v) [x, y] (harv_tre k1 k2) hn h0 ⟨v, treRR_ok v, hQ⟩
theorem ends_treD {C : Ctx} {fn : Func} {ct : TypeId} {b : List UInt8} {g : Nat} {u : Value} {p : Tre → Prop} {env : Env} {σ : List Ob} {i h : Int} {more : List Ob} {t j : Nat} {v : Tre} {tt : TypeId} {x : Nat} (hm : ∀ x, C.mu x → x = g) (hr : fn.results = #[.cell t 29]) (hσ : σ = curOb ct u i h :: more) (ht : look env 0 = .pin 0 0 g) (hi : CurOk b i)
    (h1 : look env t = .obj j 0) (h2 : σ[j]? = some ⟨tt, 0, [.int v.number, .own x, .ro (tresR v.items)]⟩) (k1 : σ[x]? = some (rowU v.bytes)) (h0 : 0 ∉ [x]) (hQ : p v) : ∀ a w, Sim C ⟨env, σ⟩ a w → EndsD Try.prog C fn ct b g u (QTre p) a w :=
  endsD1 hm hr hσ ht hi (.agg [.int v.number, .own x, .ro (tresR v.items)]) (by
    simp only [ResV]
    exact ⟨j, 0, _, h1, h2, .inr ⟨3, by infer_instance, Nat.le_refl _, rfl⟩⟩) (.agg [.ro (.int v.number), .row 5 1 (v.bytes.map RV.u8), .ro (tresR v.items)]) [x] (by
    simp only [Harv, Harvs, rowU] at *
    exact ⟨_, rfl, _, _, [], _, rfl, rfl, ⟨rfl, rfl⟩, _, _, [x], _, rfl, rfl, ⟨x, rfl, k1, rfl⟩, _, _, [], _, rfl, rfl, ⟨rfl, rfl⟩, rfl, rfl⟩) (by simp) h0 ⟨v, by
    have h1 := seals_bytes 5 v.bytes
    rw [Seals]
    refine ⟨_, rfl, ?_⟩
    rw [SealsL]
    refine ⟨_, _, rfl, by rw [Seals], ?_⟩
    rw [SealsL]
    refine ⟨_, _, rfl, h1, ?_⟩
    rw [SealsL]
    refine ⟨_, _, rfl, by rw [Seals], ?_⟩
    rw [SealsL], hQ⟩
theorem pow8_ge {s : Int} (h : 1 ≤ s ∧ s ≤ 4) : 256 ≤ pow8 s := by
  rcases (show s = 1 ∨ s = 2 ∨ s = 3 ∨ s = 4 by omega) with rfl | rfl | rfl | rfl <;> decide
theorem mk_number {d : Des} {r : Nat} {x : Rul} (hx : d[r]? = some x) (k : x.kind = 1) (hs : 1 ≤ x.size ∧ x.size ≤ 4) {n : Int} (h : 0 ≤ n ∧ n < mn (pow8 x.size) 70000) : MkV d r (.mk n [] []) := by
  have h1 : n ≤ pow8 x.size - 1 ∧ n < 70000 := by unfold mn at h; split at h <;> omega
  refine ⟨(vld_iff hx).2 ⟨?_, by simp [Tre.items]⟩, by simp [Tre.Ok, Tre.OkL, I64, maxLen]; omega, by simp [Tre.total, Tre.totalL]⟩
  unfold OwnV
  rw [if_pos k]
  exact ⟨⟨h.1, h1.1⟩, rfl, rfl⟩
set_option maxHeartbeats 8000000 in
theorem l9Make1_d (b : List UInt8) (hb : b.length ≤ 1048576) (d : Des) (hD : DrawD d) (r : Nat) (x : Rul) (hx : d[(r : Int).toNat]? = some x) (k : x.kind = 1) (most : Int) : Drw Try.prog 123 66 b [desR d, .int (r : Int), .int most] (QTre (MkV d r)) := by
  have hx' : d[r]? = some x := hx
  obtain ⟨k', _, _, hr, hk', _, _⟩ := hD.kinds hx'
  have hs : 1 ≤ x.size ∧ x.size ≤ 4 := by have := hr.hsize.1 (by omega); omega
  have hP := l2Power_ac x.size hs
  have hM := spec_Min (pow8 x.size) 70000
  refine drw_enter Try.func66 rfl _ Try.ntmps66 (by simp) fun C g u i h hn hm hu hi => ?_
  have hp : 1 ≤ mn (pow8 x.size) 70000 ∧ mn (pow8 x.size) 70000 ≤ 70000 := by have := pow8_ge hs; unfold mn; split <;> omega
  repeat' (first
 | (refine op_drawI (l1Below_d b hb _ (by omega)) rfl hu hi rfl (LendsPL.ros [.int _]) rfl (by first | rfl | repeat' (first | rfl | exact clns_ro _ | refine clnO_cons ?_ ?_)) (tl hn rfl) ?_; intro i h y hi hy; obtain ⟨hya, hyb⟩ := hy.2 (by omega))
 | refine RunsL.step tabOk hn rfl ?_
 | refine RunsL.nil ?_
 | refine Runs.toRegion 30 rfl ?_
 | ((first | refine RunsL.pe hn rfl rfl rfl ?_ | refine RunsD.pe rfl rfl ?_); first
 | refine ⟨_, pu_callR hP rfl, ?_⟩
 | refine ⟨_, pu_callR hM rfl, ?_⟩
 | refine ⟨_, pu_buildS rfl, ?_⟩)
 | (refine Runs.ctls 30 rfl ?_; first | ((first | refine Runs.cond_yes rfl ?_ ?_ | refine Runs.cond_nno rfl ?_ ?_); · first | omega | rfl | assumption | (simp only [List.length_map]; omega)) | ((first | refine Runs.cond_no rfl ?_ ?_ | refine Runs.cond_nyes rfl ?_ ?_); · first | omega | rfl | assumption | (simp only [List.length_map]; omega)) | refine Runs.ret (ends_ro hm rfl rfl ?_) | exact Runs.ret (ends_cellR hm rfl rfl rfl (Nat.le_of_ble_eq_true rfl) rfl rfl))
 | refine op_box rfl (tl hn rfl) ?_
 | refine op_storeF rfl rfl rfl rfl (Nat.le_of_ble_eq_true rfl) ?_
 | refine op_alloc (tl hn rfl) ?_
 | refine op_storeN rfl rfl rfl rfl (Nat.le_of_ble_eq_true rfl) ?_
 | ((first | refine RunsL.pe hn rfl rfl rfl ?_ | refine RunsD.pe rfl rfl ?_); first
 | refine ⟨_, pu_add rfl rfl (by omega), ?_⟩
 | refine ⟨_, pu_indexAddr_map rfl rfl (by omega) (by assumption), ?_⟩
 | refine ⟨_, pu_sub rfl rfl (by omega), ?_⟩
 | refine ⟨_, pu_pick_b rfl rfl rfl, ?_⟩
 | refine ⟨_, pu_mul rfl rfl (by omega), ?_⟩
 | refine ⟨_, pu_build rfl rfl rfl rfl rfl rfl, ?_⟩)
 | ((first | refine RunsL.guard_dec rfl rfl rfl ?_ ?_ | refine RunsL.guard_ndec rfl rfl rfl ?_ ?_ | refine RunsL.guard_nb rfl rfl rfl ?_ ?_ | refine RunsL.guard_b rfl rfl rfl ?_ ?_ | refine RunsD.guard_dec rfl rfl rfl ?_ ?_ | refine RunsD.guard_ndec rfl rfl rfl ?_ ?_ | refine RunsD.guard_nb rfl rfl rfl ?_ ?_ | refine RunsD.guard_b rfl rfl rfl ?_ ?_) <;> intro h <;> try (exfalso; first | omega | contradiction | (simp only [List.length_map] at h; omega))))
  refine Runs.nilCell (e := 5) (sz := 1) 2 1 (by decide) rfl rfl ?_
  refine Runs.nilCell (e := 29) (sz := 3) 2 2 (by decide) rfl rfl ?_
  exact Runs.ctls 30 rfl (Runs.ret (ends_tre (v := .mk y [] []) (j := 2) (x := 5) (y := 6) hm rfl rfl rfl hi rfl rfl rfl rfl (by decide) (by decide) (mk_number hx' k hs ⟨hya, hyb⟩)))
theorem mk_flat {d : Des} {r : Nat} {x : Rul} (hx : d[r]? = some x) {l : List UInt8} (hl : l.length ≤ 10) (ho : OwnV d x (.mk 0 l [])) : MkV d r (.mk 0 l []) := by
  have h4 : 0 < 4 ^ r := Nat.pow_pos (by omega)
  exact ⟨(vld_iff hx).2 ⟨ho, by simp [Tre.items]⟩, by simp [Tre.Ok, Tre.OkL, I64, maxLen]; omega, by simp [Tre.total, Tre.totalL, tb]; omega⟩
set_option maxHeartbeats 8000000 in
theorem l9Make2_d (b : List UInt8) (hb : b.length ≤ 1048576) (d : Des) (hD : DrawD d) (r : Nat) (x : Rul) (hx : d[(r : Int).toNat]? = some x) (k : x.kind = 2) (most : Int) : Drw Try.prog 123 66 b [desR d, .int (r : Int), .int most] (QTre (MkV d r)) := by
  have hx' : d[r]? = some x := hx
  refine drw_enter Try.func66 rfl _ Try.ntmps66 (by simp) fun C g u i h hn hm hu hi => ?_
  repeat' (first
 | refine RunsL.step tabOk hn rfl ?_
 | refine RunsL.nil ?_
 | refine Runs.toRegion 30 rfl ?_
 | ((first | refine RunsL.pe hn rfl rfl rfl ?_ | refine RunsD.pe rfl rfl ?_); first
 | refine ⟨_, pu_buildS rfl, ?_⟩)
 | (refine Runs.ctls 30 rfl ?_; first | ((first | refine Runs.cond_yes rfl ?_ ?_ | refine Runs.cond_nno rfl ?_ ?_); · first | omega | rfl | assumption | (simp only [List.length_map]; omega)) | ((first | refine Runs.cond_no rfl ?_ ?_ | refine Runs.cond_nyes rfl ?_ ?_); · first | omega | rfl | assumption | (simp only [List.length_map]; omega)) | refine Runs.ret (ends_ro hm rfl rfl ?_) | exact Runs.ret (ends_cellR hm rfl rfl rfl (Nat.le_of_ble_eq_true rfl) rfl rfl))
 | refine op_box rfl (tl hn rfl) ?_
 | refine op_alloc (tl hn rfl) ?_
 | refine op_storeN rfl rfl rfl rfl (Nat.le_of_ble_eq_true rfl) ?_
 | ((first | refine RunsL.pe hn rfl rfl rfl ?_ | refine RunsD.pe rfl rfl ?_); first
 | refine ⟨_, pu_add rfl rfl (by omega), ?_⟩
 | refine ⟨_, pu_indexAddr_map rfl rfl (by omega) (by assumption), ?_⟩
 | refine ⟨_, pu_sub rfl rfl (by omega), ?_⟩
 | refine ⟨_, pu_pick_b rfl rfl rfl, ?_⟩
 | refine ⟨_, pu_mul rfl rfl (by omega), ?_⟩
 | refine ⟨_, pu_build rfl rfl rfl rfl rfl rfl, ?_⟩)
 | ((first | refine RunsL.guard_dec rfl rfl rfl ?_ ?_ | refine RunsL.guard_ndec rfl rfl rfl ?_ ?_ | refine RunsL.guard_nb rfl rfl rfl ?_ ?_ | refine RunsL.guard_b rfl rfl rfl ?_ ?_ | refine RunsD.guard_dec rfl rfl rfl ?_ ?_ | refine RunsD.guard_ndec rfl rfl rfl ?_ ?_ | refine RunsD.guard_nb rfl rfl rfl ?_ ?_ | refine RunsD.guard_b rfl rfl rfl ?_ ?_) <;> intro h <;> try (exfalso; first | omega | contradiction | (simp only [List.length_map] at h; omega))))
  refine Runs.nilCell (e := 5) (sz := 1) 2 1 (by decide) rfl rfl ?_
  refine Runs.nilCell (e := 29) (sz := 3) 2 2 (by decide) rfl rfl ?_
  exact Runs.ctls 30 rfl (Runs.ret (ends_tre (v := .mk 0 [] []) (j := 2) (x := 5) (y := 6) hm rfl rfl rfl hi rfl rfl rfl rfl (by decide) (by decide) (mk_flat hx' (by simp) (by unfold OwnV; rw [if_neg (by omega), if_pos k]; exact ⟨rfl, rfl, rfl⟩))))
set_option maxHeartbeats 8000000 in
theorem l9Make3_d (b : List UInt8) (hb : b.length ≤ 1048576) (d : Des) (hD : DrawD d) (r : Nat) (x : Rul) (hx : d[(r : Int).toNat]? = some x) (k : x.kind = 3) (most : Int) : Drw Try.prog 123 66 b [desR d, .int (r : Int), .int most] (QTre (MkV d r)) := by
  have hx' : d[r]? = some x := hx
  obtain ⟨k', _, _, hr, hk', _, _⟩ := hD.kinds hx'
  have hs : 1 ≤ x.size ∧ x.size ≤ 4 := hr.hsize.2.1 (by omega)
  obtain ⟨n3, hn3⟩ : ∃ n3 : Nat, x.size = n3 := ⟨x.size.toNat, by omega⟩
  have hB := l1Bytes_d b hb n3 (by omega)
  rw [← hn3] at hB
  refine drw_enter Try.func66 rfl _ Try.ntmps66 (by simp) fun C g u i h hn hm hu hi => ?_
  repeat' (first
 | (refine op_drawO hB rfl hu hi rfl rfl rfl (by first | rfl | repeat' (first | rfl | exact clns_ro _ | refine clnO_cons ?_ ?_)) (tl hn rfl) ?_; rintro i h _ hi ⟨z, rfl, hz⟩)
 | refine RunsL.step tabOk hn rfl ?_
 | refine RunsL.nil ?_
 | refine Runs.toRegion 30 rfl ?_
 | ((first | refine RunsL.pe hn rfl rfl rfl ?_ | refine RunsD.pe rfl rfl ?_); first
 | refine ⟨_, pu_buildS rfl, ?_⟩)
 | (refine Runs.ctls 30 rfl ?_; first | ((first | refine Runs.cond_yes rfl ?_ ?_ | refine Runs.cond_nno rfl ?_ ?_); · first | omega | rfl | assumption | (simp only [List.length_map]; omega)) | ((first | refine Runs.cond_no rfl ?_ ?_ | refine Runs.cond_nyes rfl ?_ ?_); · first | omega | rfl | assumption | (simp only [List.length_map]; omega)) | refine Runs.ret (ends_ro hm rfl rfl ?_) | exact Runs.ret (ends_cellR hm rfl rfl rfl (Nat.le_of_ble_eq_true rfl) rfl rfl))
 | refine op_box rfl (tl hn rfl) ?_
 | refine op_storeF rfl rfl rfl rfl (Nat.le_of_ble_eq_true rfl) ?_
 | refine op_alloc (tl hn rfl) ?_
 | refine op_storeN rfl rfl rfl rfl (Nat.le_of_ble_eq_true rfl) ?_
 | ((first | refine RunsL.pe hn rfl rfl rfl ?_ | refine RunsD.pe rfl rfl ?_); first
 | refine ⟨_, pu_add rfl rfl (by omega), ?_⟩
 | refine ⟨_, pu_indexAddr_map rfl rfl (by omega) (by assumption), ?_⟩
 | refine ⟨_, pu_sub rfl rfl (by omega), ?_⟩
 | refine ⟨_, pu_pick_b rfl rfl rfl, ?_⟩
 | refine ⟨_, pu_mul rfl rfl (by omega), ?_⟩
 | refine ⟨_, pu_build rfl rfl rfl rfl rfl rfl, ?_⟩)
 | ((first | refine RunsL.guard_dec rfl rfl rfl ?_ ?_ | refine RunsL.guard_ndec rfl rfl rfl ?_ ?_ | refine RunsL.guard_nb rfl rfl rfl ?_ ?_ | refine RunsL.guard_b rfl rfl rfl ?_ ?_ | refine RunsD.guard_dec rfl rfl rfl ?_ ?_ | refine RunsD.guard_ndec rfl rfl rfl ?_ ?_ | refine RunsD.guard_nb rfl rfl rfl ?_ ?_ | refine RunsD.guard_b rfl rfl rfl ?_ ?_) <;> intro h <;> try (exfalso; first | omega | contradiction | (simp only [List.length_map] at h; omega))))
  refine Runs.nilCell (e := 29) (sz := 3) 2 2 (by decide) rfl rfl ?_
  exact Runs.ctls 30 rfl (Runs.ret (ends_tre (v := .mk 0 z []) (j := 2) (x := 5) (y := 6) hm rfl rfl rfl hi rfl rfl rfl rfl (by decide) (by decide) (mk_flat hx' (by omega) (by unfold OwnV; rw [if_neg (by omega), if_neg (by omega), if_pos k]; exact ⟨rfl, by show (z.length : Int) = _; omega, rfl⟩))))
set_option maxHeartbeats 8000000 in
theorem l9Make4_d (b : List UInt8) (hb : b.length ≤ 1048576) (d : Des) (hD : DrawD d) (r : Nat) (x : Rul) (hx : d[(r : Int).toNat]? = some x) (k : x.kind = 4) (most : Int) (hmo : 0 ≤ most) : Drw Try.prog 123 66 b [desR d, .int (r : Int), .int most] (QTre (MkV d r)) := by
  have hx' : d[r]? = some x := hx
  obtain ⟨k', _, _, hr, hk', _, _⟩ := hD.kinds hx'
  obtain ⟨x0, hI, hkd⟩ := hr.hkids.1 (by omega)
  have hlim := hD.int hI.up.1
  have hM := spec_Min most 6
  have hm6 : 0 ≤ mn most 6 ∧ mn most 6 ≤ 6 := by unfold mn; split <;> omega
  refine drw_enter Try.func66 rfl _ Try.ntmps66 (by simp) fun C g u i h hn hm hu hi => ?_
  repeat' (first
 | (refine op_drawI (l1Below_d b hb _ (by omega)) rfl hu hi rfl (LendsPL.ros [.int _]) rfl (by first | rfl | repeat' (first | rfl | exact clns_ro _ | refine clnO_cons ?_ ?_)) (tl hn rfl) ?_; intro i h y hi hy; obtain ⟨n3, rfl, hn3⟩ : ∃ n3 : Nat, y = n3 ∧ n3 ≤ 6 := ⟨y.toNat, by unfold Bel at hy; omega, by unfold Bel at hy; omega⟩)
 | (refine op_drawO (l1Bytes_d b hb n3 (by omega)) rfl hu hi rfl rfl rfl (by first | rfl | repeat' (first | rfl | exact clns_ro _ | refine clnO_cons ?_ ?_)) (tl hn rfl) ?_; rintro i h _ hi ⟨z, rfl, hz⟩)
 | refine RunsL.step tabOk hn rfl ?_
 | refine RunsL.nil ?_
 | refine Runs.toRegion 30 rfl ?_
 | ((first | refine RunsL.pe hn rfl rfl rfl ?_ | refine RunsD.pe rfl rfl ?_); first
 | refine ⟨_, pu_buildS rfl, ?_⟩
 | refine ⟨_, pu_callR hM rfl, ?_⟩)
 | (refine Runs.ctls 30 rfl ?_; first | refine Runs.cond_t rfl ?_ | refine Runs.cond_f rfl ?_ | ((first | refine Runs.cond_yes rfl ?_ ?_ | refine Runs.cond_nno rfl ?_ ?_); · first | omega | rfl | assumption | (simp only [List.length_map]; omega)) | ((first | refine Runs.cond_no rfl ?_ ?_ | refine Runs.cond_nyes rfl ?_ ?_); · first | omega | rfl | assumption | (simp only [List.length_map]; omega)) | refine Runs.ret (ends_ro hm rfl rfl ?_) | exact Runs.ret (ends_cellR hm rfl rfl rfl (Nat.le_of_ble_eq_true rfl) rfl rfl))
 | refine op_box rfl (tl hn rfl) ?_
 | refine op_storeF rfl rfl rfl rfl (Nat.le_of_ble_eq_true rfl) ?_
 | refine op_alloc (tl hn rfl) ?_
 | refine op_storeN rfl rfl rfl rfl (Nat.le_of_ble_eq_true rfl) ?_
 | ((first | refine RunsL.pe hn rfl rfl rfl ?_ | refine RunsD.pe rfl rfl ?_); first
 | refine ⟨_, pu_add rfl rfl (by omega), ?_⟩
 | refine ⟨_, pu_indexAddr_map rfl rfl (by omega) (by assumption), ?_⟩
 | refine ⟨_, pu_sub rfl rfl (by omega), ?_⟩
 | refine ⟨_, pu_pick_b rfl rfl rfl, ?_⟩
 | refine ⟨_, pu_mul rfl rfl (by omega), ?_⟩
 | refine ⟨_, pu_build rfl rfl rfl rfl rfl rfl, ?_⟩)
 | ((first | refine RunsL.guard_dec rfl rfl rfl ?_ ?_ | refine RunsL.guard_ndec rfl rfl rfl ?_ ?_ | refine RunsL.guard_nb rfl rfl rfl ?_ ?_ | refine RunsL.guard_b rfl rfl rfl ?_ ?_ | refine RunsD.guard_dec rfl rfl rfl ?_ ?_ | refine RunsD.guard_ndec rfl rfl rfl ?_ ?_ | refine RunsD.guard_nb rfl rfl rfl ?_ ?_ | refine RunsD.guard_b rfl rfl rfl ?_ ?_) <;> intro h <;> try (exfalso; first | omega | contradiction | (simp only [List.length_map] at h; omega))))
  refine Runs.nilCell (e := 29) (sz := 3) 2 2 (by decide) rfl rfl ?_
  exact Runs.ctls 30 rfl (Runs.ret (ends_tre (v := .mk 0 z []) (j := 2) (x := 5) (y := 6) hm rfl rfl rfl hi rfl rfl rfl rfl (by decide) (by decide) (mk_flat hx' (by omega) (by
    unfold OwnV; rw [if_neg (by omega), if_neg (by omega), if_neg (by omega), if_pos k]
    refine ⟨rfl, ?_, rfl⟩
    show (z.length : Int) ≤ _
    rw [hkd]
    show (z.length : Int) ≤ mn 400 (lim d x0)
    unfold mn; split <;> omega))))
end Go.Proofs.Ytnecoghfhcimeaa
