/- Gathered texts. -/
import Derived.Test.YtnecoghfhcimeaaGat0
import Derived.Test.YtnecoghfhcimeaaGat1
import Derived.Test.YtnecoghfhcimeaaGat2
import Derived.Test.YtnecoghfhcimeaaGat3
import Derived.Test.YtnecoghfhcimeaaGat4
import Derived.Test.YtnecoghfhcimeaaGat5
/- Counting first bytes, common ones: both sides. -/
namespace Go.Proofs.Ytnecoghfhcimeaa
set_option linter.unusedSimpArgs false
set_option linter.unusedVariables false
open Go.RowKit
def fst (p : Nat → Bool) : Nat → Int
  | 0 => -1
  | n + 1 => if 0 ≤ fst p n then fst p n else if p n = true then (n : Int) else -1
theorem fst_no {p : Nat → Bool} : ∀ {n : Nat}, (∀ i, i < n → p i = false) → fst p n = -1
  | 0, _ => rfl
  | n + 1, h => by
    rw [fst, fst_no fun i hi => h i (by omega), if_neg (by omega), h n (by omega)]
    rfl
theorem fst_yes {p : Nat → Bool} {j : Nat} (h0 : ∀ i, i < j → p i = false) (h : p j = true) : ∀ {n : Nat}, j < n → fst p n = j
  | 0, hn => by omega
  | n + 1, hn => by
    rw [fst]
    by_cases e : j = n
    · subst e
      rw [fst_no h0, if_neg (by omega), if_pos h]
    · rw [fst_yes h0 h (by omega : j < n), if_pos (by omega)]
theorem fst_ge {p : Nat → Bool} : ∀ {n : Nat}, fst p n = -1 ∨ (0 ≤ fst p n ∧ fst p n < n)
  | 0 => .inl rfl
  | n + 1 => by
    rw [fst]
    rcases fst_ge (p := p) (n := n) with h | h
    · rw [h, if_neg (by omega)]
      split
      · exact .inr ⟨by omega, by omega⟩
      · exact .inl rfl
    · rw [if_pos h.1]; exact .inr ⟨h.1, by omega⟩
def cnt (p : Nat → Bool) : Nat → Nat
  | 0 => 0
  | n + 1 => cnt p n + (if p n = true then 1 else 0)
theorem cnt_le (p : Nat → Bool) : ∀ n, cnt p n ≤ n
  | 0 => Nat.le_refl _
  | n + 1 => by have := cnt_le p n; rw [cnt]; split <;> omega
theorem cnt_zero {p : Nat → Bool} : ∀ {n : Nat}, (∀ i, i < n → p i = false) → cnt p n = 0
  | 0, _ => rfl
  | n + 1, h => by rw [cnt, cnt_zero fun i hi => h i (by omega), h n (by omega)]; rfl
theorem cnt_yes {p : Nat → Bool} {n : Nat} (h : p n = true) : cnt p (n + 1) = cnt p n + 1 := by rw [cnt, if_pos h]
theorem cnt_not {p : Nat → Bool} {n : Nat} (h : p n = false) : cnt p (n + 1) = cnt p n := by rw [cnt, h]; rfl
noncomputable def canN (d : Des) (rule : Int) : Nat → Bool := fun b => canB d rule (b : Int)
theorem canN_yes {d : Des} {r b : Nat} (h : Kn d (r : Int)) (hb : b < 256) : canN d r b = stB d (r + 1) r b := canB_yes ⟨h, by omega, by omega⟩
theorem canN_no {d : Des} {rule : Int} (h : ¬ Kn d rule) (b : Nat) : canN d rule b = false := canB_no fun h' => h h'.1
theorem canN_eq (d : Des) (a : Int) (j : Nat) : canN d a j = canB d a (j : Int) := rfl
attribute [irreducible] canN
set_option maxHeartbeats 4000000 in
theorem impl_CountFirstBytes (d : Des) (ho : DesOk d) (hd : dtotal d ≤ 1048576) (rule : Int) : ACv Try.prog 38 [desR d, .int rule] (.int (cnt (canN d rule) 256 : Nat)) := by
  have hk := known_ac d ho hd rule
  by_cases hK : Kn d rule
  · obtain ⟨r, rfl⟩ : ∃ r : Nat, rule = r := ⟨rule.toNat, by have := hK.2; omega⟩
    have hs := startBytes_ac d ho hK.1 r (by have := hK.2; omega)
    rw [boolsR_congr (v := canN d r) fun j hj => (canN_yes hK hj).symm] at hs
    refine ac_enter Try.func38 rfl _ Try.ntmps38 (by simp) fun C hn hm => ?_
    repeat' (first
 | refine RunsL.step tabOk hn rfl ?_
 | refine RunsL.nil ?_
 | refine Runs.toRegion 30 rfl ?_
 | (refine RunsL.pe hn rfl rfl rfl ?_; first
 | refine ⟨_, pu_callR hk rfl, ?_⟩
 | refine ⟨_, pu_callR hs rfl, ?_⟩)
 | (refine Runs.ctls 30 rfl ?_; first | ((first | refine Runs.cond_yes rfl ?_ ?_ | refine Runs.cond_nno rfl ?_ ?_); · first | omega | rfl | assumption | (simp only [List.length_map]; omega)) | ((first | refine Runs.cond_no rfl ?_ ?_ | refine Runs.cond_nyes rfl ?_ ?_); · first | omega | rfl | assumption | (simp only [List.length_map]; omega)) | refine Runs.cond_b rfl (fun h => ?_) (fun h => ?_) | refine Runs.ret (ends_ro hm rfl rfl ?_) | exact Runs.ret (ends_cellR hm rfl rfl rfl (Nat.le_of_ble_eq_true rfl) rfl rfl))
 | refine op_box rfl (tl hn rfl) ?_
 | (refine RunsL.pe hn rfl rfl rfl ?_; first
 | refine ⟨_, pu_add rfl rfl (by omega), ?_⟩
        ))
    refine Runs.loopN 30 rfl (fun j => [(14, .ro (.agg (boolsR 256 (canN d r)))), (5, .int (cnt (canN d r) j : Nat)), (15, .int (j : Int))]) (fun _ => [⟨38, 0, [.ro (rulsR d)]⟩]) (fun _ => True) 256 0 (Nat.zero_le _) trivial ⟨rfl, rfl, rfl, trivial⟩ rfl fun j hj _ next => ?_
    have hle := cnt_le (canN d r) j
    by_cases hlt : j < 256
    · cases hb : canN d r j with
      | true =>
        have hix : ∀ i, (j : Int).toNat = i → canN d r i = true := fun i hi => by rw [← hi]; exact hb
        repeat' (first
 | (refine Runs.ctls 30 rfl ?_; first | refine Runs.cond_yes rfl (by omega) ?_ | refine Runs.cond_no rfl (by omega) ?_)
 | refine RunsL.step tabOk hn rfl ?_
 | refine RunsL.nil ?_
 | refine Runs.toRegion 30 rfl ?_
 | (refine RunsL.pe hn rfl rfl rfl ?_; first
 | refine ⟨_, pu_indexA (n := 256) Try.underlying100 rfl rfl (by omega) (by omega) rfl, ?_⟩)
 | (refine Runs.ctls 30 rfl ?_; first | ((first | refine Runs.cond_yes rfl ?_ ?_ | refine Runs.cond_nno rfl ?_ ?_); · first | omega | rfl | assumption | (simp only [List.length_map]; omega)) | ((first | refine Runs.cond_no rfl ?_ ?_ | refine Runs.cond_nyes rfl ?_ ?_); · first | omega | rfl | assumption | (simp only [List.length_map]; omega)) | refine Runs.cond_b rfl (fun h => ?_) (fun h => ?_) | refine Runs.ret (ends_ro hm rfl rfl ?_) | exact Runs.ret (ends_cellR hm rfl rfl rfl (Nat.le_of_ble_eq_true rfl) rfl rfl))
 | refine op_box rfl (tl hn rfl) ?_
 | (refine RunsL.pe hn rfl rfl rfl ?_; first
 | refine ⟨_, pu_add rfl rfl (by omega), ?_⟩
            ))
        · exact next _ _ ⟨rfl, by rw [cnt_yes hb]; rfl, rfl, trivial⟩ hlt trivial rfl
        · rename_i h; rw [hix _ rfl] at h; cases h
      | false =>
        have hix : ∀ i, (j : Int).toNat = i → canN d r i = false := fun i hi => by rw [← hi]; exact hb
        repeat' (first
 | (refine Runs.ctls 30 rfl ?_; first | refine Runs.cond_yes rfl (by omega) ?_ | refine Runs.cond_no rfl (by omega) ?_)
 | refine RunsL.step tabOk hn rfl ?_
 | refine RunsL.nil ?_
 | refine Runs.toRegion 30 rfl ?_
 | (refine RunsL.pe hn rfl rfl rfl ?_; first
 | refine ⟨_, pu_indexA (n := 256) Try.underlying100 rfl rfl (by omega) (by omega) rfl, ?_⟩)
 | (refine Runs.ctls 30 rfl ?_; first | ((first | refine Runs.cond_yes rfl ?_ ?_ | refine Runs.cond_nno rfl ?_ ?_); · first | omega | rfl | assumption | (simp only [List.length_map]; omega)) | ((first | refine Runs.cond_no rfl ?_ ?_ | refine Runs.cond_nyes rfl ?_ ?_); · first | omega | rfl | assumption | (simp only [List.length_map]; omega)) | refine Runs.cond_b rfl (fun h => ?_) (fun h => ?_) | refine Runs.ret (ends_ro hm rfl rfl ?_) | exact Runs.ret (ends_cellR hm rfl rfl rfl (Nat.le_of_ble_eq_true rfl) rfl rfl))
 | refine op_box rfl (tl hn rfl) ?_
 | (refine RunsL.pe hn rfl rfl rfl ?_; first
 | refine ⟨_, pu_add rfl rfl (by omega), ?_⟩
            ))
        · rename_i h; rw [hix _ rfl] at h; cases h
        · exact next _ _ ⟨rfl, by rw [cnt_not hb]; rfl, rfl, trivial⟩ hlt trivial rfl
    · obtain rfl : j = 256 := by omega
      repeat' (first
 | (refine Runs.ctls 30 rfl ?_; first | refine Runs.cond_yes rfl (by omega) ?_ | refine Runs.cond_no rfl (by omega) ?_)
 | refine RunsL.step tabOk hn rfl ?_
 | refine RunsL.nil ?_
 | refine Runs.toRegion 30 rfl ?_
 | (refine Runs.ctls 30 rfl ?_; first | ((first | refine Runs.cond_yes rfl ?_ ?_ | refine Runs.cond_nno rfl ?_ ?_); · first | omega | rfl | assumption | (simp only [List.length_map]; omega)) | ((first | refine Runs.cond_no rfl ?_ ?_ | refine Runs.cond_nyes rfl ?_ ?_); · first | omega | rfl | assumption | (simp only [List.length_map]; omega)) | refine Runs.cond_b rfl (fun h => ?_) (fun h => ?_) | refine Runs.ret (ends_ro hm rfl rfl ?_) | exact Runs.ret (ends_cellR hm rfl rfl rfl (Nat.le_of_ble_eq_true rfl) rfl rfl))
 | refine op_box rfl (tl hn rfl) ?_
 | (refine RunsL.pe hn rfl rfl rfl ?_; first
 | refine ⟨_, pu_add rfl rfl (by omega), ?_⟩
          ))
      exact rr_int rfl
  · rw [cnt_zero fun i _ => canN_no hK i]
    refine ac_enter Try.func38 rfl _ Try.ntmps38 (by simp) fun C hn hm => ?_
    repeat' (first
 | refine RunsL.step tabOk hn rfl ?_
 | refine RunsL.nil ?_
 | refine Runs.toRegion 30 rfl ?_
 | (refine RunsL.pe hn rfl rfl rfl ?_; first
 | refine ⟨_, pu_callR hk rfl, ?_⟩)
 | (refine Runs.ctls 30 rfl ?_; first | ((first | refine Runs.cond_yes rfl ?_ ?_ | refine Runs.cond_nno rfl ?_ ?_); · first | omega | rfl | assumption | (simp only [List.length_map]; omega)) | ((first | refine Runs.cond_no rfl ?_ ?_ | refine Runs.cond_nyes rfl ?_ ?_); · first | omega | rfl | assumption | (simp only [List.length_map]; omega)) | refine Runs.cond_b rfl (fun h => ?_) (fun h => ?_) | refine Runs.ret (ends_ro hm rfl rfl ?_) | exact Runs.ret (ends_cellR hm rfl rfl rfl (Nat.le_of_ble_eq_true rfl) rfl rfl))
 | refine op_box rfl (tl hn rfl) ?_
 | (refine RunsL.pe hn rfl rfl rfl ?_; first
 | refine ⟨_, pu_add rfl rfl (by omega), ?_⟩
        ))
    all_goals exact rr_int rfl
noncomputable def com (d : Des) (a b : Int) : Int := fst (fun x => canN d a x && canN d b x) 256
set_option maxHeartbeats 8000000 in
theorem impl_CommonStart (d : Des) (ho : DesOk d) (hd : dtotal d ≤ 1048576) (a b : Int) : ACv Try.prog 40 [desR d, .int a, .int b] (.int (com d a b)) := by
  have hk := known_ac d ho hd a
  have hh := hasRule_ac d b
  by_cases hK : Kn d a ∧ HasR d b
  · obtain ⟨r, rfl⟩ : ∃ r : Nat, a = r := ⟨a.toNat, by have := hK.1.2; omega⟩
    obtain ⟨q, rfl⟩ : ∃ q : Nat, b = q := ⟨b.toNat, by have := hK.2; omega⟩
    have hK1 := hK.1
    have hK2 := hK.2
    have hKq : Kn d (q : Int) := ⟨hK.1.1, hK.2⟩
    have hs := startBytes_ac d ho hK.1.1 r (by have := hK.1.2; omega)
    have hs2 := startBytes_ac d ho hK.1.1 q (by have := hK.2; omega)
    rw [boolsR_congr (v := canN d r) fun j hj => (canN_yes hK1 hj).symm] at hs
    rw [boolsR_congr (v := canN d q) fun j hj => (canN_yes hKq hj).symm] at hs2
    refine ac_enter Try.func40 rfl _ Try.ntmps40 (by simp) fun C hn hm => ?_
    repeat' (first
 | refine Runs.toDrawT (id := 3) 30 [] [0, 1, 2, 3, 4, 5, 6, 7] 8 [(6, 100, List.replicate 256 (.bool false)), (7, 100, List.replicate 256 (.bool false))] mixed hn rfl (by kernel_rfl) rfl .nil (by decide) (by decide) (by decide) ?_
 | refine op_storeA (n := 256) rfl rfl rfl (by rw [List.length_map, List.length_replicate]) ?_
 | refine RunsT.nil ?_
 | refine RunsT.step tabOk rfl rfl (fun _ => rfl) (by decide) ?_
 | refine RunsT.pur (fun _ => pu_callR hk rfl) (by decide) rfl rfl ?_
 | refine RunsT.pur (fun _ => pu_callR hh rfl) (by decide) rfl rfl ?_
 | refine RunsT.pur (fun _ => pu_callR hs rfl) (by decide) rfl rfl ?_
 | refine RunsT.pur (fun _ => pu_callR hs2 rfl) (by decide) rfl rfl ?_
 | refine RunsT.pur (fun _ => pu_add rfl rfl (by omega)) (by decide) rfl rfl ?_
 | refine RunsT.alloc (p := 0) rfl inferInstance ?_
 | refine RunsT.alloc (p := 1) rfl inferInstance ?_
 | refine RunsL.step tabOk hn rfl ?_
 | refine RunsL.nil ?_
 | refine Runs.toRegion 30 rfl ?_
 | ((first | refine RunsL.pe hn rfl rfl rfl ?_ | refine RunsD.pe rfl rfl ?_); first
 | refine ⟨_, pu_callR hk rfl, ?_⟩
 | refine ⟨_, pu_callR hh rfl, ?_⟩
 | refine ⟨_, pu_callR hs rfl, ?_⟩
 | refine ⟨_, pu_callR hs2 rfl, ?_⟩)
 | (refine Runs.ctls 30 rfl ?_; first | refine Runs.cond_t rfl ?_ | refine Runs.cond_f rfl ?_ | ((first | refine Runs.cond_yes rfl ?_ ?_ | refine Runs.cond_nno rfl ?_ ?_); · first | omega | rfl | assumption | (simp only [List.length_map]; omega)) | ((first | refine Runs.cond_no rfl ?_ ?_ | refine Runs.cond_nyes rfl ?_ ?_); · first | omega | rfl | assumption | (simp only [List.length_map]; omega)) | refine Runs.cond_b rfl (fun h => ?_) (fun h => ?_) | refine Runs.ret (ends_ro hm rfl rfl ?_) | exact Runs.ret (ends_cellR hm rfl rfl rfl (Nat.le_of_ble_eq_true rfl) rfl rfl))
 | refine op_box rfl (tl hn rfl) ?_
 | ((first | refine RunsL.pe hn rfl rfl rfl ?_ | refine RunsD.pe rfl rfl ?_); first
 | refine ⟨_, pu_add rfl rfl (by omega), ?_⟩
 | refine ⟨_, pu_indexAddr_map rfl rfl (by omega) (by assumption), ?_⟩
 | refine ⟨_, pu_sub rfl rfl (by omega), ?_⟩
 | refine ⟨_, pu_pick_b rfl rfl rfl, ?_⟩
 | refine ⟨_, pu_mul rfl rfl (by omega), ?_⟩
 | refine ⟨_, pu_build rfl rfl rfl rfl rfl rfl, ?_⟩)
 | ((first | refine RunsL.guard_dec rfl rfl rfl ?_ ?_ | refine RunsL.guard_ndec rfl rfl rfl ?_ ?_ | refine RunsL.guard_nb rfl rfl rfl ?_ ?_ | refine RunsL.guard_b rfl rfl rfl ?_ ?_ | refine RunsD.guard_dec rfl rfl rfl ?_ ?_ | refine RunsD.guard_ndec rfl rfl rfl ?_ ?_ | refine RunsD.guard_nb rfl rfl rfl ?_ ?_ | refine RunsD.guard_b rfl rfl rfl ?_ ?_) <;> intro h <;> try (exfalso; first | omega | contradiction | (simp only [List.length_map] at h; omega))))
    refine Runs.loopN 30 rfl (fun j => [(7, .obj 1 0), (8, .obj 2 0), (26, .int (j : Int))]) (fun _ => [⟨38, 0, [.ro (rulsR d)]⟩, ⟨100, 0, bools 256 (canN d r)⟩, ⟨100, 0, bools 256 (canN d q)⟩]) (fun j => ∀ i, i < j → (canN d r i && canN d q i) = false) 256 0 (Nat.zero_le _) (fun i h => absurd h (by omega)) ⟨rfl, rfl, rfl, trivial⟩ rfl fun j hj hQ next => ?_
    by_cases hlt : j < 256
    · have step : (canN d r j && canN d q j) = false → ∀ i, i < j + 1 → (canN d r i && canN d q i) = false := fun hf i hi => by
        by_cases e : i = j
        · subst e; exact hf
        · exact hQ i (by omega)
      have ej : 0 + (j : Int).toNat * 1 = j := by omega
      repeat' (first
 | (refine Runs.ctls 30 rfl ?_; first | refine Runs.cond_yes rfl (by omega) ?_ | refine Runs.cond_no rfl (by omega) ?_)
 | refine RunsL.guard_t rfl rfl rfl ?_
 | ((first | refine RunsL.pe hn rfl rfl rfl ?_ | refine RunsD.pe rfl rfl ?_); first
 | refine ⟨_, pu_load_at (tt := 4) (n := 256) rfl rfl rfl (by omega), ?_⟩)
 | refine RunsL.step tabOk hn rfl ?_
 | refine RunsL.nil ?_
 | refine Runs.toRegion 30 rfl ?_
 | ((first | refine RunsL.pe hn rfl rfl rfl ?_ | refine RunsD.pe rfl rfl ?_); first
 | refine ⟨_, pu_indexAddr_arr rfl rfl (by omega) (by omega), ?_⟩)
 | (refine Runs.ctls 30 rfl ?_; first | refine Runs.cond_t rfl ?_ | refine Runs.cond_f rfl ?_ | ((first | refine Runs.cond_yes rfl ?_ ?_ | refine Runs.cond_nno rfl ?_ ?_); · first | omega | rfl | assumption | (simp only [List.length_map]; omega)) | ((first | refine Runs.cond_no rfl ?_ ?_ | refine Runs.cond_nyes rfl ?_ ?_); · first | omega | rfl | assumption | (simp only [List.length_map]; omega)) | refine Runs.cond_b rfl (fun h => ?_) (fun h => ?_) | refine Runs.ret (ends_ro hm rfl rfl ?_) | exact Runs.ret (ends_cellR hm rfl rfl rfl (Nat.le_of_ble_eq_true rfl) rfl rfl))
 | refine op_box rfl (tl hn rfl) ?_
 | ((first | refine RunsL.pe hn rfl rfl rfl ?_ | refine RunsD.pe rfl rfl ?_); first
 | refine ⟨_, pu_add rfl rfl (by omega), ?_⟩
 | refine ⟨_, pu_indexAddr_map rfl rfl (by omega) (by assumption), ?_⟩
 | refine ⟨_, pu_sub rfl rfl (by omega), ?_⟩
 | refine ⟨_, pu_pick_b rfl rfl rfl, ?_⟩
 | refine ⟨_, pu_mul rfl rfl (by omega), ?_⟩
 | refine ⟨_, pu_build rfl rfl rfl rfl rfl rfl, ?_⟩)
 | ((first | refine RunsL.guard_dec rfl rfl rfl ?_ ?_ | refine RunsL.guard_ndec rfl rfl rfl ?_ ?_ | refine RunsL.guard_nb rfl rfl rfl ?_ ?_ | refine RunsL.guard_b rfl rfl rfl ?_ ?_ | refine RunsD.guard_dec rfl rfl rfl ?_ ?_ | refine RunsD.guard_ndec rfl rfl rfl ?_ ?_ | refine RunsD.guard_nb rfl rfl rfl ?_ ?_ | refine RunsD.guard_b rfl rfl rfl ?_ ?_) <;> intro h <;> try (exfalso; first | omega | contradiction | (simp only [List.length_map] at h; omega))))
      all_goals first
        | (rename_i g1
           refine rr_int (fst_yes hQ ?_ hlt).symm
           rw [ej] at g1 h
           rw [g1, h]; rfl)
        | (rename_i g1
           refine next _ _ ⟨rfl, rfl, rfl, trivial⟩ hlt (step ?_) rfl
           rw [ej] at g1 h
           rw [g1, h]; rfl)
        | (refine next _ _ ⟨rfl, rfl, rfl, trivial⟩ hlt (step ?_) rfl
           rw [ej] at h
           rw [h]; rfl)
    · obtain rfl : j = 256 := by omega
      repeat' (first
 | (refine Runs.ctls 30 rfl ?_; first | refine Runs.cond_yes rfl (by omega) ?_ | refine Runs.cond_no rfl (by omega) ?_)
 | refine RunsL.step tabOk hn rfl ?_
 | refine RunsL.nil ?_
 | refine Runs.toRegion 30 rfl ?_
 | (refine Runs.ctls 30 rfl ?_; first | refine Runs.cond_t rfl ?_ | refine Runs.cond_f rfl ?_ | ((first | refine Runs.cond_yes rfl ?_ ?_ | refine Runs.cond_nno rfl ?_ ?_); · first | omega | rfl | assumption | (simp only [List.length_map]; omega)) | ((first | refine Runs.cond_no rfl ?_ ?_ | refine Runs.cond_nyes rfl ?_ ?_); · first | omega | rfl | assumption | (simp only [List.length_map]; omega)) | refine Runs.cond_b rfl (fun h => ?_) (fun h => ?_) | refine Runs.ret (ends_ro hm rfl rfl ?_) | exact Runs.ret (ends_cellR hm rfl rfl rfl (Nat.le_of_ble_eq_true rfl) rfl rfl))
 | refine op_box rfl (tl hn rfl) ?_
 | ((first | refine RunsL.pe hn rfl rfl rfl ?_ | refine RunsD.pe rfl rfl ?_); first
 | refine ⟨_, pu_add rfl rfl (by omega), ?_⟩
 | refine ⟨_, pu_indexAddr_map rfl rfl (by omega) (by assumption), ?_⟩
 | refine ⟨_, pu_sub rfl rfl (by omega), ?_⟩
 | refine ⟨_, pu_pick_b rfl rfl rfl, ?_⟩
 | refine ⟨_, pu_mul rfl rfl (by omega), ?_⟩
 | refine ⟨_, pu_build rfl rfl rfl rfl rfl rfl, ?_⟩)
 | ((first | refine RunsL.guard_dec rfl rfl rfl ?_ ?_ | refine RunsL.guard_ndec rfl rfl rfl ?_ ?_ | refine RunsL.guard_nb rfl rfl rfl ?_ ?_ | refine RunsL.guard_b rfl rfl rfl ?_ ?_ | refine RunsD.guard_dec rfl rfl rfl ?_ ?_ | refine RunsD.guard_ndec rfl rfl rfl ?_ ?_ | refine RunsD.guard_nb rfl rfl rfl ?_ ?_ | refine RunsD.guard_b rfl rfl rfl ?_ ?_) <;> intro h <;> try (exfalso; first | omega | contradiction | (simp only [List.length_map] at h; omega))))
      exact rr_int (fst_no hQ).symm
  · have e : com d a b = -1 := fst_no fun i _ => by
      by_cases h1 : Kn d a
      · rw [canN_no fun h2 => hK ⟨h1, h2.2⟩]; simp
      · rw [canN_no h1]; rfl
    rw [e]
    clear e
    refine ac_enter Try.func40 rfl _ Try.ntmps40 (by simp) fun C hn hm => ?_
    by_cases h1 : Kn d a
    · have h2 : ¬ HasR d b := fun h => hK ⟨h1, h⟩
      repeat' (first
 | refine RunsL.step tabOk hn rfl ?_
 | refine RunsL.nil ?_
 | refine Runs.toRegion 30 rfl ?_
 | ((first | refine RunsL.pe hn rfl rfl rfl ?_ | refine RunsD.pe rfl rfl ?_); first
 | refine ⟨_, pu_callR hk rfl, ?_⟩
 | refine ⟨_, pu_callR hh rfl, ?_⟩)
 | (refine Runs.ctls 30 rfl ?_; first | refine Runs.cond_t rfl ?_ | refine Runs.cond_f rfl ?_ | ((first | refine Runs.cond_yes rfl ?_ ?_ | refine Runs.cond_nno rfl ?_ ?_); · first | omega | rfl | assumption | (simp only [List.length_map]; omega)) | ((first | refine Runs.cond_no rfl ?_ ?_ | refine Runs.cond_nyes rfl ?_ ?_); · first | omega | rfl | assumption | (simp only [List.length_map]; omega)) | refine Runs.cond_b rfl (fun h => ?_) (fun h => ?_) | refine Runs.ret (ends_ro hm rfl rfl ?_) | exact Runs.ret (ends_cellR hm rfl rfl rfl (Nat.le_of_ble_eq_true rfl) rfl rfl))
 | refine op_box rfl (tl hn rfl) ?_
 | ((first | refine RunsL.pe hn rfl rfl rfl ?_ | refine RunsD.pe rfl rfl ?_); first
 | refine ⟨_, pu_add rfl rfl (by omega), ?_⟩
 | refine ⟨_, pu_indexAddr_map rfl rfl (by omega) (by assumption), ?_⟩
 | refine ⟨_, pu_sub rfl rfl (by omega), ?_⟩
 | refine ⟨_, pu_pick_b rfl rfl rfl, ?_⟩
 | refine ⟨_, pu_mul rfl rfl (by omega), ?_⟩
 | refine ⟨_, pu_build rfl rfl rfl rfl rfl rfl, ?_⟩)
 | ((first | refine RunsL.guard_dec rfl rfl rfl ?_ ?_ | refine RunsL.guard_ndec rfl rfl rfl ?_ ?_ | refine RunsL.guard_nb rfl rfl rfl ?_ ?_ | refine RunsL.guard_b rfl rfl rfl ?_ ?_ | refine RunsD.guard_dec rfl rfl rfl ?_ ?_ | refine RunsD.guard_ndec rfl rfl rfl ?_ ?_ | refine RunsD.guard_nb rfl rfl rfl ?_ ?_ | refine RunsD.guard_b rfl rfl rfl ?_ ?_) <;> intro h <;> try (exfalso; first | omega | contradiction | (simp only [List.length_map] at h; omega))))
      all_goals exact rr_int rfl
    · repeat' (first
 | refine RunsL.step tabOk hn rfl ?_
 | refine RunsL.nil ?_
 | refine Runs.toRegion 30 rfl ?_
 | ((first | refine RunsL.pe hn rfl rfl rfl ?_ | refine RunsD.pe rfl rfl ?_); first
 | refine ⟨_, pu_callR hk rfl, ?_⟩
 | refine ⟨_, pu_callR hh rfl, ?_⟩)
 | (refine Runs.ctls 30 rfl ?_; first | refine Runs.cond_t rfl ?_ | refine Runs.cond_f rfl ?_ | ((first | refine Runs.cond_yes rfl ?_ ?_ | refine Runs.cond_nno rfl ?_ ?_); · first | omega | rfl | assumption | (simp only [List.length_map]; omega)) | ((first | refine Runs.cond_no rfl ?_ ?_ | refine Runs.cond_nyes rfl ?_ ?_); · first | omega | rfl | assumption | (simp only [List.length_map]; omega)) | refine Runs.cond_b rfl (fun h => ?_) (fun h => ?_) | refine Runs.ret (ends_ro hm rfl rfl ?_) | exact Runs.ret (ends_cellR hm rfl rfl rfl (Nat.le_of_ble_eq_true rfl) rfl rfl))
 | refine op_box rfl (tl hn rfl) ?_
 | ((first | refine RunsL.pe hn rfl rfl rfl ?_ | refine RunsD.pe rfl rfl ?_); first
 | refine ⟨_, pu_add rfl rfl (by omega), ?_⟩
 | refine ⟨_, pu_indexAddr_map rfl rfl (by omega) (by assumption), ?_⟩
 | refine ⟨_, pu_sub rfl rfl (by omega), ?_⟩
 | refine ⟨_, pu_pick_b rfl rfl rfl, ?_⟩
 | refine ⟨_, pu_mul rfl rfl (by omega), ?_⟩
 | refine ⟨_, pu_build rfl rfl rfl rfl rfl rfl, ?_⟩)
 | ((first | refine RunsL.guard_dec rfl rfl rfl ?_ ?_ | refine RunsL.guard_ndec rfl rfl rfl ?_ ?_ | refine RunsL.guard_nb rfl rfl rfl ?_ ?_ | refine RunsL.guard_b rfl rfl rfl ?_ ?_ | refine RunsD.guard_dec rfl rfl rfl ?_ ?_ | refine RunsD.guard_ndec rfl rfl rfl ?_ ?_ | refine RunsD.guard_nb rfl rfl rfl ?_ ?_ | refine RunsD.guard_b rfl rfl rfl ?_ ?_) <;> intro h <;> try (exfalso; first | omega | contradiction | (simp only [List.length_map] at h; omega))))
      all_goals exact rr_int rfl
theorem impl_AreDisjoint (d : Des) (ho : DesOk d) (hd : dtotal d ≤ 1048576) (a b : Int) : ACv Try.prog 41 [desR d, .int a, .int b] (.bool (decide (Kn d a ∧ Kn d b ∧ com d a b < 0))) := by
  have hk := known_ac d ho hd a
  have hh := hasRule_ac d b
  have hc := impl_CommonStart d ho hd a b
  refine ac_enter Try.func41 rfl _ Try.ntmps41 (by simp) fun C hn hm => ?_
  by_cases h1 : Kn d a
  · have hG := h1.1
    by_cases h2 : HasR d b
    · repeat' (first
 | refine RunsL.step tabOk hn rfl ?_
 | refine RunsL.nil ?_
 | refine Runs.toRegion 30 rfl ?_
 | (refine RunsL.pe hn rfl rfl rfl ?_; first
 | refine ⟨_, pu_callR hk rfl, ?_⟩
 | refine ⟨_, pu_callR hh rfl, ?_⟩
 | refine ⟨_, pu_callR hc rfl, ?_⟩)
 | (refine Runs.ctls 30 rfl ?_; first | ((first | refine Runs.cond_yes rfl ?_ ?_ | refine Runs.cond_nno rfl ?_ ?_); · first | omega | rfl | assumption | (simp only [List.length_map]; omega)) | ((first | refine Runs.cond_no rfl ?_ ?_ | refine Runs.cond_nyes rfl ?_ ?_); · first | omega | rfl | assumption | (simp only [List.length_map]; omega)) | refine Runs.ret (ends_ro hm rfl rfl ?_) | exact Runs.ret (ends_cellR hm rfl rfl rfl (Nat.le_of_ble_eq_true rfl) rfl rfl))
 | refine op_box rfl (tl hn rfl) ?_
 | ((first | refine RunsL.guard_dec rfl rfl rfl ?_ ?_ | refine RunsL.guard_ndec rfl rfl rfl ?_ ?_ | refine RunsL.guard_nb rfl rfl rfl ?_ ?_ | refine RunsL.guard_b rfl rfl rfl ?_ ?_) <;> intro h <;> try (exfalso; first | omega | contradiction | (simp only [List.length_map] at h; omega))))
      all_goals exact rr_bool (decide_eq_decide.2 ⟨fun h => ⟨h1, ⟨hG, h2⟩, h⟩, fun h => h.2.2⟩)
    · repeat' (first
 | refine RunsL.step tabOk hn rfl ?_
 | refine RunsL.nil ?_
 | refine Runs.toRegion 30 rfl ?_
 | (refine RunsL.pe hn rfl rfl rfl ?_; first
 | refine ⟨_, pu_callR hk rfl, ?_⟩
 | refine ⟨_, pu_callR hh rfl, ?_⟩)
 | (refine Runs.ctls 30 rfl ?_; first | ((first | refine Runs.cond_yes rfl ?_ ?_ | refine Runs.cond_nno rfl ?_ ?_); · first | omega | rfl | assumption | (simp only [List.length_map]; omega)) | ((first | refine Runs.cond_no rfl ?_ ?_ | refine Runs.cond_nyes rfl ?_ ?_); · first | omega | rfl | assumption | (simp only [List.length_map]; omega)) | refine Runs.ret (ends_ro hm rfl rfl ?_) | exact Runs.ret (ends_cellR hm rfl rfl rfl (Nat.le_of_ble_eq_true rfl) rfl rfl))
 | refine op_box rfl (tl hn rfl) ?_
 | ((first | refine RunsL.guard_dec rfl rfl rfl ?_ ?_ | refine RunsL.guard_ndec rfl rfl rfl ?_ ?_ | refine RunsL.guard_nb rfl rfl rfl ?_ ?_ | refine RunsL.guard_b rfl rfl rfl ?_ ?_) <;> intro h <;> try (exfalso; first | omega | contradiction | (simp only [List.length_map] at h; omega))))
      all_goals exact rr_bool (decide_eq_false (p := Kn d a ∧ Kn d b ∧ com d a b < 0) fun h => h2 h.2.1.2).symm
  · repeat' (first
 | refine RunsL.step tabOk hn rfl ?_
 | refine RunsL.nil ?_
 | refine Runs.toRegion 30 rfl ?_
 | (refine RunsL.pe hn rfl rfl rfl ?_; first
 | refine ⟨_, pu_callR hk rfl, ?_⟩
 | refine ⟨_, pu_callR hh rfl, ?_⟩)
 | (refine Runs.ctls 30 rfl ?_; first | ((first | refine Runs.cond_yes rfl ?_ ?_ | refine Runs.cond_nno rfl ?_ ?_); · first | omega | rfl | assumption | (simp only [List.length_map]; omega)) | ((first | refine Runs.cond_no rfl ?_ ?_ | refine Runs.cond_nyes rfl ?_ ?_); · first | omega | rfl | assumption | (simp only [List.length_map]; omega)) | refine Runs.ret (ends_ro hm rfl rfl ?_) | exact Runs.ret (ends_cellR hm rfl rfl rfl (Nat.le_of_ble_eq_true rfl) rfl rfl))
 | refine op_box rfl (tl hn rfl) ?_
 | ((first | refine RunsL.guard_dec rfl rfl rfl ?_ ?_ | refine RunsL.guard_ndec rfl rfl rfl ?_ ?_ | refine RunsL.guard_nb rfl rfl rfl ?_ ?_ | refine RunsL.guard_b rfl rfl rfl ?_ ?_) <;> intro h <;> try (exfalso; first | omega | contradiction | (simp only [List.length_map] at h; omega))))
    all_goals exact rr_bool (decide_eq_false (p := Kn d a ∧ Kn d b ∧ com d a b < 0) fun h => h1 h.1).symm
noncomputable def only1 (d : Des) (r : Int) : Int := if cnt (canN d r) 256 = 1 then com d r r else -1
set_option maxHeartbeats 4000000 in
theorem impl_OnlyStart (d : Des) (ho : DesOk d) (hd : dtotal d ≤ 1048576) (a : Int) : ACv Try.prog 39 [desR d, .int a] (.int (only1 d a)) := by
  have hk := impl_CountFirstBytes d ho hd a
  unfold only1
  by_cases h1 : cnt (canN d a) 256 = 1
  · rw [if_pos h1]
    have hK : Kn d a := Classical.byContradiction fun h => by rw [cnt_zero fun i _ => canN_no h i] at h1; cases h1
    obtain ⟨r, rfl⟩ : ∃ r : Nat, a = r := ⟨a.toNat, by have := hK.2; omega⟩
    have hs := startBytes_ac d ho hK.1 r (by have := hK.2; omega)
    rw [boolsR_congr (v := canN d r) fun j hj => (canN_yes hK hj).symm] at hs
    refine ac_enter Try.func39 rfl _ Try.ntmps39 (by simp) fun C hn hm => ?_
    repeat' (first
 | refine op_storeA (n := 256) rfl rfl rfl (by rw [List.length_map, List.length_replicate]) ?_
 | refine RunsL.step tabOk hn rfl ?_
 | refine RunsL.nil ?_
 | refine Runs.toRegion 30 rfl ?_
 | (refine RunsL.pe hn rfl rfl rfl ?_; first
 | refine ⟨_, pu_callR hk rfl, ?_⟩
 | refine ⟨_, pu_callR hs rfl, ?_⟩)
 | (refine Runs.ctls 30 rfl ?_; first | ((first | refine Runs.cond_yes rfl ?_ ?_ | refine Runs.cond_nno rfl ?_ ?_); · first | omega | rfl | assumption | (simp only [List.length_map]; omega)) | ((first | refine Runs.cond_no rfl ?_ ?_ | refine Runs.cond_nyes rfl ?_ ?_); · first | omega | rfl | assumption | (simp only [List.length_map]; omega)) | refine Runs.cond_b rfl (fun h => ?_) (fun h => ?_) | refine Runs.ret (ends_ro hm rfl rfl ?_) | exact Runs.ret (ends_cellR hm rfl rfl rfl (Nat.le_of_ble_eq_true rfl) rfl rfl))
 | refine op_box rfl (tl hn rfl) ?_
 | refine op_alloc (tl hn rfl) ?_
 | (refine RunsL.pe hn rfl rfl rfl ?_; first
 | refine ⟨_, pu_add rfl rfl (by omega), ?_⟩
        ))
    refine Runs.loopN 30 rfl (fun j => [(5, .obj 1 0), (14, .int (j : Int))]) (fun _ => [⟨38, 0, [.ro (rulsR d)]⟩, ⟨100, 0, bools 256 (canN d r)⟩]) (fun j => ∀ i, i < j → (canN d r i && canN d r i) = false) 256 0 (Nat.zero_le _) (fun i h => absurd h (by omega)) ⟨rfl, rfl, trivial⟩ rfl fun j hj hQ next => ?_
    by_cases hlt : j < 256
    · have step : (canN d r j && canN d r j) = false → ∀ i, i < j + 1 → (canN d r i && canN d r i) = false := fun hf i hi => by
        by_cases e : i = j
        · subst e; exact hf
        · exact hQ i (by omega)
      have ej : 0 + (j : Int).toNat * 1 = j := by omega
      repeat' (first
 | (refine Runs.ctls 30 rfl ?_; first | refine Runs.cond_yes rfl (by omega) ?_ | refine Runs.cond_no rfl (by omega) ?_)
 | (refine RunsL.pe hn rfl rfl rfl ?_; first
 | refine ⟨_, pu_load_at (tt := 4) (n := 256) rfl rfl rfl (by omega), ?_⟩)
 | refine RunsL.step tabOk hn rfl ?_
 | refine RunsL.nil ?_
 | refine Runs.toRegion 30 rfl ?_
 | (refine RunsL.pe hn rfl rfl rfl ?_; first
 | refine ⟨_, pu_indexAddr_arr rfl rfl (by omega) (by omega), ?_⟩)
 | (refine Runs.ctls 30 rfl ?_; first | ((first | refine Runs.cond_yes rfl ?_ ?_ | refine Runs.cond_nno rfl ?_ ?_); · first | omega | rfl | assumption | (simp only [List.length_map]; omega)) | ((first | refine Runs.cond_no rfl ?_ ?_ | refine Runs.cond_nyes rfl ?_ ?_); · first | omega | rfl | assumption | (simp only [List.length_map]; omega)) | refine Runs.cond_b rfl (fun h => ?_) (fun h => ?_) | refine Runs.ret (ends_ro hm rfl rfl ?_) | exact Runs.ret (ends_cellR hm rfl rfl rfl (Nat.le_of_ble_eq_true rfl) rfl rfl))
 | refine op_box rfl (tl hn rfl) ?_
 | refine op_alloc (tl hn rfl) ?_
 | (refine RunsL.pe hn rfl rfl rfl ?_; first
 | refine ⟨_, pu_add rfl rfl (by omega), ?_⟩
          ))
      · refine rr_int (fst_yes hQ ?_ hlt).symm
        rw [ej] at h
        rw [h]; rfl
      · refine next _ _ ⟨rfl, rfl, trivial⟩ hlt (step ?_) rfl
        rw [ej] at h
        rw [h]; rfl
    · obtain rfl : j = 256 := by omega
      repeat' (first
 | (refine Runs.ctls 30 rfl ?_; first | refine Runs.cond_yes rfl (by omega) ?_ | refine Runs.cond_no rfl (by omega) ?_)
 | refine RunsL.step tabOk hn rfl ?_
 | refine RunsL.nil ?_
 | refine Runs.toRegion 30 rfl ?_
 | (refine Runs.ctls 30 rfl ?_; first | ((first | refine Runs.cond_yes rfl ?_ ?_ | refine Runs.cond_nno rfl ?_ ?_); · first | omega | rfl | assumption | (simp only [List.length_map]; omega)) | ((first | refine Runs.cond_no rfl ?_ ?_ | refine Runs.cond_nyes rfl ?_ ?_); · first | omega | rfl | assumption | (simp only [List.length_map]; omega)) | refine Runs.cond_b rfl (fun h => ?_) (fun h => ?_) | refine Runs.ret (ends_ro hm rfl rfl ?_) | exact Runs.ret (ends_cellR hm rfl rfl rfl (Nat.le_of_ble_eq_true rfl) rfl rfl))
 | refine op_box rfl (tl hn rfl) ?_
 | refine op_alloc (tl hn rfl) ?_
 | (refine RunsL.pe hn rfl rfl rfl ?_; first
 | refine ⟨_, pu_add rfl rfl (by omega), ?_⟩
          ))
      exact rr_int (fst_no hQ).symm
  · rw [if_neg h1]
    refine ac_enter Try.func39 rfl _ Try.ntmps39 (by simp) fun C hn hm => ?_
    repeat' (first
 | refine RunsL.step tabOk hn rfl ?_
 | refine RunsL.nil ?_
 | refine Runs.toRegion 30 rfl ?_
 | (refine RunsL.pe hn rfl rfl rfl ?_; first
 | refine ⟨_, pu_callR hk rfl, ?_⟩)
 | (refine Runs.ctls 30 rfl ?_; first | ((first | refine Runs.cond_yes rfl ?_ ?_ | refine Runs.cond_nno rfl ?_ ?_); · first | omega | rfl | assumption | (simp only [List.length_map]; omega)) | ((first | refine Runs.cond_no rfl ?_ ?_ | refine Runs.cond_nyes rfl ?_ ?_); · first | omega | rfl | assumption | (simp only [List.length_map]; omega)) | refine Runs.cond_b rfl (fun h => ?_) (fun h => ?_) | refine Runs.ret (ends_ro hm rfl rfl ?_) | exact Runs.ret (ends_cellR hm rfl rfl rfl (Nat.le_of_ble_eq_true rfl) rfl rfl))
 | refine op_box rfl (tl hn rfl) ?_
 | refine op_alloc (tl hn rfl) ?_
 | (refine RunsL.pe hn rfl rfl rfl ?_; first
 | refine ⟨_, pu_add rfl rfl (by omega), ?_⟩
        ))
    all_goals exact rr_int rfl
attribute [irreducible] com
end Go.Proofs.Ytnecoghfhcimeaa
/- Small helpers of the laws. -/
namespace Go.Proofs.Ytnecoghfhcimeaa
set_option linter.unusedSimpArgs false
set_option linter.unusedVariables false
open Go.RowKit
open AV (Mem Keeps)
theorem big_ac (b : List UInt8) : ACv Try.prog 17 [bytesR b] (.bool (decide ((1048576 : Int) < b.length))) := by
  have hlb : (b.map fun z => [RV.u8 z]).length = b.length := List.length_map ..
  refine ac_enter Try.func17 rfl _ Try.ntmps17 (by simp) fun C hn hm => ?_
  repeat' (first
 | (refine RunsL.pe hn rfl rfl rfl ?_; first
 | refine ⟨_, pu_len_seqN b.length rfl hlb, ?_⟩)
 | refine RunsL.step tabOk hn rfl ?_
 | refine RunsL.nil ?_
 | refine Runs.toRegion 30 rfl ?_
 | (refine Runs.ctls 30 rfl ?_; first | ((first | refine Runs.cond_yes rfl ?_ ?_ | refine Runs.cond_nno rfl ?_ ?_); · first | omega | rfl | assumption | (simp only [List.length_map]; omega)) | ((first | refine Runs.cond_no rfl ?_ ?_ | refine Runs.cond_nyes rfl ?_ ?_); · first | omega | rfl | assumption | (simp only [List.length_map]; omega)) | refine Runs.ret (ends_ro hm rfl rfl ?_) | exact Runs.ret (ends_cellR hm rfl rfl rfl (Nat.le_of_ble_eq_true rfl) rfl rfl))
    )
  all_goals exact rr_bool rfl
end Go.Proofs.Ytnecoghfhcimeaa
