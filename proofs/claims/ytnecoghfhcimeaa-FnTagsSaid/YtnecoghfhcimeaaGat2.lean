/- Gathered texts. -/
import Derived.Test.YtnecoghfhcimeaaGat0
import Derived.Test.YtnecoghfhcimeaaGat1
import Derived.StillTail
/- Names, sequences, kinds, rules and descriptions that are valid: the program's side. -/
namespace Go.Proofs.Ytnecoghfhcimeaa
set_option linter.unusedSimpArgs false
set_option linter.unusedVariables false
set_option linter.unusedSectionVars false
open Go.RowKit
theorem below_down {n : Nat} {a b c : World} {g : Nat} (h : Below n a b) (hg : n ≤ g) (k : Below g b c) : Below n a c := h.trans (k.mono hg)
set_option maxHeartbeats 4000000 in
theorem impl_IsName (s : ByteArray) (hs : s.size ≤ maxLen) : ACv Try.prog 161 [.str s] (.bool (decide (IsNm s))) := by
  unfold maxLen at hs
  refine ac_enter Try.func161 rfl _ Try.ntmps161 (by simp) fun C hn hm => ?_
  by_cases hsz : 1 ≤ s.size ∧ s.size ≤ 12
  · repeat' (first
 | refine RunsL.step tabOk hn rfl ?_
 | refine RunsL.nil ?_
 | refine Runs.toRegion 30 rfl ?_
 | (refine Runs.ctls 30 rfl ?_; first | refine Runs.cond_t rfl ?_ | refine Runs.cond_f rfl ?_ | (refine Runs.cond_yes rfl ?_ ?_; · first | omega | rfl | assumption) | (refine Runs.cond_no rfl ?_ ?_; · first | omega | rfl | assumption) | refine Runs.cond_dec rfl (fun h => ?_) (fun h => ?_) | refine Runs.ret (ends_ro hm rfl rfl ?_) | exact Runs.ret (ends_cellR hm rfl rfl rfl (Nat.le_of_ble_eq_true rfl) rfl rfl))
 | ((first | refine RunsL.guard_dec rfl rfl rfl ?_ ?_ | refine RunsL.guard_ndec rfl rfl rfl ?_ ?_) <;> intro h <;> try (exfalso; first | omega | contradiction)))
    refine op_rangeS rfl (Nat.lt_of_lt_of_eq (Nat.le_of_ble_eq_true rfl) hn.symm) (by simp [CEnv, cst, startEnv]) hm fun C1 g hn1 hm1 hg hgt hB => RunsL.nil ?_
    refine Runs.ctls 30 rfl (Runs.keep [(16, .ro (.c (.pointer (some ⟨g, 0, none⟩))))] ⟨rfl, trivial⟩ ?_)
    refine Runs.loopV (fun n C' S => ∃ j, j + n = s.size ∧ C'.n = 43 ∧ (∀ b, ¬ C'.mu b) ∧ C'.w0.heap[g]? = some (.stringIter s j) ∧ Below C.w0.heap.size C.w0 C'.w0 ∧ S = ⟨[(16, .ro (.c (.pointer (some ⟨g, 0, none⟩))))], []⟩ ∧ ∀ (i : Nat) c, i < j → s[i]? = some c → NameC c i) ?_ s.size C1 _ ⟨0, by omega, hn1.trans hn, hm1, hg, hB, rfl, fun i c h => absurd h (by omega)⟩
    rintro n C2 S ⟨j, hj, hn, hm, hg, hB, rfl, hQ⟩ ih
    by_cases hlt : j < s.size
    · obtain ⟨x, hx⟩ : ∃ x, s[j]? = some x := ⟨_, getElem?_pos s j hlt⟩
      have hxe : s[j]'hlt = x := by rw [getElem?_pos s j hlt] at hx; injection hx
      obtain ⟨c, wd, hdec⟩ : ∃ c wd, Utf8.decode s j = (c, wd) := ⟨_, _, rfl⟩
      have h1 : x.toNat < 128 → c = x.toNat ∧ wd = 1 := fun h => by
        have := decode_ascii s j hlt (by rw [hxe]; exact h)
        rw [hdec, hxe] at this; injection this with e1 e2; exact ⟨e1, e2⟩
      have h2 : 128 ≤ x.toNat → 128 ≤ c := fun h => by
        have := decode_high s j hlt (by rw [hxe]; exact h)
        rwa [hdec] at this
      refine Runs.toRegion 30 rfl (op_nextS rfl hg hlt (Nat.lt_of_lt_of_eq (Nat.le_of_ble_eq_true rfl) hn.symm) (by simp [CEnv, cst]) hm fun C3 hn3 hm3 hg3 hB3 => ?_)
      simp only [hdec] at hg3 ⊢
      have hn := hn3.trans hn
      have hB' := below_down hB hgt hB3
      repeat' (first
 | refine RunsL.step tabOk hn rfl ?_
 | refine RunsL.nil ?_
 | refine Runs.toRegion 30 rfl ?_
 | refine Runs.ctls 30 rfl (Runs.ret (endsB hB' hm3 rfl rfl ?_))
 | (refine Runs.ctls 30 rfl ?_; first | refine Runs.cond_t rfl ?_ | refine Runs.cond_f rfl ?_ | (refine Runs.cond_yes rfl ?_ ?_; · first | omega | rfl | assumption) | (refine Runs.cond_no rfl ?_ ?_; · first | omega | rfl | assumption) | refine Runs.cond_dec rfl (fun h => ?_) (fun h => ?_) | refine Runs.ret (ends_ro hm rfl rfl ?_) | exact Runs.ret (ends_cellR hm rfl rfl rfl (Nat.le_of_ble_eq_true rfl) rfl rfl))
 | ((first | refine RunsL.guard_dec rfl rfl rfl ?_ ?_ | refine RunsL.guard_ndec rfl rfl rfl ?_ ?_) <;> intro h <;> try (exfalso; first | omega | contradiction)))
      all_goals first
        | exact rr_bool (decide_eq_false (p := IsNm s) fun hN => by have := hN.2.2 j x hx; unfold NameC at this; omega).symm
        | (obtain ⟨e1, e2⟩ := h1 (by omega)
           refine Runs.ctls 30 rfl (Runs.keep [(16, .ro (.c (.pointer (some ⟨g, 0, none⟩))))] ⟨rfl, trivial⟩ (ih (n - 1) (by omega) C3 _ ⟨j + 1, by omega, hn, hm3, by rw [hg3, e2], hB', rfl, fun i c' hi hc => ?_⟩))
           by_cases e : i = j
           · subst e; rw [hx] at hc; injection hc with hc; subst hc; unfold NameC; omega
           · exact hQ i c' (by omega) hc)
    · refine Runs.toRegion 30 rfl (op_nextEnd rfl hg hlt (Nat.lt_of_lt_of_eq (Nat.le_of_ble_eq_true rfl) hn.symm) hm ?_)
      repeat' (first
 | refine RunsL.step tabOk hn rfl ?_
 | refine RunsL.nil ?_
 | refine Runs.toRegion 30 rfl ?_
 | refine Runs.ctls 30 rfl (Runs.ret (endsB hB hm rfl rfl ?_))
 | (refine Runs.ctls 30 rfl ?_; first | refine Runs.cond_t rfl ?_ | refine Runs.cond_f rfl ?_ | (refine Runs.cond_yes rfl ?_ ?_; · first | omega | rfl | assumption) | (refine Runs.cond_no rfl ?_ ?_; · first | omega | rfl | assumption) | refine Runs.cond_dec rfl (fun h => ?_) (fun h => ?_) | refine Runs.ret (ends_ro hm rfl rfl ?_) | exact Runs.ret (ends_cellR hm rfl rfl rfl (Nat.le_of_ble_eq_true rfl) rfl rfl))
 | ((first | refine RunsL.guard_dec rfl rfl rfl ?_ ?_ | refine RunsL.guard_ndec rfl rfl rfl ?_ ?_) <;> intro h <;> try (exfalso; first | omega | contradiction)))
      exact rr_bool (decide_eq_true (p := IsNm s) ⟨hsz.1, hsz.2, fun i c hc => hQ i c (by have := str_lt hc; omega) hc⟩).symm
  · repeat' (first
 | refine RunsL.step tabOk hn rfl ?_
 | refine RunsL.nil ?_
 | refine Runs.toRegion 30 rfl ?_
 | (refine Runs.ctls 30 rfl ?_; first | refine Runs.cond_t rfl ?_ | refine Runs.cond_f rfl ?_ | (refine Runs.cond_yes rfl ?_ ?_; · first | omega | rfl | assumption) | (refine Runs.cond_no rfl ?_ ?_; · first | omega | rfl | assumption) | refine Runs.cond_dec rfl (fun h => ?_) (fun h => ?_) | refine Runs.ret (ends_ro hm rfl rfl ?_) | exact Runs.ret (ends_cellR hm rfl rfl rfl (Nat.le_of_ble_eq_true rfl) rfl rfl))
 | ((first | refine RunsL.guard_dec rfl rfl rfl ?_ ?_ | refine RunsL.guard_ndec rfl rfl rfl ?_ ?_) <;> intro h <;> try (exfalso; first | omega | contradiction)))
    all_goals exact rr_bool (decide_eq_false (p := IsNm s) fun hN => hsz ⟨hN.1, hN.2.1⟩).symm
def SeqOk (r : Rul) : Prop := Plain r false false true false (-1) ∧ r.kids.length = r.names.length ∧ NamesOk r.names
noncomputable instance (r : Rul) : Decidable (SeqOk r) := Classical.propDecidable _
set_option maxHeartbeats 4000000 in
theorem validSequence_ac (r : Rul) (hl : r.names.length ≤ maxLen) (ho : ∀ s ∈ r.names, s.size ≤ maxLen) : ACv Try.prog 183 [.agg (rulR r)] (.bool (decide (SeqOk r))) := by
  have hlm : (r.names.map fun z => [RV.str z]).length = r.names.length := List.length_map ..
  have hpl := plainRule2_ac r (-1)
  unfold maxLen at hl
  refine ac_enter Try.func183 rfl _ Try.ntmps183 (by simp) fun C hn hm => ?_
  by_cases hP : Plain r false false true false (-1)
  · by_cases h0 : r.kids.length = r.names.length ∧ 1 ≤ r.names.length ∧ r.names.length ≤ 8
    · repeat' (first
 | refine RunsL.step tabOk hn rfl ?_
 | refine RunsL.nil ?_
 | refine Runs.toRegion 30 rfl ?_
 | (refine RunsL.pe hn rfl rfl rfl ?_; first
 | refine ⟨_, pu_callR hpl (by simp [ev, look, rulR]), ?_⟩
 | refine ⟨_, pu_callR (inRange_ac _ _ _) rfl, ?_⟩)
 | (refine Runs.ctls 30 rfl ?_; first | refine Runs.cond_t rfl ?_ | ((first | refine Runs.cond_yes rfl ?_ ?_ | refine Runs.cond_nno rfl ?_ ?_); · first | omega | rfl | assumption | (simp only [List.length_map]; omega)) | (refine Runs.cond_no rfl ?_ ?_; · first | omega | rfl | assumption | (simp only [List.length_map]; omega)) | refine Runs.cond_ndec rfl (fun h => ?_) (fun h => ?_) | refine Runs.ret (ends_ro hm rfl rfl ?_) | exact Runs.ret (ends_cellR hm rfl rfl rfl (Nat.le_of_ble_eq_true rfl) rfl rfl))
 | refine op_box rfl (tl hn rfl) ?_
 | (refine RunsL.pe hn rfl rfl rfl ?_; first
 | refine ⟨_, pu_add rfl rfl (by omega), ?_⟩
 | refine ⟨_, pu_indexAddr_map rfl rfl (by omega) (by assumption), ?_⟩
        )
 | (refine RunsL.guard_ndec rfl rfl rfl ?_ ?_ <;> intro h <;> try (exfalso; first | omega | contradiction | (simp only [List.length_map] at h; omega))))
      refine Runs.loopN 30 rfl (fun j => [(25, .ro (strsR r.names)), (26, .int (r.names.length : Int)), (1, .obj 0 0), (27, .int (j : Int))]) (fun _ => [⟨52, 0, [.str r.name, .int r.kind, .int r.size, .bool r.little, .ro (bytesR r.bytes), .ro (strsR r.names), .ro (intsR r.tags), .ro (intsR r.kids)]⟩]) (fun j => ∀ (i : Nat) x, i < j → r.names[i]? = some x → IsNm x ∧ x ∉ r.names.take i) r.names.length 0 (Nat.zero_le _) (fun i x h => absurd h (by omega)) ⟨rfl, by simp [look], rfl, rfl, trivial⟩ rfl fun j hj hQ next => ?_
      by_cases hlt : j < r.names.length
      · obtain ⟨x, hx⟩ : ∃ x, r.names[(j : Int).toNat]? = some x := ⟨_, List.getElem?_eq_getElem hlt⟩
        have hx' : r.names[j]? = some x := hx
        have hnm := impl_IsName x (ho x (List.mem_of_getElem? hx'))
        have hc := impl_ContainsText (r.names.take j) x (by rw [List.length_take]; unfold maxLen; omega)
        by_cases h1 : IsNm x
        · by_cases h2 : x ∈ r.names.take j
          · repeat' (first
 | refine RunsL.step tabOk hn rfl ?_
 | refine RunsL.nil ?_
 | refine Runs.toRegion 30 rfl ?_
 | (refine RunsL.pe hn rfl rfl rfl ?_; first
 | refine ⟨_, pu_callR hnm rfl, ?_⟩
 | refine ⟨_, pu_callR hc rfl, ?_⟩
 | refine ⟨_, pu_slice_hM rfl rfl (by omega) (by omega), ?_⟩)
 | (refine Runs.ctls 30 rfl ?_; first | refine Runs.cond_t rfl ?_ | ((first | refine Runs.cond_yes rfl ?_ ?_ | refine Runs.cond_nno rfl ?_ ?_); · first | omega | rfl | assumption | (simp only [List.length_map]; omega)) | (refine Runs.cond_no rfl ?_ ?_; · first | omega | rfl | assumption | (simp only [List.length_map]; omega)) | refine Runs.cond_ndec rfl (fun h => ?_) (fun h => ?_) | refine Runs.ret (ends_ro hm rfl rfl ?_) | exact Runs.ret (ends_cellR hm rfl rfl rfl (Nat.le_of_ble_eq_true rfl) rfl rfl))
 | refine op_box rfl (tl hn rfl) ?_
 | (refine RunsL.pe hn rfl rfl rfl ?_; first
 | refine ⟨_, pu_add rfl rfl (by omega), ?_⟩
 | refine ⟨_, pu_indexAddr_map rfl rfl (by omega) (by assumption), ?_⟩
              )
 | (refine RunsL.guard_ndec rfl rfl rfl ?_ ?_ <;> intro h <;> try (exfalso; first | omega | contradiction | (simp only [List.length_map] at h; omega))))
            exact rr_bool (decide_eq_false (p := SeqOk r) fun hN => (hN.2.2.2.2 j x hx').2 h2).symm
          · repeat' (first
 | refine RunsL.step tabOk hn rfl ?_
 | refine RunsL.nil ?_
 | refine Runs.toRegion 30 rfl ?_
 | (refine RunsL.pe hn rfl rfl rfl ?_; first
 | refine ⟨_, pu_callR hnm rfl, ?_⟩
 | refine ⟨_, pu_callR hc rfl, ?_⟩
 | refine ⟨_, pu_slice_hM rfl rfl (by omega) (by omega), ?_⟩)
 | (refine Runs.ctls 30 rfl ?_; first | refine Runs.cond_t rfl ?_ | ((first | refine Runs.cond_yes rfl ?_ ?_ | refine Runs.cond_nno rfl ?_ ?_); · first | omega | rfl | assumption | (simp only [List.length_map]; omega)) | (refine Runs.cond_no rfl ?_ ?_; · first | omega | rfl | assumption | (simp only [List.length_map]; omega)) | refine Runs.cond_ndec rfl (fun h => ?_) (fun h => ?_) | refine Runs.ret (ends_ro hm rfl rfl ?_) | exact Runs.ret (ends_cellR hm rfl rfl rfl (Nat.le_of_ble_eq_true rfl) rfl rfl))
 | refine op_box rfl (tl hn rfl) ?_
 | (refine RunsL.pe hn rfl rfl rfl ?_; first
 | refine ⟨_, pu_add rfl rfl (by omega), ?_⟩
 | refine ⟨_, pu_indexAddr_map rfl rfl (by omega) (by assumption), ?_⟩
              )
 | (refine RunsL.guard_ndec rfl rfl rfl ?_ ?_ <;> intro h <;> try (exfalso; first | omega | contradiction | (simp only [List.length_map] at h; omega))))
            refine next _ _ ⟨rfl, rfl, rfl, rfl, trivial⟩ hlt (fun i y hi hy => ?_) rfl
            by_cases e : i = j
            · subst e; rw [hx'] at hy; injection hy with hy; subst hy; exact ⟨h1, h2⟩
            · exact hQ i y (by omega) hy
        · repeat' (first
 | refine RunsL.step tabOk hn rfl ?_
 | refine RunsL.nil ?_
 | refine Runs.toRegion 30 rfl ?_
 | (refine RunsL.pe hn rfl rfl rfl ?_; first
 | refine ⟨_, pu_callR hnm rfl, ?_⟩
 | refine ⟨_, pu_callR hc rfl, ?_⟩
 | refine ⟨_, pu_slice_hM rfl rfl (by omega) (by omega), ?_⟩)
 | (refine Runs.ctls 30 rfl ?_; first | refine Runs.cond_t rfl ?_ | ((first | refine Runs.cond_yes rfl ?_ ?_ | refine Runs.cond_nno rfl ?_ ?_); · first | omega | rfl | assumption | (simp only [List.length_map]; omega)) | (refine Runs.cond_no rfl ?_ ?_; · first | omega | rfl | assumption | (simp only [List.length_map]; omega)) | refine Runs.cond_ndec rfl (fun h => ?_) (fun h => ?_) | refine Runs.ret (ends_ro hm rfl rfl ?_) | exact Runs.ret (ends_cellR hm rfl rfl rfl (Nat.le_of_ble_eq_true rfl) rfl rfl))
 | refine op_box rfl (tl hn rfl) ?_
 | (refine RunsL.pe hn rfl rfl rfl ?_; first
 | refine ⟨_, pu_add rfl rfl (by omega), ?_⟩
 | refine ⟨_, pu_indexAddr_map rfl rfl (by omega) (by assumption), ?_⟩
            )
 | (refine RunsL.guard_ndec rfl rfl rfl ?_ ?_ <;> intro h <;> try (exfalso; first | omega | contradiction | (simp only [List.length_map] at h; omega))))
          exact rr_bool (decide_eq_false (p := SeqOk r) fun hN => h1 (hN.2.2.2.2 j x hx').1).symm
      · repeat' (first
 | refine RunsL.step tabOk hn rfl ?_
 | refine RunsL.nil ?_
 | refine Runs.toRegion 30 rfl ?_
 | (refine Runs.ctls 30 rfl ?_; first | refine Runs.cond_t rfl ?_ | ((first | refine Runs.cond_yes rfl ?_ ?_ | refine Runs.cond_nno rfl ?_ ?_); · first | omega | rfl | assumption | (simp only [List.length_map]; omega)) | (refine Runs.cond_no rfl ?_ ?_; · first | omega | rfl | assumption | (simp only [List.length_map]; omega)) | refine Runs.cond_ndec rfl (fun h => ?_) (fun h => ?_) | refine Runs.ret (ends_ro hm rfl rfl ?_) | exact Runs.ret (ends_cellR hm rfl rfl rfl (Nat.le_of_ble_eq_true rfl) rfl rfl))
 | refine op_box rfl (tl hn rfl) ?_
 | (refine RunsL.pe hn rfl rfl rfl ?_; first
 | refine ⟨_, pu_add rfl rfl (by omega), ?_⟩
 | refine ⟨_, pu_indexAddr_map rfl rfl (by omega) (by assumption), ?_⟩
          )
 | (refine RunsL.guard_ndec rfl rfl rfl ?_ ?_ <;> intro h <;> try (exfalso; first | omega | contradiction | (simp only [List.length_map] at h; omega))))
        exact rr_bool (decide_eq_true (p := SeqOk r) ⟨hP, h0.1, h0.2.1, h0.2.2, fun i x hx => hQ i x (by have := (List.getElem?_eq_some_iff.1 hx).1; omega) hx⟩).symm
    · repeat' (first
 | refine RunsL.step tabOk hn rfl ?_
 | refine RunsL.nil ?_
 | refine Runs.toRegion 30 rfl ?_
 | (refine RunsL.pe hn rfl rfl rfl ?_; first
 | refine ⟨_, pu_callR hpl (by simp [ev, look, rulR]), ?_⟩
 | refine ⟨_, pu_callR (inRange_ac _ _ _) rfl, ?_⟩)
 | (refine Runs.ctls 30 rfl ?_; first | refine Runs.cond_t rfl ?_ | ((first | refine Runs.cond_yes rfl ?_ ?_ | refine Runs.cond_nno rfl ?_ ?_); · first | omega | rfl | assumption | (simp only [List.length_map]; omega)) | (refine Runs.cond_no rfl ?_ ?_; · first | omega | rfl | assumption | (simp only [List.length_map]; omega)) | refine Runs.cond_ndec rfl (fun h => ?_) (fun h => ?_) | refine Runs.ret (ends_ro hm rfl rfl ?_) | exact Runs.ret (ends_cellR hm rfl rfl rfl (Nat.le_of_ble_eq_true rfl) rfl rfl))
 | refine op_box rfl (tl hn rfl) ?_
 | (refine RunsL.pe hn rfl rfl rfl ?_; first
 | refine ⟨_, pu_add rfl rfl (by omega), ?_⟩
 | refine ⟨_, pu_indexAddr_map rfl rfl (by omega) (by assumption), ?_⟩
        )
 | (refine RunsL.guard_ndec rfl rfl rfl ?_ ?_ <;> intro h <;> try (exfalso; first | omega | contradiction | (simp only [List.length_map] at h; omega))))
      all_goals first
        | exact rr_bool (decide_eq_false (p := SeqOk r) fun hN => h0 ⟨hN.2.1, hN.2.2.1, hN.2.2.2.1⟩).symm
        | (exfalso; simp only [List.length_map] at *; omega)
  · repeat' (first
 | refine RunsL.step tabOk hn rfl ?_
 | refine RunsL.nil ?_
 | refine Runs.toRegion 30 rfl ?_
 | (refine RunsL.pe hn rfl rfl rfl ?_; first
 | refine ⟨_, pu_callR hpl (by simp [ev, look, rulR]), ?_⟩
 | refine ⟨_, pu_callR (inRange_ac _ _ _) rfl, ?_⟩)
 | (refine Runs.ctls 30 rfl ?_; first | refine Runs.cond_t rfl ?_ | ((first | refine Runs.cond_yes rfl ?_ ?_ | refine Runs.cond_nno rfl ?_ ?_); · first | omega | rfl | assumption | (simp only [List.length_map]; omega)) | (refine Runs.cond_no rfl ?_ ?_; · first | omega | rfl | assumption | (simp only [List.length_map]; omega)) | refine Runs.cond_ndec rfl (fun h => ?_) (fun h => ?_) | refine Runs.ret (ends_ro hm rfl rfl ?_) | exact Runs.ret (ends_cellR hm rfl rfl rfl (Nat.le_of_ble_eq_true rfl) rfl rfl))
 | refine op_box rfl (tl hn rfl) ?_
 | (refine RunsL.pe hn rfl rfl rfl ?_; first
 | refine ⟨_, pu_add rfl rfl (by omega), ?_⟩
 | refine ⟨_, pu_indexAddr_map rfl rfl (by omega) (by assumption), ?_⟩
      )
 | (refine RunsL.guard_ndec rfl rfl rfl ?_ ?_ <;> intro h <;> try (exfalso; first | omega | contradiction | (simp only [List.length_map] at h; omega))))
    all_goals exact rr_bool (decide_eq_false (p := SeqOk r) fun hN => hP hN.1).symm
def KindI (d : Des) (r : Rul) : Prop :=
  (r.kind = 1 ∧ Plain r true false false false 0 ∧ InR r.size 1 4 ∧ (r.little = false ∨ 1 < r.size)) ∨
  (r.kind = 2 ∧ Plain r false true false false 0 ∧ InR r.bytes.length 1 16) ∨
  (r.kind = 3 ∧ Plain r true false false false 0 ∧ InR r.size 1 64) ∨
  (r.kind = 4 ∧ Plain r false false false false 1 ∧ 0 < lim d (r.kids.headD 0)) ∨
  (r.kind = 5 ∧ Plain r false false false false 2 ∧ 0 < lim d (r.kids.headD 0)) ∨
  (r.kind = 6 ∧ SeqOk r) ∨
  (r.kind = 7 ∧ ChoiceOk d r) ∨
  ((r.kind = 8 ∨ r.kind = 9) ∧ Plain r false false false false 1) ∨
  (r.kind = 10 ∧ Plain r false true false false 0 ∧ r.bytes.length = 1 ∧ r.bytes.headD 0 ≠ 92)
noncomputable instance (d : Des) (r : Rul) : Decidable (KindI d r) := Classical.propDecidable _
theorem Plain.kids {r : Rul} {a b c d : Bool} {k : Int} (h : Plain r a b c d k) (hk : 0 ≤ k) : (r.kids.length : Int) = k := by
  have := h.2.2.2.2; omega
theorem seqOk_iff {r : Rul} : SeqOk r ∧ (r.little = false ∨ r.kind = 1) ↔ Shape r false false true false r.names.length ∧ NamesOk r.names := by
  unfold SeqOk Shape Plain
  constructor
  · rintro ⟨⟨⟨a, b, c, d, e⟩, f, g⟩, h⟩
    exact ⟨⟨⟨a, b, c, d, by omega⟩, h⟩, g⟩
  · rintro ⟨⟨⟨a, b, c, d, e⟩, h⟩, g⟩
    exact ⟨⟨⟨a, b, c, d, by omega⟩, by omega, g⟩, h⟩
theorem choiceOk_iff {d : Des} {r : Rul} : ChoiceOk d r ∧ (r.little = false ∨ r.kind = 1) ↔ Shape r false false false true (-1) ∧ TagsOk d r := by
  unfold ChoiceOk Shape Plain
  constructor
  · rintro ⟨⟨⟨a, b, c, d, e⟩, g⟩, h⟩
    exact ⟨⟨⟨a, b, c, d, by omega⟩, h⟩, g⟩
  · rintro ⟨⟨⟨a, b, c, d, e⟩, h⟩, g⟩
    exact ⟨⟨⟨a, b, c, d, .inr (by have := g.1; omega)⟩, g⟩, h⟩
theorem kindI_iff (d : Des) (r : Rul) : KindI d r ∧ (r.little = false ∨ r.kind = 1) ↔ KindOk d r := by
  unfold KindI KindOk
  have h1 := @seqOk_iff r
  have h2 := @choiceOk_iff d r
  unfold Shape at h1 h2 ⊢
  constructor
  · rintro ⟨(h | h | h | h | h | h | h | h | h), hl⟩
    · exact .inl ⟨h.1, ⟨h.2.1, hl⟩, h.2.2⟩
    · exact .inr (.inl ⟨h.1, ⟨h.2.1, hl⟩, h.2.2⟩)
    · exact .inr (.inr (.inl ⟨h.1, ⟨h.2.1, hl⟩, h.2.2⟩))
    · exact .inr (.inr (.inr (.inl ⟨h.1, ⟨h.2.1, hl⟩, h.2.2⟩)))
    · exact .inr (.inr (.inr (.inr (.inl ⟨h.1, ⟨h.2.1, hl⟩, h.2.2⟩))))
    · exact .inr (.inr (.inr (.inr (.inr (.inl ⟨h.1, h1.1 ⟨h.2, hl⟩⟩)))))
    · exact .inr (.inr (.inr (.inr (.inr (.inr (.inl ⟨h.1, h2.1 ⟨h.2, hl⟩⟩))))))
    · exact .inr (.inr (.inr (.inr (.inr (.inr (.inr (.inl ⟨h.1, h.2, hl⟩)))))))
    · exact .inr (.inr (.inr (.inr (.inr (.inr (.inr (.inr ⟨h.1, ⟨h.2.1, hl⟩, h.2.2⟩)))))))
  · rintro (h | h | h | h | h | h | h | h | h)
    · exact ⟨.inl ⟨h.1, h.2.1.1, h.2.2⟩, h.2.1.2⟩
    · exact ⟨.inr (.inl ⟨h.1, h.2.1.1, h.2.2⟩), h.2.1.2⟩
    · exact ⟨.inr (.inr (.inl ⟨h.1, h.2.1.1, h.2.2⟩)), h.2.1.2⟩
    · exact ⟨.inr (.inr (.inr (.inl ⟨h.1, h.2.1.1, h.2.2⟩))), h.2.1.2⟩
    · exact ⟨.inr (.inr (.inr (.inr (.inl ⟨h.1, h.2.1.1, h.2.2⟩)))), h.2.1.2⟩
    · exact ⟨.inr (.inr (.inr (.inr (.inr (.inl ⟨h.1, (h1.2 h.2).1⟩))))), (h1.2 h.2).2⟩
    · exact ⟨.inr (.inr (.inr (.inr (.inr (.inr (.inl ⟨h.1, (h2.2 h.2).1⟩)))))), (h2.2 h.2).2⟩
    · exact ⟨.inr (.inr (.inr (.inr (.inr (.inr (.inr (.inl ⟨h.1, h.2.1⟩))))))), h.2.2⟩
    · exact ⟨.inr (.inr (.inr (.inr (.inr (.inr (.inr (.inr ⟨h.1, h.2.1.1, h.2.2⟩))))))), h.2.1.2⟩
end Go.Proofs.Ytnecoghfhcimeaa
/- Kinds, rules and descriptions that are valid: the program's side; a rule of a valid description. -/
namespace Go.Proofs.Ytnecoghfhcimeaa
set_option linter.unusedSimpArgs false
set_option linter.unusedVariables false
set_option linter.unusedSectionVars false
open Go.RowKit
set_option maxHeartbeats 8000000 in
theorem validKind_ac (d : Des) (r : Rul) (hl : d.length ≤ maxLen) (ht : r.tags.length ≤ 1048576) (hnl : r.names.length ≤ maxLen) (hns : ∀ s ∈ r.names, s.size ≤ maxLen) : ACv Try.prog 162 [desR d, .agg (rulR r)] (.bool (decide (KindI d r))) := by
  have hseq := validSequence_ac r hnl hns
  have hcho := validChoice_ac d r hl ht
  have hlim := impl_IntegerLimit d (r.kids.headD 0) hl
  refine ac_enter Try.func162 rfl _ Try.ntmps162 (by simp) fun C hn hm => ?_
  by_cases k1 : r.kind = 1
  · repeat' (first
 | refine RunsL.step tabOk hn rfl ?_
 | refine RunsL.nil ?_
 | refine Runs.toRegion 30 rfl ?_
 | ((first | refine RunsL.pe hn rfl rfl rfl ?_ | refine RunsD.pe rfl rfl ?_); first
 | refine ⟨_, pu_callR (plainRule0_ac r _) rfl, ?_⟩
 | refine ⟨_, pu_callR (inRange_ac _ _ _) rfl, ?_⟩)
 | (refine Runs.ctls 30 rfl ?_; first | refine Runs.cond_t rfl ?_ | (refine Runs.cond_yes rfl ?_ ?_; · first | omega | rfl | assumption | (simp only [List.length_map]; omega)) | (refine Runs.cond_no rfl ?_ ?_; · first | omega | rfl | assumption | (simp only [List.length_map]; omega)) | refine Runs.ret (ends_ro hm rfl rfl ?_) | exact Runs.ret (ends_cellR hm rfl rfl rfl (Nat.le_of_ble_eq_true rfl) rfl rfl))
 | refine op_box rfl (tl hn rfl) ?_
 | refine RunsD.step tabOk hn rfl rfl ?_
 | refine RunsD.nil ?_
 | refine Runs.toDraw 30 mixed hn rfl (by kernel_rfl) rfl ?_
 | ((first | refine RunsL.pe hn rfl rfl rfl ?_ | refine RunsD.pe rfl rfl ?_); first
 | refine ⟨_, pu_indexAddr_map rfl rfl (by omega) (by assumption), ?_⟩)
 | ((first | refine RunsL.guard_dec rfl rfl rfl ?_ ?_ | refine RunsL.guard_nb rfl rfl rfl ?_ ?_ | refine RunsD.guard_dec rfl rfl rfl ?_ ?_) <;> intro h <;> try (exfalso; first | omega | contradiction | (simp only [List.length_map] at h; omega))))
    all_goals exact rr_bool (by rw [Bool.eq_iff_iff]; simp [KindI, *])
  by_cases k2 : r.kind = 2
  · repeat' (first
 | refine RunsL.step tabOk hn rfl ?_
 | refine RunsL.nil ?_
 | refine Runs.toRegion 30 rfl ?_
 | ((first | refine RunsL.pe hn rfl rfl rfl ?_ | refine RunsD.pe rfl rfl ?_); first
 | refine ⟨_, pu_callR (plainRule1_ac r _) rfl, ?_⟩
 | refine ⟨_, pu_callR (inRange_ac _ _ _) rfl, ?_⟩)
 | (refine Runs.ctls 30 rfl ?_; first | refine Runs.cond_t rfl ?_ | (refine Runs.cond_yes rfl ?_ ?_; · first | omega | rfl | assumption | (simp only [List.length_map]; omega)) | (refine Runs.cond_no rfl ?_ ?_; · first | omega | rfl | assumption | (simp only [List.length_map]; omega)) | refine Runs.ret (ends_ro hm rfl rfl ?_) | exact Runs.ret (ends_cellR hm rfl rfl rfl (Nat.le_of_ble_eq_true rfl) rfl rfl))
 | refine op_box rfl (tl hn rfl) ?_
 | refine RunsD.step tabOk hn rfl rfl ?_
 | refine RunsD.nil ?_
 | refine Runs.toDraw 30 mixed hn rfl (by kernel_rfl) rfl ?_
 | ((first | refine RunsL.pe hn rfl rfl rfl ?_ | refine RunsD.pe rfl rfl ?_); first
 | refine ⟨_, pu_indexAddr_map rfl rfl (by omega) (by assumption), ?_⟩)
 | ((first | refine RunsL.guard_dec rfl rfl rfl ?_ ?_ | refine RunsL.guard_nb rfl rfl rfl ?_ ?_ | refine RunsD.guard_dec rfl rfl rfl ?_ ?_) <;> intro h <;> try (exfalso; first | omega | contradiction | (simp only [List.length_map] at h; omega))))
    all_goals exact rr_bool (by rw [Bool.eq_iff_iff]; simp [KindI, *])
  by_cases k3 : r.kind = 3
  · repeat' (first
 | refine RunsL.step tabOk hn rfl ?_
 | refine RunsL.nil ?_
 | refine Runs.toRegion 30 rfl ?_
 | ((first | refine RunsL.pe hn rfl rfl rfl ?_ | refine RunsD.pe rfl rfl ?_); first
 | refine ⟨_, pu_callR (plainRule0_ac r _) rfl, ?_⟩
 | refine ⟨_, pu_callR (inRange_ac _ _ _) rfl, ?_⟩)
 | (refine Runs.ctls 30 rfl ?_; first | refine Runs.cond_t rfl ?_ | (refine Runs.cond_yes rfl ?_ ?_; · first | omega | rfl | assumption | (simp only [List.length_map]; omega)) | (refine Runs.cond_no rfl ?_ ?_; · first | omega | rfl | assumption | (simp only [List.length_map]; omega)) | refine Runs.ret (ends_ro hm rfl rfl ?_) | exact Runs.ret (ends_cellR hm rfl rfl rfl (Nat.le_of_ble_eq_true rfl) rfl rfl))
 | refine op_box rfl (tl hn rfl) ?_
 | refine RunsD.step tabOk hn rfl rfl ?_
 | refine RunsD.nil ?_
 | refine Runs.toDraw 30 mixed hn rfl (by kernel_rfl) rfl ?_
 | ((first | refine RunsL.pe hn rfl rfl rfl ?_ | refine RunsD.pe rfl rfl ?_); first
 | refine ⟨_, pu_indexAddr_map rfl rfl (by omega) (by assumption), ?_⟩)
 | ((first | refine RunsL.guard_dec rfl rfl rfl ?_ ?_ | refine RunsL.guard_nb rfl rfl rfl ?_ ?_ | refine RunsD.guard_dec rfl rfl rfl ?_ ?_) <;> intro h <;> try (exfalso; first | omega | contradiction | (simp only [List.length_map] at h; omega))))
    all_goals exact rr_bool (by rw [Bool.eq_iff_iff]; simp [KindI, *])
  by_cases k4 : r.kind = 4
  · by_cases hS : Plain r false false false false 1
    · have hk0 := head_at (l := r.kids) (by have := hS.kids (by omega); omega)
      repeat' (first
 | refine RunsL.step tabOk hn rfl ?_
 | refine RunsL.nil ?_
 | refine Runs.toRegion 30 rfl ?_
 | ((first | refine RunsL.pe hn rfl rfl rfl ?_ | refine RunsD.pe rfl rfl ?_); first
 | refine ⟨_, pu_callR (plainRule4_ac r _) rfl, ?_⟩
 | refine ⟨_, pu_callR hlim rfl, ?_⟩)
 | (refine Runs.ctls 30 rfl ?_; first | refine Runs.cond_t rfl ?_ | (refine Runs.cond_yes rfl ?_ ?_; · first | omega | rfl | assumption | (simp only [List.length_map]; omega)) | (refine Runs.cond_no rfl ?_ ?_; · first | omega | rfl | assumption | (simp only [List.length_map]; omega)) | refine Runs.ret (ends_ro hm rfl rfl ?_) | exact Runs.ret (ends_cellR hm rfl rfl rfl (Nat.le_of_ble_eq_true rfl) rfl rfl))
 | refine op_box rfl (tl hn rfl) ?_
 | refine RunsD.step tabOk hn rfl rfl ?_
 | refine RunsD.nil ?_
 | refine Runs.toDraw 30 mixed hn rfl (by kernel_rfl) rfl ?_
 | ((first | refine RunsL.pe hn rfl rfl rfl ?_ | refine RunsD.pe rfl rfl ?_); first
 | refine ⟨_, pu_indexAddr_map rfl rfl (by omega) (by assumption), ?_⟩)
 | ((first | refine RunsL.guard_dec rfl rfl rfl ?_ ?_ | refine RunsL.guard_nb rfl rfl rfl ?_ ?_ | refine RunsD.guard_dec rfl rfl rfl ?_ ?_) <;> intro h <;> try (exfalso; first | omega | contradiction | (simp only [List.length_map] at h; omega))))
      all_goals exact rr_bool (by rw [Bool.eq_iff_iff]; simp [KindI, *])
    · repeat' (first
 | refine RunsL.step tabOk hn rfl ?_
 | refine RunsL.nil ?_
 | refine Runs.toRegion 30 rfl ?_
 | ((first | refine RunsL.pe hn rfl rfl rfl ?_ | refine RunsD.pe rfl rfl ?_); first
 | refine ⟨_, pu_callR (plainRule4_ac r _) rfl, ?_⟩)
 | (refine Runs.ctls 30 rfl ?_; first | refine Runs.cond_t rfl ?_ | (refine Runs.cond_yes rfl ?_ ?_; · first | omega | rfl | assumption | (simp only [List.length_map]; omega)) | (refine Runs.cond_no rfl ?_ ?_; · first | omega | rfl | assumption | (simp only [List.length_map]; omega)) | refine Runs.ret (ends_ro hm rfl rfl ?_) | exact Runs.ret (ends_cellR hm rfl rfl rfl (Nat.le_of_ble_eq_true rfl) rfl rfl))
 | refine op_box rfl (tl hn rfl) ?_
 | refine RunsD.step tabOk hn rfl rfl ?_
 | refine RunsD.nil ?_
 | refine Runs.toDraw 30 mixed hn rfl (by kernel_rfl) rfl ?_
 | ((first | refine RunsL.pe hn rfl rfl rfl ?_ | refine RunsD.pe rfl rfl ?_); first
 | refine ⟨_, pu_indexAddr_map rfl rfl (by omega) (by assumption), ?_⟩)
 | ((first | refine RunsL.guard_dec rfl rfl rfl ?_ ?_ | refine RunsL.guard_nb rfl rfl rfl ?_ ?_ | refine RunsD.guard_dec rfl rfl rfl ?_ ?_) <;> intro h <;> try (exfalso; first | omega | contradiction | (simp only [List.length_map] at h; omega))))
      all_goals exact rr_bool (by rw [Bool.eq_iff_iff]; simp [KindI, *])
  by_cases k5 : r.kind = 5
  · by_cases hS : Plain r false false false false 2
    · have hk0 := head_at (l := r.kids) (by have := hS.kids (by omega); omega)
      repeat' (first
 | refine RunsL.step tabOk hn rfl ?_
 | refine RunsL.nil ?_
 | refine Runs.toRegion 30 rfl ?_
 | ((first | refine RunsL.pe hn rfl rfl rfl ?_ | refine RunsD.pe rfl rfl ?_); first
 | refine ⟨_, pu_callR (plainRule4_ac r _) rfl, ?_⟩
 | refine ⟨_, pu_callR hlim rfl, ?_⟩)
 | (refine Runs.ctls 30 rfl ?_; first | refine Runs.cond_t rfl ?_ | (refine Runs.cond_yes rfl ?_ ?_; · first | omega | rfl | assumption | (simp only [List.length_map]; omega)) | (refine Runs.cond_no rfl ?_ ?_; · first | omega | rfl | assumption | (simp only [List.length_map]; omega)) | refine Runs.ret (ends_ro hm rfl rfl ?_) | exact Runs.ret (ends_cellR hm rfl rfl rfl (Nat.le_of_ble_eq_true rfl) rfl rfl))
 | refine op_box rfl (tl hn rfl) ?_
 | refine RunsD.step tabOk hn rfl rfl ?_
 | refine RunsD.nil ?_
 | refine Runs.toDraw 30 mixed hn rfl (by kernel_rfl) rfl ?_
 | ((first | refine RunsL.pe hn rfl rfl rfl ?_ | refine RunsD.pe rfl rfl ?_); first
 | refine ⟨_, pu_indexAddr_map rfl rfl (by omega) (by assumption), ?_⟩)
 | ((first | refine RunsL.guard_dec rfl rfl rfl ?_ ?_ | refine RunsL.guard_nb rfl rfl rfl ?_ ?_ | refine RunsD.guard_dec rfl rfl rfl ?_ ?_) <;> intro h <;> try (exfalso; first | omega | contradiction | (simp only [List.length_map] at h; omega))))
      all_goals exact rr_bool (by rw [Bool.eq_iff_iff]; simp [KindI, *])
    · repeat' (first
 | refine RunsL.step tabOk hn rfl ?_
 | refine RunsL.nil ?_
 | refine Runs.toRegion 30 rfl ?_
 | ((first | refine RunsL.pe hn rfl rfl rfl ?_ | refine RunsD.pe rfl rfl ?_); first
 | refine ⟨_, pu_callR (plainRule4_ac r _) rfl, ?_⟩)
 | (refine Runs.ctls 30 rfl ?_; first | refine Runs.cond_t rfl ?_ | (refine Runs.cond_yes rfl ?_ ?_; · first | omega | rfl | assumption | (simp only [List.length_map]; omega)) | (refine Runs.cond_no rfl ?_ ?_; · first | omega | rfl | assumption | (simp only [List.length_map]; omega)) | refine Runs.ret (ends_ro hm rfl rfl ?_) | exact Runs.ret (ends_cellR hm rfl rfl rfl (Nat.le_of_ble_eq_true rfl) rfl rfl))
 | refine op_box rfl (tl hn rfl) ?_
 | refine RunsD.step tabOk hn rfl rfl ?_
 | refine RunsD.nil ?_
 | refine Runs.toDraw 30 mixed hn rfl (by kernel_rfl) rfl ?_
 | ((first | refine RunsL.pe hn rfl rfl rfl ?_ | refine RunsD.pe rfl rfl ?_); first
 | refine ⟨_, pu_indexAddr_map rfl rfl (by omega) (by assumption), ?_⟩)
 | ((first | refine RunsL.guard_dec rfl rfl rfl ?_ ?_ | refine RunsL.guard_nb rfl rfl rfl ?_ ?_ | refine RunsD.guard_dec rfl rfl rfl ?_ ?_) <;> intro h <;> try (exfalso; first | omega | contradiction | (simp only [List.length_map] at h; omega))))
      all_goals exact rr_bool (by rw [Bool.eq_iff_iff]; simp [KindI, *])
  by_cases k6 : r.kind = 6
  · repeat' (first
 | refine RunsL.step tabOk hn rfl ?_
 | refine RunsL.nil ?_
 | refine Runs.toRegion 30 rfl ?_
 | ((first | refine RunsL.pe hn rfl rfl rfl ?_ | refine RunsD.pe rfl rfl ?_); first
 | refine ⟨_, pu_callR hseq rfl, ?_⟩)
 | (refine Runs.ctls 30 rfl ?_; first | refine Runs.cond_t rfl ?_ | (refine Runs.cond_yes rfl ?_ ?_; · first | omega | rfl | assumption | (simp only [List.length_map]; omega)) | (refine Runs.cond_no rfl ?_ ?_; · first | omega | rfl | assumption | (simp only [List.length_map]; omega)) | refine Runs.ret (ends_ro hm rfl rfl ?_) | exact Runs.ret (ends_cellR hm rfl rfl rfl (Nat.le_of_ble_eq_true rfl) rfl rfl))
 | refine op_box rfl (tl hn rfl) ?_
 | refine RunsD.step tabOk hn rfl rfl ?_
 | refine RunsD.nil ?_
 | refine Runs.toDraw 30 mixed hn rfl (by kernel_rfl) rfl ?_
 | ((first | refine RunsL.pe hn rfl rfl rfl ?_ | refine RunsD.pe rfl rfl ?_); first
 | refine ⟨_, pu_indexAddr_map rfl rfl (by omega) (by assumption), ?_⟩)
 | ((first | refine RunsL.guard_dec rfl rfl rfl ?_ ?_ | refine RunsL.guard_nb rfl rfl rfl ?_ ?_ | refine RunsD.guard_dec rfl rfl rfl ?_ ?_) <;> intro h <;> try (exfalso; first | omega | contradiction | (simp only [List.length_map] at h; omega))))
    all_goals exact rr_bool (by rw [Bool.eq_iff_iff]; simp [KindI, *])
  by_cases k7 : r.kind = 7
  · repeat' (first
 | refine RunsL.step tabOk hn rfl ?_
 | refine RunsL.nil ?_
 | refine Runs.toRegion 30 rfl ?_
 | ((first | refine RunsL.pe hn rfl rfl rfl ?_ | refine RunsD.pe rfl rfl ?_); first
 | refine ⟨_, pu_callR hcho rfl, ?_⟩)
 | (refine Runs.ctls 30 rfl ?_; first | refine Runs.cond_t rfl ?_ | (refine Runs.cond_yes rfl ?_ ?_; · first | omega | rfl | assumption | (simp only [List.length_map]; omega)) | (refine Runs.cond_no rfl ?_ ?_; · first | omega | rfl | assumption | (simp only [List.length_map]; omega)) | refine Runs.ret (ends_ro hm rfl rfl ?_) | exact Runs.ret (ends_cellR hm rfl rfl rfl (Nat.le_of_ble_eq_true rfl) rfl rfl))
 | refine op_box rfl (tl hn rfl) ?_
 | refine RunsD.step tabOk hn rfl rfl ?_
 | refine RunsD.nil ?_
 | refine Runs.toDraw 30 mixed hn rfl (by kernel_rfl) rfl ?_
 | ((first | refine RunsL.pe hn rfl rfl rfl ?_ | refine RunsD.pe rfl rfl ?_); first
 | refine ⟨_, pu_indexAddr_map rfl rfl (by omega) (by assumption), ?_⟩)
 | ((first | refine RunsL.guard_dec rfl rfl rfl ?_ ?_ | refine RunsL.guard_nb rfl rfl rfl ?_ ?_ | refine RunsD.guard_dec rfl rfl rfl ?_ ?_) <;> intro h <;> try (exfalso; first | omega | contradiction | (simp only [List.length_map] at h; omega))))
    all_goals exact rr_bool (by rw [Bool.eq_iff_iff]; simp [KindI, *])
  by_cases k8 : r.kind = 8
  · repeat' (first
 | refine RunsL.step tabOk hn rfl ?_
 | refine RunsL.nil ?_
 | refine Runs.toRegion 30 rfl ?_
 | ((first | refine RunsL.pe hn rfl rfl rfl ?_ | refine RunsD.pe rfl rfl ?_); first
 | refine ⟨_, pu_callR (plainRule4_ac r _) rfl, ?_⟩)
 | (refine Runs.ctls 30 rfl ?_; first | refine Runs.cond_t rfl ?_ | (refine Runs.cond_yes rfl ?_ ?_; · first | omega | rfl | assumption | (simp only [List.length_map]; omega)) | (refine Runs.cond_no rfl ?_ ?_; · first | omega | rfl | assumption | (simp only [List.length_map]; omega)) | refine Runs.ret (ends_ro hm rfl rfl ?_) | exact Runs.ret (ends_cellR hm rfl rfl rfl (Nat.le_of_ble_eq_true rfl) rfl rfl))
 | refine op_box rfl (tl hn rfl) ?_
 | refine RunsD.step tabOk hn rfl rfl ?_
 | refine RunsD.nil ?_
 | refine Runs.toDraw 30 mixed hn rfl (by kernel_rfl) rfl ?_
 | ((first | refine RunsL.pe hn rfl rfl rfl ?_ | refine RunsD.pe rfl rfl ?_); first
 | refine ⟨_, pu_indexAddr_map rfl rfl (by omega) (by assumption), ?_⟩)
 | ((first | refine RunsL.guard_dec rfl rfl rfl ?_ ?_ | refine RunsL.guard_nb rfl rfl rfl ?_ ?_ | refine RunsD.guard_dec rfl rfl rfl ?_ ?_) <;> intro h <;> try (exfalso; first | omega | contradiction | (simp only [List.length_map] at h; omega))))
    all_goals exact rr_bool (by rw [Bool.eq_iff_iff]; simp [KindI, *])
  by_cases k9 : r.kind = 9
  · repeat' (first
 | refine RunsL.step tabOk hn rfl ?_
 | refine RunsL.nil ?_
 | refine Runs.toRegion 30 rfl ?_
 | ((first | refine RunsL.pe hn rfl rfl rfl ?_ | refine RunsD.pe rfl rfl ?_); first
 | refine ⟨_, pu_callR (plainRule4_ac r _) rfl, ?_⟩)
 | (refine Runs.ctls 30 rfl ?_; first | refine Runs.cond_t rfl ?_ | (refine Runs.cond_yes rfl ?_ ?_; · first | omega | rfl | assumption | (simp only [List.length_map]; omega)) | (refine Runs.cond_no rfl ?_ ?_; · first | omega | rfl | assumption | (simp only [List.length_map]; omega)) | refine Runs.ret (ends_ro hm rfl rfl ?_) | exact Runs.ret (ends_cellR hm rfl rfl rfl (Nat.le_of_ble_eq_true rfl) rfl rfl))
 | refine op_box rfl (tl hn rfl) ?_
 | refine RunsD.step tabOk hn rfl rfl ?_
 | refine RunsD.nil ?_
 | refine Runs.toDraw 30 mixed hn rfl (by kernel_rfl) rfl ?_
 | ((first | refine RunsL.pe hn rfl rfl rfl ?_ | refine RunsD.pe rfl rfl ?_); first
 | refine ⟨_, pu_indexAddr_map rfl rfl (by omega) (by assumption), ?_⟩)
 | ((first | refine RunsL.guard_dec rfl rfl rfl ?_ ?_ | refine RunsL.guard_nb rfl rfl rfl ?_ ?_ | refine RunsD.guard_dec rfl rfl rfl ?_ ?_) <;> intro h <;> try (exfalso; first | omega | contradiction | (simp only [List.length_map] at h; omega))))
    all_goals exact rr_bool (by rw [Bool.eq_iff_iff]; simp [KindI, *])
  by_cases k10 : r.kind = 10
  · by_cases hb : r.bytes.length = 1
    · have hb0 := headB_at (l := r.bytes) (by omega)
      have hu : ((r.bytes.headD 0).toNat : Int) = 92 ↔ r.bytes.headD 0 = 92 := ⟨fun h => u8_ext h, fun h => by rw [h]; rfl⟩
      repeat' (first
 | refine RunsL.step tabOk hn rfl ?_
 | refine RunsL.nil ?_
 | refine Runs.toRegion 30 rfl ?_
 | ((first | refine RunsL.pe hn rfl rfl rfl ?_ | refine RunsD.pe rfl rfl ?_); first
 | refine ⟨_, pu_callR (plainRule1_ac r _) rfl, ?_⟩)
 | (refine Runs.ctls 30 rfl ?_; first | refine Runs.cond_t rfl ?_ | (refine Runs.cond_yes rfl ?_ ?_; · first | omega | rfl | assumption | (simp only [List.length_map]; omega)) | (refine Runs.cond_no rfl ?_ ?_; · first | omega | rfl | assumption | (simp only [List.length_map]; omega)) | refine Runs.ret (ends_ro hm rfl rfl ?_) | exact Runs.ret (ends_cellR hm rfl rfl rfl (Nat.le_of_ble_eq_true rfl) rfl rfl))
 | refine op_box rfl (tl hn rfl) ?_
 | refine RunsD.step tabOk hn rfl rfl ?_
 | refine RunsD.nil ?_
 | refine Runs.toDraw 30 mixed hn rfl (by kernel_rfl) rfl ?_
 | ((first | refine RunsL.pe hn rfl rfl rfl ?_ | refine RunsD.pe rfl rfl ?_); first
 | refine ⟨_, pu_indexAddr_map rfl rfl (by omega) (by assumption), ?_⟩)
 | ((first | refine RunsL.guard_dec rfl rfl rfl ?_ ?_ | refine RunsL.guard_nb rfl rfl rfl ?_ ?_ | refine RunsD.guard_dec rfl rfl rfl ?_ ?_) <;> intro h <;> try (exfalso; first | omega | contradiction | (simp only [List.length_map] at h; omega))))
      all_goals exact rr_bool (by rw [Bool.eq_iff_iff]; first | (simp [KindI, *]; done) | (simp [KindI, *]; exact not_congr (by simpa using hu)))
    · repeat' (first
 | refine RunsL.step tabOk hn rfl ?_
 | refine RunsL.nil ?_
 | refine Runs.toRegion 30 rfl ?_
 | ((first | refine RunsL.pe hn rfl rfl rfl ?_ | refine RunsD.pe rfl rfl ?_); first
 | refine ⟨_, pu_callR (plainRule1_ac r _) rfl, ?_⟩)
 | (refine Runs.ctls 30 rfl ?_; first | refine Runs.cond_t rfl ?_ | (refine Runs.cond_yes rfl ?_ ?_; · first | omega | rfl | assumption | (simp only [List.length_map]; omega)) | (refine Runs.cond_no rfl ?_ ?_; · first | omega | rfl | assumption | (simp only [List.length_map]; omega)) | refine Runs.ret (ends_ro hm rfl rfl ?_) | exact Runs.ret (ends_cellR hm rfl rfl rfl (Nat.le_of_ble_eq_true rfl) rfl rfl))
 | refine op_box rfl (tl hn rfl) ?_
 | refine RunsD.step tabOk hn rfl rfl ?_
 | refine RunsD.nil ?_
 | refine Runs.toDraw 30 mixed hn rfl (by kernel_rfl) rfl ?_
 | ((first | refine RunsL.pe hn rfl rfl rfl ?_ | refine RunsD.pe rfl rfl ?_); first
 | refine ⟨_, pu_indexAddr_map rfl rfl (by omega) (by assumption), ?_⟩)
 | ((first | refine RunsL.guard_dec rfl rfl rfl ?_ ?_ | refine RunsL.guard_nb rfl rfl rfl ?_ ?_ | refine RunsD.guard_dec rfl rfl rfl ?_ ?_) <;> intro h <;> try (exfalso; first | omega | contradiction | (simp only [List.length_map] at h; omega))))
      all_goals exact rr_bool (by rw [Bool.eq_iff_iff]; simp [KindI, *])
  · repeat' (first
 | refine RunsL.step tabOk hn rfl ?_
 | refine RunsL.nil ?_
 | refine Runs.toRegion 30 rfl ?_
 | (refine Runs.ctls 30 rfl ?_; first | refine Runs.cond_t rfl ?_ | (refine Runs.cond_yes rfl ?_ ?_; · first | omega | rfl | assumption | (simp only [List.length_map]; omega)) | (refine Runs.cond_no rfl ?_ ?_; · first | omega | rfl | assumption | (simp only [List.length_map]; omega)) | refine Runs.ret (ends_ro hm rfl rfl ?_) | exact Runs.ret (ends_cellR hm rfl rfl rfl (Nat.le_of_ble_eq_true rfl) rfl rfl))
 | refine op_box rfl (tl hn rfl) ?_
 | refine RunsD.step tabOk hn rfl rfl ?_
 | refine RunsD.nil ?_
 | refine Runs.toDraw 30 mixed hn rfl (by kernel_rfl) rfl ?_
 | ((first | refine RunsL.pe hn rfl rfl rfl ?_ | refine RunsD.pe rfl rfl ?_); first
 | refine ⟨_, pu_indexAddr_map rfl rfl (by omega) (by assumption), ?_⟩)
 | ((first | refine RunsL.guard_dec rfl rfl rfl ?_ ?_ | refine RunsL.guard_nb rfl rfl rfl ?_ ?_ | refine RunsD.guard_dec rfl rfl rfl ?_ ?_) <;> intro h <;> try (exfalso; first | omega | contradiction | (simp only [List.length_map] at h; omega))))
    all_goals exact rr_bool (by rw [Bool.eq_iff_iff]; simp [KindI, *])
set_option maxHeartbeats 8000000 in
theorem impl_IsValidRule (d : Des) (ho : DesOk d) (hd : dtotal d ≤ 1048576) (i : Int) (hi : I64 i) : ACv Try.prog 133 [desR d, .int i] (.bool (decide (RuleAt d i))) := by
  have hlm : (d.map rulR).length = d.length := List.length_map ..
  have hl := ho.len
  have et : dtotal d = d.length + (d.map Rul.total).sum := rfl
  unfold I64 at hi
  by_cases hx : HasR d i
  · obtain ⟨r, hr⟩ : ∃ r, d[i.toNat]? = some r := ⟨_, List.getElem?_eq_getElem (by omega)⟩
    have hmem := List.mem_of_getElem? hr
    have hro := ho.rules r hmem
    obtain ⟨o1, o2, o3, o4, o5, o6, o7⟩ := hro.lens
    have hrt := sum_mem_le Rul.total hmem
    have er : r.total = r.name.size + r.bytes.length + (r.names.length + (r.names.map ByteArray.size).sum) + r.tags.length + r.kids.length := rfl
    have hnm := impl_IsName r.name o1
    have hk := validKind_ac d r hl (by omega) o3 o4
    have hiff := ruleAt_iff hx.1 hr
    have hkk := kindI_iff d r
    have hhr := hasRule_ac d i
    obtain ⟨n, rfl⟩ : ∃ n : Nat, i = n := ⟨i.toNat, by omega⟩
    simp only [Int.toNat_natCast] at hiff
    have hlt0 : n < d.length := by have := hx.2; omega
    have htl : (d.take n).length = n := by rw [List.length_take]; omega
    have htlm : ((d.take n).map rulR).length = n := by rw [List.length_map]; exact htl
    refine ac_enter Try.func133 rfl _ Try.ntmps133 (by simp) fun C hn hm => ?_
    by_cases hn1 : IsNm r.name
    · by_cases hli : r.little = false ∨ r.kind = 1
      · have hli' : ¬ (r.little = true ∧ ¬ r.kind = 1) := fun h => by rcases hli with e | e; rw [e] at h; cases h.1; exact h.2 e
        repeat' (first
 | refine RunsL.step tabOk hn rfl ?_
 | refine RunsL.nil ?_
 | refine Runs.toRegion 30 rfl ?_
 | (refine RunsL.pe hn rfl rfl rfl ?_; first
 | refine ⟨_, pu_callR hhr rfl, ?_⟩
 | refine ⟨_, pu_callR hnm rfl, ?_⟩
 | refine ⟨_, pu_slice_hM rfl rfl (by omega) (by omega), ?_⟩)
 | (refine Runs.ctls 30 rfl ?_; first | refine Runs.cond_t rfl ?_ | refine Runs.cond_f rfl ?_ | ((first | refine Runs.cond_yes rfl ?_ ?_ | refine Runs.cond_nno rfl ?_ ?_); · first | omega | rfl | assumption | (simp only [List.length_map]; omega)) | ((first | refine Runs.cond_no rfl ?_ ?_ | refine Runs.cond_nyes rfl ?_ ?_); · first | omega | rfl | assumption | (simp only [List.length_map]; omega)) | refine Runs.cond_ndec rfl (fun h => ?_) (fun h => ?_) | refine Runs.ret (ends_ro hm rfl rfl ?_) | exact Runs.ret (ends_cellR hm rfl rfl rfl (Nat.le_of_ble_eq_true rfl) rfl rfl))
 | refine op_box rfl (tl hn rfl) ?_
 | refine op_alloc (tl hn rfl) ?_
 | refine op_storeN rfl rfl rfl rfl (Nat.le_of_ble_eq_true rfl) ?_
 | (refine RunsL.pe hn rfl rfl rfl ?_; first
 | refine ⟨_, pu_add rfl rfl (by omega), ?_⟩
 | refine ⟨_, pu_indexAddr_map rfl rfl (by omega) (by assumption), ?_⟩
            )
 | ((first | refine RunsL.guard_dec rfl rfl rfl ?_ ?_ | refine RunsL.guard_ndec rfl rfl rfl ?_ ?_ | refine RunsL.guard_b rfl rfl rfl ?_ ?_) <;> intro h <;> try (exfalso; first | omega | contradiction | (simp only [List.length_map] at h; omega))))
        all_goals try (exfalso; exact hli' ⟨by assumption, by assumption⟩)
        all_goals
          refine Runs.loopD 30 rfl (fun j => [(35, .ro (.seq 8 ((d.take n).map rulR))), (36, .int (n : Int)), (2, .obj 0 0), (5, .obj 1 0), (1, .int (n : Int)), (37, .int (j : Int))]) (fun _ => [⟨38, 0, [.ro (rulsR d)]⟩, ⟨52, 0, [.str r.name, .int r.kind, .int r.size, .bool r.little, .ro (bytesR r.bytes), .ro (strsR r.names), .ro (intsR r.tags), .ro (intsR r.kids)]⟩]) (fun j => ⟨by simp [Free, AV.only], by simp [FreeO, AV.onlys, AV.only]⟩) (fun j => ∀ (k : Nat) x, k < j → d[k]? = some x → ¬ x.name = r.name) n 0 (Nat.zero_le _) (fun k x h => absurd h (by omega)) ⟨rfl, by simp only [look]; exact congrArg (fun z : Nat => AV.int (z : Int)) htlm, rfl, rfl, rfl, rfl, trivial⟩ rfl fun j hj hQ next => ?_
          by_cases hlt : j < n
          · obtain ⟨x, hxj⟩ : ∃ x, (d.take n)[(j : Int).toNat]? = some x := ⟨_, List.getElem?_eq_getElem (by simp; omega)⟩
            have hx' : d[j]? = some x := by
              have h : (d.take n)[j]? = some x := hxj
              rwa [List.getElem?_take, if_pos hlt] at h
            by_cases hq : x.name = r.name
            · repeat' (first
 | (refine RunsL.pe hn rfl rfl rfl ?_; first
 | refine ⟨_, pu_eqlSame rfl (by rw [hq]; rfl), ?_⟩)
 | refine RunsL.step tabOk hn rfl ?_
 | refine RunsL.nil ?_
 | refine Runs.toRegion 30 rfl ?_
 | (refine Runs.ctls 30 rfl ?_; first | refine Runs.cond_t rfl ?_ | refine Runs.cond_f rfl ?_ | ((first | refine Runs.cond_yes rfl ?_ ?_ | refine Runs.cond_nno rfl ?_ ?_); · first | omega | rfl | assumption | (simp only [List.length_map]; omega)) | ((first | refine Runs.cond_no rfl ?_ ?_ | refine Runs.cond_nyes rfl ?_ ?_); · first | omega | rfl | assumption | (simp only [List.length_map]; omega)) | refine Runs.cond_ndec rfl (fun h => ?_) (fun h => ?_) | refine Runs.ret (ends_ro hm rfl rfl ?_) | exact Runs.ret (ends_cellR hm rfl rfl rfl (Nat.le_of_ble_eq_true rfl) rfl rfl))
 | refine op_box rfl (tl hn rfl) ?_
 | refine op_alloc (tl hn rfl) ?_
 | refine op_storeN rfl rfl rfl rfl (Nat.le_of_ble_eq_true rfl) ?_
 | (refine RunsL.pe hn rfl rfl rfl ?_; first
 | refine ⟨_, pu_add rfl rfl (by omega), ?_⟩
 | refine ⟨_, pu_indexAddr_map rfl rfl (by omega) (by assumption), ?_⟩
                )
 | ((first | refine RunsL.guard_dec rfl rfl rfl ?_ ?_ | refine RunsL.guard_ndec rfl rfl rfl ?_ ?_ | refine RunsL.guard_b rfl rfl rfl ?_ ?_) <;> intro h <;> try (exfalso; first | omega | contradiction | (simp only [List.length_map] at h; omega))))
              all_goals exact rr_bool (decide_eq_false (p := RuleAt d n) fun hN => (hiff.1 hN).1 j x hlt hx' hq).symm
            · repeat' (first
 | (refine RunsL.pe hn rfl rfl rfl ?_; first
 | refine ⟨_, pu_eqlDiff rfl rfl (by assumption), ?_⟩)
 | refine RunsL.step tabOk hn rfl ?_
 | refine RunsL.nil ?_
 | refine Runs.toRegion 30 rfl ?_
 | (refine Runs.ctls 30 rfl ?_; first | refine Runs.cond_t rfl ?_ | refine Runs.cond_f rfl ?_ | ((first | refine Runs.cond_yes rfl ?_ ?_ | refine Runs.cond_nno rfl ?_ ?_); · first | omega | rfl | assumption | (simp only [List.length_map]; omega)) | ((first | refine Runs.cond_no rfl ?_ ?_ | refine Runs.cond_nyes rfl ?_ ?_); · first | omega | rfl | assumption | (simp only [List.length_map]; omega)) | refine Runs.cond_ndec rfl (fun h => ?_) (fun h => ?_) | refine Runs.ret (ends_ro hm rfl rfl ?_) | exact Runs.ret (ends_cellR hm rfl rfl rfl (Nat.le_of_ble_eq_true rfl) rfl rfl))
 | refine op_box rfl (tl hn rfl) ?_
 | refine op_alloc (tl hn rfl) ?_
 | refine op_storeN rfl rfl rfl rfl (Nat.le_of_ble_eq_true rfl) ?_
 | (refine RunsL.pe hn rfl rfl rfl ?_; first
 | refine ⟨_, pu_add rfl rfl (by omega), ?_⟩
 | refine ⟨_, pu_indexAddr_map rfl rfl (by omega) (by assumption), ?_⟩
                )
 | ((first | refine RunsL.guard_dec rfl rfl rfl ?_ ?_ | refine RunsL.guard_ndec rfl rfl rfl ?_ ?_ | refine RunsL.guard_b rfl rfl rfl ?_ ?_) <;> intro h <;> try (exfalso; first | omega | contradiction | (simp only [List.length_map] at h; omega))))
              refine next _ _ [_] ⟨rfl, rfl, rfl, rfl, rfl, rfl, trivial⟩ hlt (fun k y hkj hy => ?_) rfl
              by_cases e : k = j
              · subst e; rw [hx'] at hy; injection hy with hy; subst hy; exact hq
              · exact hQ k y (by omega) hy
          · obtain rfl : j = n := by omega
            repeat' (first
 | refine RunsL.step tabOk hn rfl ?_
 | refine RunsL.nil ?_
 | refine Runs.toRegion 30 rfl ?_
 | (refine Runs.ctls 30 rfl ?_; first | refine Runs.cond_t rfl ?_ | refine Runs.cond_f rfl ?_ | ((first | refine Runs.cond_yes rfl ?_ ?_ | refine Runs.cond_nno rfl ?_ ?_); · first | omega | rfl | assumption | (simp only [List.length_map]; omega)) | ((first | refine Runs.cond_no rfl ?_ ?_ | refine Runs.cond_nyes rfl ?_ ?_); · first | omega | rfl | assumption | (simp only [List.length_map]; omega)) | refine Runs.cond_ndec rfl (fun h => ?_) (fun h => ?_) | refine Runs.ret (ends_ro hm rfl rfl ?_) | exact Runs.ret (ends_cellR hm rfl rfl rfl (Nat.le_of_ble_eq_true rfl) rfl rfl))
 | refine op_box rfl (tl hn rfl) ?_
 | refine op_alloc (tl hn rfl) ?_
 | refine op_storeN rfl rfl rfl rfl (Nat.le_of_ble_eq_true rfl) ?_
 | (refine RunsL.pe hn rfl rfl rfl ?_; first
 | refine ⟨_, pu_add rfl rfl (by omega), ?_⟩
 | refine ⟨_, pu_indexAddr_map rfl rfl (by omega) (by assumption), ?_⟩
                )
 | ((first | refine RunsL.guard_dec rfl rfl rfl ?_ ?_ | refine RunsL.guard_ndec rfl rfl rfl ?_ ?_ | refine RunsL.guard_b rfl rfl rfl ?_ ?_) <;> intro h <;> try (exfalso; first | omega | contradiction | (simp only [List.length_map] at h; omega))))
            refine Runs.loopN 30 rfl (fun m => [(48, .ro (intsR r.kids)), (49, .int (r.kids.length : Int)), (2, .obj 0 0), (5, .obj 1 0), (1, .int (j : Int)), (50, .int (m : Int))]) (fun _ => [⟨38, 0, [.ro (rulsR d)]⟩, ⟨52, 0, [.str r.name, .int r.kind, .int r.size, .bool r.little, .ro (bytesR r.bytes), .ro (strsR r.names), .ro (intsR r.tags), .ro (intsR r.kids)]⟩]) (fun m => ∀ (k : Nat) z, k < m → r.kids[k]? = some z → 0 ≤ z ∧ z < j) r.kids.length 0 (Nat.zero_le _) (fun k x h => absurd h (by omega)) ⟨rfl, by simp [look], rfl, rfl, rfl, rfl, trivial⟩ rfl fun m hm' hP next2 => ?_
            by_cases hlt2 : m < r.kids.length
            · obtain ⟨z, hz⟩ : ∃ z, r.kids[(m : Int).toNat]? = some z := ⟨_, List.getElem?_eq_getElem hlt2⟩
              have hz' : r.kids[m]? = some z := hz
              by_cases hzr : 0 ≤ z ∧ z < (j : Int)
              · repeat' (first
 | refine RunsL.step tabOk hn rfl ?_
 | refine RunsL.nil ?_
 | refine Runs.toRegion 30 rfl ?_
 | (refine Runs.ctls 30 rfl ?_; first | refine Runs.cond_t rfl ?_ | refine Runs.cond_f rfl ?_ | ((first | refine Runs.cond_yes rfl ?_ ?_ | refine Runs.cond_nno rfl ?_ ?_); · first | omega | rfl | assumption | (simp only [List.length_map]; omega)) | ((first | refine Runs.cond_no rfl ?_ ?_ | refine Runs.cond_nyes rfl ?_ ?_); · first | omega | rfl | assumption | (simp only [List.length_map]; omega)) | refine Runs.cond_ndec rfl (fun h => ?_) (fun h => ?_) | refine Runs.ret (ends_ro hm rfl rfl ?_) | exact Runs.ret (ends_cellR hm rfl rfl rfl (Nat.le_of_ble_eq_true rfl) rfl rfl))
 | refine op_box rfl (tl hn rfl) ?_
 | refine op_alloc (tl hn rfl) ?_
 | refine op_storeN rfl rfl rfl rfl (Nat.le_of_ble_eq_true rfl) ?_
 | (refine RunsL.pe hn rfl rfl rfl ?_; first
 | refine ⟨_, pu_add rfl rfl (by omega), ?_⟩
 | refine ⟨_, pu_indexAddr_map rfl rfl (by omega) (by assumption), ?_⟩
                  )
 | ((first | refine RunsL.guard_dec rfl rfl rfl ?_ ?_ | refine RunsL.guard_ndec rfl rfl rfl ?_ ?_ | refine RunsL.guard_b rfl rfl rfl ?_ ?_) <;> intro h <;> try (exfalso; first | omega | contradiction | (simp only [List.length_map] at h; omega))))
                refine next2 _ _ ⟨rfl, rfl, rfl, rfl, rfl, rfl, trivial⟩ hlt2 (fun k y hkm hy => ?_) rfl
                by_cases e : k = m
                · subst e; rw [hz'] at hy; injection hy with hy; subst hy; exact hzr
                · exact hP k y (by omega) hy
              · repeat' (first
 | refine RunsL.step tabOk hn rfl ?_
 | refine RunsL.nil ?_
 | refine Runs.toRegion 30 rfl ?_
 | (refine Runs.ctls 30 rfl ?_; first | refine Runs.cond_t rfl ?_ | refine Runs.cond_f rfl ?_ | ((first | refine Runs.cond_yes rfl ?_ ?_ | refine Runs.cond_nno rfl ?_ ?_); · first | omega | rfl | assumption | (simp only [List.length_map]; omega)) | ((first | refine Runs.cond_no rfl ?_ ?_ | refine Runs.cond_nyes rfl ?_ ?_); · first | omega | rfl | assumption | (simp only [List.length_map]; omega)) | refine Runs.cond_ndec rfl (fun h => ?_) (fun h => ?_) | refine Runs.ret (ends_ro hm rfl rfl ?_) | exact Runs.ret (ends_cellR hm rfl rfl rfl (Nat.le_of_ble_eq_true rfl) rfl rfl))
 | refine op_box rfl (tl hn rfl) ?_
 | refine op_alloc (tl hn rfl) ?_
 | refine op_storeN rfl rfl rfl rfl (Nat.le_of_ble_eq_true rfl) ?_
 | (refine RunsL.pe hn rfl rfl rfl ?_; first
 | refine ⟨_, pu_add rfl rfl (by omega), ?_⟩
 | refine ⟨_, pu_indexAddr_map rfl rfl (by omega) (by assumption), ?_⟩
                  )
 | ((first | refine RunsL.guard_dec rfl rfl rfl ?_ ?_ | refine RunsL.guard_ndec rfl rfl rfl ?_ ?_ | refine RunsL.guard_b rfl rfl rfl ?_ ?_) <;> intro h <;> try (exfalso; first | omega | contradiction | (simp only [List.length_map] at h; omega))))
                all_goals exact rr_bool (decide_eq_false (p := RuleAt d j) fun hN => hzr ((hiff.1 hN).2.1 m z hz')).symm
            · repeat' (first
 | refine RunsL.step tabOk hn rfl ?_
 | refine RunsL.nil ?_
 | refine Runs.toRegion 30 rfl ?_
 | (refine RunsL.pe hn rfl rfl rfl ?_; first
 | refine ⟨_, pu_callR hk rfl, ?_⟩)
 | (refine Runs.ctls 30 rfl ?_; first | refine Runs.cond_t rfl ?_ | refine Runs.cond_f rfl ?_ | ((first | refine Runs.cond_yes rfl ?_ ?_ | refine Runs.cond_nno rfl ?_ ?_); · first | omega | rfl | assumption | (simp only [List.length_map]; omega)) | ((first | refine Runs.cond_no rfl ?_ ?_ | refine Runs.cond_nyes rfl ?_ ?_); · first | omega | rfl | assumption | (simp only [List.length_map]; omega)) | refine Runs.cond_ndec rfl (fun h => ?_) (fun h => ?_) | refine Runs.ret (ends_ro hm rfl rfl ?_) | exact Runs.ret (ends_cellR hm rfl rfl rfl (Nat.le_of_ble_eq_true rfl) rfl rfl))
 | refine op_box rfl (tl hn rfl) ?_
 | refine op_alloc (tl hn rfl) ?_
 | refine op_storeN rfl rfl rfl rfl (Nat.le_of_ble_eq_true rfl) ?_
 | (refine RunsL.pe hn rfl rfl rfl ?_; first
 | refine ⟨_, pu_add rfl rfl (by omega), ?_⟩
 | refine ⟨_, pu_indexAddr_map rfl rfl (by omega) (by assumption), ?_⟩
                )
 | ((first | refine RunsL.guard_dec rfl rfl rfl ?_ ?_ | refine RunsL.guard_ndec rfl rfl rfl ?_ ?_ | refine RunsL.guard_b rfl rfl rfl ?_ ?_) <;> intro h <;> try (exfalso; first | omega | contradiction | (simp only [List.length_map] at h; omega))))
              exact rr_bool (decide_eq_decide.2 ⟨fun h => hiff.2 ⟨fun k x hk => hQ k x hk, fun k z hkz => hP k z (by have := (List.getElem?_eq_some_iff.1 hkz).1; omega) hkz, hn1, hkk.1 ⟨h, hli⟩⟩, fun h => (hkk.2 (hiff.1 h).2.2.2).1⟩)
      · have h1 : r.little = true := by cases h : r.little; exact absurd (.inl h) hli; rfl
        have h2 : ¬ r.kind = 1 := fun h => hli (.inr h)
        obtain ⟨nm, kd, sz, li, bs, ns, tg, ki⟩ := r
        simp only at h1; subst h1
        repeat' (first
 | refine RunsL.step tabOk hn rfl ?_
 | refine RunsL.nil ?_
 | refine Runs.toRegion 30 rfl ?_
 | (refine RunsL.pe hn rfl rfl rfl ?_; first
 | refine ⟨_, pu_callR hhr rfl, ?_⟩
 | refine ⟨_, pu_callR hnm rfl, ?_⟩)
 | (refine Runs.ctls 30 rfl ?_; first | refine Runs.cond_t rfl ?_ | refine Runs.cond_f rfl ?_ | ((first | refine Runs.cond_yes rfl ?_ ?_ | refine Runs.cond_nno rfl ?_ ?_); · first | omega | rfl | assumption | (simp only [List.length_map]; omega)) | ((first | refine Runs.cond_no rfl ?_ ?_ | refine Runs.cond_nyes rfl ?_ ?_); · first | omega | rfl | assumption | (simp only [List.length_map]; omega)) | refine Runs.cond_ndec rfl (fun h => ?_) (fun h => ?_) | refine Runs.ret (ends_ro hm rfl rfl ?_) | exact Runs.ret (ends_cellR hm rfl rfl rfl (Nat.le_of_ble_eq_true rfl) rfl rfl))
 | refine op_box rfl (tl hn rfl) ?_
 | refine op_alloc (tl hn rfl) ?_
 | refine op_storeN rfl rfl rfl rfl (Nat.le_of_ble_eq_true rfl) ?_
 | (refine RunsL.pe hn rfl rfl rfl ?_; first
 | refine ⟨_, pu_add rfl rfl (by omega), ?_⟩
 | refine ⟨_, pu_indexAddr_map rfl rfl (by omega) (by assumption), ?_⟩
            )
 | ((first | refine RunsL.guard_dec rfl rfl rfl ?_ ?_ | refine RunsL.guard_ndec rfl rfl rfl ?_ ?_ | refine RunsL.guard_b rfl rfl rfl ?_ ?_) <;> intro h <;> try (exfalso; first | omega | contradiction | (simp only [List.length_map] at h; omega))))
        all_goals exact rr_bool (decide_eq_false (p := RuleAt d n) fun hN => hli (hkk.2 (hiff.1 hN).2.2.2).2).symm
    · repeat' (first
 | refine RunsL.step tabOk hn rfl ?_
 | refine RunsL.nil ?_
 | refine Runs.toRegion 30 rfl ?_
 | (refine RunsL.pe hn rfl rfl rfl ?_; first
 | refine ⟨_, pu_callR hhr rfl, ?_⟩
 | refine ⟨_, pu_callR hnm rfl, ?_⟩)
 | (refine Runs.ctls 30 rfl ?_; first | refine Runs.cond_t rfl ?_ | refine Runs.cond_f rfl ?_ | ((first | refine Runs.cond_yes rfl ?_ ?_ | refine Runs.cond_nno rfl ?_ ?_); · first | omega | rfl | assumption | (simp only [List.length_map]; omega)) | ((first | refine Runs.cond_no rfl ?_ ?_ | refine Runs.cond_nyes rfl ?_ ?_); · first | omega | rfl | assumption | (simp only [List.length_map]; omega)) | refine Runs.cond_ndec rfl (fun h => ?_) (fun h => ?_) | refine Runs.ret (ends_ro hm rfl rfl ?_) | exact Runs.ret (ends_cellR hm rfl rfl rfl (Nat.le_of_ble_eq_true rfl) rfl rfl))
 | refine op_box rfl (tl hn rfl) ?_
 | refine op_alloc (tl hn rfl) ?_
 | refine op_storeN rfl rfl rfl rfl (Nat.le_of_ble_eq_true rfl) ?_
 | (refine RunsL.pe hn rfl rfl rfl ?_; first
 | refine ⟨_, pu_add rfl rfl (by omega), ?_⟩
 | refine ⟨_, pu_indexAddr_map rfl rfl (by omega) (by assumption), ?_⟩
        )
 | ((first | refine RunsL.guard_dec rfl rfl rfl ?_ ?_ | refine RunsL.guard_ndec rfl rfl rfl ?_ ?_ | refine RunsL.guard_b rfl rfl rfl ?_ ?_) <;> intro h <;> try (exfalso; first | omega | contradiction | (simp only [List.length_map] at h; omega))))
      all_goals exact rr_bool (decide_eq_false (p := RuleAt d n) fun hN => hn1 (hiff.1 hN).2.2.1).symm
  · have hno : ¬ RuleAt d i := fun ⟨h0, r, hr, _⟩ => hx ⟨h0, by have := (List.getElem?_eq_some_iff.1 hr).1; omega⟩
    refine ac_enter Try.func133 rfl _ Try.ntmps133 (by simp) fun C hn hm => ?_
    repeat' (first
 | refine RunsL.step tabOk hn rfl ?_
 | refine RunsL.nil ?_
 | refine Runs.toRegion 30 rfl ?_
 | (refine RunsL.pe hn rfl rfl rfl ?_; first
 | refine ⟨_, pu_callR (hasRule_ac d i) rfl, ?_⟩)
 | (refine Runs.ctls 30 rfl ?_; first | refine Runs.cond_t rfl ?_ | refine Runs.cond_f rfl ?_ | ((first | refine Runs.cond_yes rfl ?_ ?_ | refine Runs.cond_nno rfl ?_ ?_); · first | omega | rfl | assumption | (simp only [List.length_map]; omega)) | ((first | refine Runs.cond_no rfl ?_ ?_ | refine Runs.cond_nyes rfl ?_ ?_); · first | omega | rfl | assumption | (simp only [List.length_map]; omega)) | refine Runs.cond_ndec rfl (fun h => ?_) (fun h => ?_) | refine Runs.ret (ends_ro hm rfl rfl ?_) | exact Runs.ret (ends_cellR hm rfl rfl rfl (Nat.le_of_ble_eq_true rfl) rfl rfl))
 | refine op_box rfl (tl hn rfl) ?_
 | refine op_alloc (tl hn rfl) ?_
 | refine op_storeN rfl rfl rfl rfl (Nat.le_of_ble_eq_true rfl) ?_
 | (refine RunsL.pe hn rfl rfl rfl ?_; first
 | refine ⟨_, pu_add rfl rfl (by omega), ?_⟩
 | refine ⟨_, pu_indexAddr_map rfl rfl (by omega) (by assumption), ?_⟩
        )
 | ((first | refine RunsL.guard_dec rfl rfl rfl ?_ ?_ | refine RunsL.guard_ndec rfl rfl rfl ?_ ?_ | refine RunsL.guard_b rfl rfl rfl ?_ ?_) <;> intro h <;> try (exfalso; first | omega | contradiction | (simp only [List.length_map] at h; omega))))
    all_goals exact rr_bool (decide_eq_false hno).symm
theorem impl_IsValidDescription (d : Des) (ho : DesOk d) (hd : dtotal d ≤ 1048576) : ACv Try.prog 93 [desR d] (.bool (decide (Good' d))) := by
  have hlm : (d.map rulR).length = d.length := List.length_map ..
  have et : dtotal d = d.length + (d.map Rul.total).sum := rfl
  refine ac_enter Try.func93 rfl _ Try.ntmps93 (by simp) fun C hn hm => ?_
  by_cases h24 : InR d.length 1 24
  · repeat' (first
 | refine RunsL.step tabOk hn rfl ?_
 | refine RunsL.nil ?_
 | refine Runs.toRegion 30 rfl ?_
 | (refine RunsL.pe hn rfl rfl rfl ?_; first
 | refine ⟨_, pu_callR (inRange_ac _ _ _) rfl, ?_⟩)
 | (refine Runs.ctls 30 rfl ?_; first | ((first | refine Runs.cond_yes rfl ?_ ?_ | refine Runs.cond_nno rfl ?_ ?_); · first | omega | rfl | assumption | (simp only [List.length_map]; omega)) | ((first | refine Runs.cond_no rfl ?_ ?_ | refine Runs.cond_nyes rfl ?_ ?_); · first | omega | rfl | assumption | (simp only [List.length_map]; omega)) | refine Runs.ret (ends_ro hm rfl rfl ?_) | exact Runs.ret (ends_cellR hm rfl rfl rfl (Nat.le_of_ble_eq_true rfl) rfl rfl))
 | refine op_box rfl (tl hn rfl) ?_
 | (refine RunsL.pe hn rfl rfl rfl ?_; first
 | refine ⟨_, pu_add rfl rfl (by omega), ?_⟩
      ))
    refine Runs.loopN 30 rfl (fun j => [(1, .obj 0 0), (11, .int (d.length : Int)), (12, .int (j : Int))]) (fun _ => [⟨38, 0, [.ro (rulsR d)]⟩]) (fun j => ∀ k : Nat, k < j → RuleAt d k) d.length 0 (Nat.zero_le _) (fun k h => absurd h (by omega)) ⟨rfl, by simp [look], rfl, trivial⟩ rfl fun j hj hQ next => ?_
    by_cases hlt : j < d.length
    · have hr := impl_IsValidRule d ho hd j (by unfold I64; omega)
      by_cases hq : RuleAt d j
      · repeat' (first
 | refine RunsL.step tabOk hn rfl ?_
 | refine RunsL.nil ?_
 | refine Runs.toRegion 30 rfl ?_
 | (refine RunsL.pe hn rfl rfl rfl ?_; first
 | refine ⟨_, pu_callR hr rfl, ?_⟩)
 | (refine Runs.ctls 30 rfl ?_; first | ((first | refine Runs.cond_yes rfl ?_ ?_ | refine Runs.cond_nno rfl ?_ ?_); · first | omega | rfl | assumption | (simp only [List.length_map]; omega)) | ((first | refine Runs.cond_no rfl ?_ ?_ | refine Runs.cond_nyes rfl ?_ ?_); · first | omega | rfl | assumption | (simp only [List.length_map]; omega)) | refine Runs.ret (ends_ro hm rfl rfl ?_) | exact Runs.ret (ends_cellR hm rfl rfl rfl (Nat.le_of_ble_eq_true rfl) rfl rfl))
 | refine op_box rfl (tl hn rfl) ?_
 | (refine RunsL.pe hn rfl rfl rfl ?_; first
 | refine ⟨_, pu_add rfl rfl (by omega), ?_⟩
          ))
        refine next _ _ ⟨rfl, rfl, rfl, trivial⟩ hlt (fun k hk => ?_) rfl
        by_cases e : k = j
        · subst e; exact hq
        · exact hQ k (by omega)
      · repeat' (first
 | refine RunsL.step tabOk hn rfl ?_
 | refine RunsL.nil ?_
 | refine Runs.toRegion 30 rfl ?_
 | (refine RunsL.pe hn rfl rfl rfl ?_; first
 | refine ⟨_, pu_callR hr rfl, ?_⟩)
 | (refine Runs.ctls 30 rfl ?_; first | ((first | refine Runs.cond_yes rfl ?_ ?_ | refine Runs.cond_nno rfl ?_ ?_); · first | omega | rfl | assumption | (simp only [List.length_map]; omega)) | ((first | refine Runs.cond_no rfl ?_ ?_ | refine Runs.cond_nyes rfl ?_ ?_); · first | omega | rfl | assumption | (simp only [List.length_map]; omega)) | refine Runs.ret (ends_ro hm rfl rfl ?_) | exact Runs.ret (ends_cellR hm rfl rfl rfl (Nat.le_of_ble_eq_true rfl) rfl rfl))
 | refine op_box rfl (tl hn rfl) ?_
 | (refine RunsL.pe hn rfl rfl rfl ?_; first
 | refine ⟨_, pu_add rfl rfl (by omega), ?_⟩
          ))
        all_goals exact rr_bool (decide_eq_false (p := Good' d) fun hN => hq (hN.2.2 j hlt)).symm
    · repeat' (first
 | refine RunsL.step tabOk hn rfl ?_
 | refine RunsL.nil ?_
 | refine Runs.toRegion 30 rfl ?_
 | (refine Runs.ctls 30 rfl ?_; first | ((first | refine Runs.cond_yes rfl ?_ ?_ | refine Runs.cond_nno rfl ?_ ?_); · first | omega | rfl | assumption | (simp only [List.length_map]; omega)) | ((first | refine Runs.cond_no rfl ?_ ?_ | refine Runs.cond_nyes rfl ?_ ?_); · first | omega | rfl | assumption | (simp only [List.length_map]; omega)) | refine Runs.ret (ends_ro hm rfl rfl ?_) | exact Runs.ret (ends_cellR hm rfl rfl rfl (Nat.le_of_ble_eq_true rfl) rfl rfl))
 | refine op_box rfl (tl hn rfl) ?_
 | (refine RunsL.pe hn rfl rfl rfl ?_; first
 | refine ⟨_, pu_add rfl rfl (by omega), ?_⟩
        ))
      exact rr_bool (decide_eq_true (p := Good' d) ⟨by have := h24.1; omega, by have := h24.2; omega, fun k hk => hQ k (by omega)⟩).symm
  · repeat' (first
 | refine RunsL.step tabOk hn rfl ?_
 | refine RunsL.nil ?_
 | refine Runs.toRegion 30 rfl ?_
 | (refine RunsL.pe hn rfl rfl rfl ?_; first
 | refine ⟨_, pu_callR (inRange_ac _ _ _) rfl, ?_⟩)
 | (refine Runs.ctls 30 rfl ?_; first | ((first | refine Runs.cond_yes rfl ?_ ?_ | refine Runs.cond_nno rfl ?_ ?_); · first | omega | rfl | assumption | (simp only [List.length_map]; omega)) | ((first | refine Runs.cond_no rfl ?_ ?_ | refine Runs.cond_nyes rfl ?_ ?_); · first | omega | rfl | assumption | (simp only [List.length_map]; omega)) | refine Runs.ret (ends_ro hm rfl rfl ?_) | exact Runs.ret (ends_cellR hm rfl rfl rfl (Nat.le_of_ble_eq_true rfl) rfl rfl))
 | refine op_box rfl (tl hn rfl) ?_
 | (refine RunsL.pe hn rfl rfl rfl ?_; first
 | refine ⟨_, pu_add rfl rfl (by omega), ?_⟩
      ))
    all_goals exact rr_bool (decide_eq_false (p := Good' d) fun hN => h24 ⟨by have := hN.1; omega, by have := hN.2.1; omega⟩).symm
abbrev Kn (d : Des) (i : Int) : Prop := Good' d ∧ HasR d i
theorem known_ac (d : Des) (ho : DesOk d) (hd : dtotal d ≤ 1048576) (i : Int) : ACv Try.prog 68 [desR d, .int i] (.bool (decide (Kn d i))) := by
  have hv := impl_IsValidDescription d ho hd
  have hh := hasRule_ac d i
  refine ac_enter Try.func68 rfl _ Try.ntmps68 (by simp) fun C hn hm => ?_
  repeat' (first
 | refine RunsL.step tabOk hn rfl ?_
 | refine RunsL.nil ?_
 | refine Runs.toRegion 30 rfl ?_
 | (refine RunsL.pe hn rfl rfl rfl ?_; first
 | refine ⟨_, pu_callR hv rfl, ?_⟩
 | refine ⟨_, pu_callR hh rfl, ?_⟩)
 | (refine Runs.ctls 30 rfl ?_; first | refine Runs.ret (ends_ro hm rfl rfl ?_) | exact Runs.ret (ends_cellR hm rfl rfl rfl (Nat.le_of_ble_eq_true rfl) rfl rfl))
 | refine op_box rfl (tl hn rfl) ?_
 | (refine RunsL.guard_dec rfl rfl rfl ?_ ?_ <;> intro h <;> try (exfalso; first | omega | contradiction)))
  all_goals exact rr_bool (by rw [Bool.eq_iff_iff]; simp [*])
theorem l7Rule_ac (d : Des) (ho : DesOk d) (hd : dtotal d ≤ 1048576) (i : Int) : ACv Try.prog 77 [desR d, .int i] (.bool (decide (Kn d i))) := by
  have hlm : (d.map rulR).length = d.length := List.length_map ..
  have hl := ho.len
  have hv := spec_IsValidDescription d ho hd
  unfold maxLen at hl
  refine ac_enter Try.func77 rfl _ Try.ntmps77 (by simp) fun C hn hm => ?_
  by_cases hh : HasR d i
  · repeat' (first
 | refine RunsL.step tabOk hn rfl ?_
 | refine RunsL.nil ?_
 | refine Runs.toRegion 30 rfl ?_
 | (refine RunsL.pe hn rfl rfl rfl ?_; first
 | refine ⟨_, pu_callR hv rfl, ?_⟩
 | refine ⟨_, pu_callR (l1In_ac _ _ _) rfl, ?_⟩)
 | (refine Runs.ctls 30 rfl ?_; first | refine Runs.ret (ends_ro hm rfl rfl ?_) | exact Runs.ret (ends_cellR hm rfl rfl rfl (Nat.le_of_ble_eq_true rfl) rfl rfl))
 | refine op_box rfl (tl hn rfl) ?_
 | (refine RunsL.pe hn rfl rfl rfl ?_; first
 | refine ⟨_, pu_sub rfl rfl (by omega), ?_⟩
      )
 | (refine RunsL.guard_dec rfl rfl rfl ?_ ?_ <;> intro h <;> try (exfalso; first | omega | contradiction | (simp only [List.length_map] at h; omega))))
    all_goals exact rr_bool (by rw [Bool.eq_iff_iff]; simp [hh.1, hh.2, *])
  · repeat' (first
 | refine RunsL.step tabOk hn rfl ?_
 | refine RunsL.nil ?_
 | refine Runs.toRegion 30 rfl ?_
 | (refine RunsL.pe hn rfl rfl rfl ?_; first
 | refine ⟨_, pu_callR hv rfl, ?_⟩
 | refine ⟨_, pu_callR (l1In_ac _ _ _) rfl, ?_⟩)
 | (refine Runs.ctls 30 rfl ?_; first | refine Runs.ret (ends_ro hm rfl rfl ?_) | exact Runs.ret (ends_cellR hm rfl rfl rfl (Nat.le_of_ble_eq_true rfl) rfl rfl))
 | refine op_box rfl (tl hn rfl) ?_
 | (refine RunsL.pe hn rfl rfl rfl ?_; first
 | refine ⟨_, pu_sub rfl rfl (by omega), ?_⟩
      )
 | (refine RunsL.guard_dec rfl rfl rfl ?_ ?_ <;> intro h <;> try (exfalso; first | omega | contradiction | (simp only [List.length_map] at h; omega))))
    all_goals exact rr_bool (decide_eq_false (p := Kn d i) fun h => hh h.2).symm
end Go.Proofs.Ytnecoghfhcimeaa
/- Regions that draw their order, with allocations and a tail of effects: plain moves first, then pure operations and allocations in any order, then the rest as the text says. Over any program. -/
namespace Go.Proofs.Ytnecoghfhcimeaa
set_option linter.unusedSimpArgs false
set_option linter.unusedVariables false
set_option linter.unusedSectionVars false
open Go.RowKit
open AV (Mem Keeps)
section
variable {C : Ctx} {w : World} {φ : Nat → Option Nat} {σ : List Ob} {q : Nat} {e : TypeId} {cs : List AV} {us : Array Value}
mutual
theorem rel_fill (hq : σ[q]? = some ⟨e, 0, []⟩) (hφ : φ q = none) : ∀ (v : AV) (u : Value), AV.rel ⟨w, φ, σ, C.ok⟩ v u → AV.rel ⟨w.alloc (.cells us e), upd φ q (some w.heap.size), σ.set q ⟨e, 0, cs⟩, C.ok⟩ v u
  | .ro r, u, h => by
    simp only [AV.rel] at h ⊢
    refine RV.rel_mono ⟨(below_one w _).size, fun b hlt hok => ⟨⟨hok.1, fun i hi he => ?_⟩, (below_one w _).block b hlt⟩⟩ r u h
    by_cases hiq : i = q
    · subst hiq; simp only [upd_eq, Option.some.injEq] at he; omega
    · simp only [upd_ne hiq] at he; exact hok.2 i (by simpa using hi) he
  | .junk, u, _ => by simp [AV.rel]
  | .obj i off, u, h => by
    simp only [AV.rel] at h ⊢
    obtain ⟨h1, g, h2, h3⟩ := h
    have hiq : i ≠ q := by rintro rfl; rw [hφ] at h2; cases h2
    exact ⟨by simpa using h1, g, (upd_ne hiq).trans h2, h3⟩
  | .pin i off g, u, h => by
    simp only [AV.rel] at h ⊢
    obtain ⟨h1, h2, h3⟩ := h
    have hiq : i ≠ q := by rintro rfl; rw [hφ] at h2; cases h2
    exact ⟨by simpa using h1, (upd_ne hiq).trans h2, h3⟩
  | .own i, u, h => by
    simp only [AV.rel] at h ⊢
    obtain ⟨ob, n, h1, h2, h3, h4⟩ := h
    have hiq : i ≠ q := by rintro rfl; rw [hq] at h1; injection h1 with h1; subst h1; exact absurd h3 (Nat.lt_irrefl 0)
    refine ⟨ob, n, by rw [List.getElem?_set_ne (Ne.symm hiq)]; exact h1, h2, h3, ?_⟩
    rcases h4 with ⟨e1, e2, e3⟩ | ⟨g, cap, vs, hg, e1, hh, c1⟩
    · exact .inl ⟨e1, e2, (upd_ne hiq).trans e3⟩
    · exact .inr ⟨g, cap, vs, (upd_ne hiq).trans hg, e1, ((below_one w _).block g (Array.getElem?_eq_some_iff.1 hh).1).trans hh, c1⟩
  | .agg vs, u, h => by
    simp only [AV.rel] at h ⊢
    obtain ⟨us', e1, h1⟩ := h
    exact ⟨us', e1, rels_fill hq hφ vs _ h1⟩
  | .tup vs, u, h => by
    simp only [AV.rel] at h ⊢
    obtain ⟨us', e1, h1⟩ := h
    exact ⟨us', e1, rels_fill hq hφ vs _ h1⟩
  | .fn f a b, u, h => by
    simp only [AV.rel] at h ⊢
    obtain ⟨us', vs', e1, h1, h2⟩ := h
    exact ⟨us', vs', e1, rels_fill hq hφ a _ h1, rels_fill hq hφ b _ h2⟩
theorem rels_fill (hq : σ[q]? = some ⟨e, 0, []⟩) (hφ : φ q = none) : ∀ (vs : List AV) (us' : List Value), AV.rels ⟨w, φ, σ, C.ok⟩ vs us' → AV.rels ⟨w.alloc (.cells us e), upd φ q (some w.heap.size), σ.set q ⟨e, 0, cs⟩, C.ok⟩ vs us'
  | [], us', h => by simpa [AV.rels] using h
  | x :: xs, us', h => by
    simp only [AV.rels] at h ⊢
    obtain ⟨u, us'', e1, h1, h2⟩ := h
    exact ⟨u, us'', e1, rel_fill hq hφ x u h1, rels_fill hq hφ xs us'' h2⟩
end
theorem good_fill (hG : Good C ⟨w, φ, σ, C.ok⟩) (hq : σ[q]? = some ⟨e, 0, []⟩) (hφ : φ q = none) (zs : List Value) (h1 : ∀ x ∈ zs, x.oneCell' = true) :
    Good C ⟨w.alloc (.cells zs.toArray e), upd φ q (some w.heap.size), σ.set q ⟨e, 0, zs.map fun v => .ro (.c v)⟩, C.ok⟩ := by
  have hql : q < σ.length := (List.getElem?_eq_some_iff.1 hq).1
  have hb := below_one w (.cells zs.toArray e)
  refine ⟨rfl, fun i j g hi hj e1 e2 => ?_, fun i o hi => ?_, fun i g hi hg => ?_, hG.frm.below hb⟩
  · simp only [List.length_set] at hi hj
    by_cases hiq : i = q <;> by_cases hjq : j = q
    · omega
    · subst hiq; simp only [upd_eq, Option.some.injEq] at e1; simp only [upd_ne hjq] at e2
      have := hG.lt hj e2; simp only at this; omega
    · subst hjq; simp only [upd_eq, Option.some.injEq] at e2; simp only [upd_ne hiq] at e1
      have := hG.lt hi e1; simp only at this; omega
    · simp only [upd_ne hiq] at e1; simp only [upd_ne hjq] at e2
      exact hG.inj i j g hi hj e1 e2
  · by_cases hiq : i = q
    · subst hiq
      simp only [List.getElem?_set_self hql, Option.some.injEq] at hi
      subst hi
      simp only [upd_eq, ObRel]
      refine ⟨zs.toArray, heap_alloc_new w _, by simp, fun j v hj => ?_⟩
      rw [List.getElem?_map, Option.map_eq_some_iff] at hj
      obtain ⟨x, hx, rfl⟩ := hj
      exact ⟨x, by simpa using hx, h1 x (List.mem_of_getElem? hx), by simp [AV.rel, RV.rel]⟩
    · simp only [List.getElem?_set_ne (Ne.symm hiq)] at hi
      have h := hG.ob i o hi
      simp only [upd_ne hiq]
      simp only at h
      cases hg : φ i with
      | none => rw [hg] at h; exact h
      | some g =>
        rw [hg] at h
        obtain ⟨vs, q1, q2, q3⟩ := h
        refine ⟨vs, (hb.block g (Array.getElem?_eq_some_iff.1 q1).1).trans q1, q2, fun j v hj => ?_⟩
        obtain ⟨x, k1, k2, k3⟩ := q3 j v hj
        exact ⟨x, k1, k2, rel_fill hq hφ v x k3⟩
  · simp only [List.length_set] at hi
    by_cases hiq : i = q
    · subst hiq; simp only [upd_eq, Option.some.injEq] at hg; subst hg; exact .inr hG.frm.size
    · simp only [upd_ne hiq] at hg; exact hG.mine i g hi hg
end
abbrev Res := List (Nat × TypeId × List Value)
def resOb (listed : Array Bool) (r : Nat × TypeId × List Value) : Ob := ⟨r.2.1, 0, if listed.getD r.1 false = true then r.2.2.map (fun v => .ro (.c v)) else []⟩
def res (rs : Res) (listed : Array Bool) : List Ob := rs.map (resOb listed)
def full (rs : Res) : List Ob := rs.map fun r => ⟨r.2.1, 0, r.2.2.map fun v => .ro (.c v)⟩
def YF (P : Program) (C : Ctx) (ops : Array Oper) (σ : List Ob) (rs : Res) (i : Nat) (o : Oper) (v : AV) (E : EE) : Prop :=
  ((∀ r ∈ rs, r.1 ≠ i) ∧ ((gsayE ops E o.guard = some true ∧ ∀ more, PurF P C o E (σ ++ more) v) ∨ (gsayE ops E o.guard = some false ∧ v = .ro (.c undef)))) ∨
  (∃ p e zs, rs[p]? = some (i, e, zs) ∧ o.op = .alloc e ∧ o.guard = none ∧ o.dst.isSome = true ∧ TZ P e zs ∧ v = .obj (σ.length + p) 0)
section
variable {P : Program} {C : Ctx} {ops : Array Oper} {σ : List Ob} {md : Region.Mode} {rs : Res}
theorem YF.put {i : Nat} {oi oj : Oper} {v u : AV} {E : EE} (hy : YF P C ops σ rs i oi v E) (h3 : ∀ d, oj.dst = some d → d ∉ oi.looksAt ops) : YF P C ops σ rs i oi v (putE E oj.dst u) := by
  unfold YF at *
  rw [gsay_put h3]
  rcases hy with ⟨h0, ⟨hw, hv⟩ | hy⟩ | hy
  · exact .inl ⟨h0, .inl ⟨hw, fun more => (hv more).congr fun x hx => evE_put fun t ht => mem_looks_op (h3 t ht) x hx⟩⟩
  · exact .inl ⟨h0, .inr hy⟩
  · exact .inr hy
theorem YF.unput {i : Nat} {oi : Oper} {d : Option Nat} {v u : AV} {E : EE} (hy : YF P C ops σ rs i oi v (putE E d u)) (h3 : ∀ t, d = some t → t ∉ oi.looksAt ops) : YF P C ops σ rs i oi v E := by
  unfold YF at *
  rw [gsay_put h3] at hy
  rcases hy with ⟨h0, ⟨hw, hv⟩ | hy⟩ | hy
  · exact .inl ⟨h0, .inl ⟨hw, fun more => (hv more).congr fun x hx => (evE_put fun t ht => mem_looks_op (h3 t ht) x hx).symm⟩⟩
  · exact .inl ⟨h0, .inr hy⟩
  · exact .inr hy
def aOpR (P : Program) (C : Ctx) (ops : Array Oper) (σ : List Ob) (rs : Res) (i : Nat) (K : EE → Prop) (E : EE) : Prop := ∃ o v, ops[i]? = some o ∧ YF P C ops σ rs i o v E ∧ K (putE E o.dst v)
theorem aOpR_mono {i : Nat} {E : EE} {K K' : EE → Prop} (h : ∀ E, K E → K' E) (hh : aOpR P C ops σ rs i K E) : aOpR P C ops σ rs i K' E := by
  obtain ⟨o, v, h1, h2, h3⟩ := hh
  exact ⟨o, v, h1, h2, h _ h3⟩
theorem aOpR_put {i j : Nat} {oi oj : Oper} {v : AV} (hj : ops[j]? = some oj) (hap : oi.apart ops oj = true) {K : EE → Prop} {E : EE} (hy : YF P C ops σ rs i oi v E) (h : aOpR P C ops σ rs j K (putE E oi.dst v)) :
    aOpR P C ops σ rs j (fun E' => YF P C ops σ rs i oi v E' ∧ K (putE E' oi.dst v)) E := by
  obtain ⟨h1, h2, h3⟩ := Oper.apart_spec hap
  obtain ⟨o, u, k1, k2, k3⟩ := h
  rw [hj] at k1; injection k1 with k1; subst k1
  refine ⟨oj, u, hj, k2.unput h1, hy.put h3, ?_⟩
  rw [← putE_comm h2]; exact k3
def wpAnyR (P : Program) (C : Ctx) (md : Region.Mode) (ops : Array Oper) (σ : List Ob) (rs : Res) (n : Nat) (L : Array Bool → EE → Prop) : Nat → Array Bool → EE → Prop
  | 0, listed, E => L listed E
  | f + 1, listed, E => Region.ready md ops listed ≠ [] ∧ ∀ i ∈ Region.ready md ops listed, i < n ∧ aOpR P C ops σ rs i (wpAnyR P C md ops σ rs n L f (listed.setIfInBounds i true)) E
def sinkP (md : Region.Mode) (ops : Array Oper) (pre : List Nat) (n : Nat) : Bool :=
  (List.range n).all fun i => pre.contains i || (List.range (n + 1)).any fun j => decide (i < j) && Region.waitsFor md ops j i
theorem tail_waitsP {n : Nat} {pre : List Nat} {listed : Array Bool} (hs : sinkP md ops pre n = true) (hc : Region.chainB md ops n = true) (hn : n < ops.size) (inv : HeadInv md ops n listed) (hp : ∀ i ∈ pre, listed.getD i true = true) :
    ∀ (d i : Nat), n - i = d → i < n → listed.getD i true = false → ∀ t, n ≤ t → t ∉ Region.ready md ops listed := by
  intro d
  induction d using Nat.strongRecOn with
  | _ d ih =>
    intro i hd hi hun t ht hr
    obtain ⟨_, ot, hot, hall⟩ := mem_ready.1 hr
    have htlt : t < ops.size := (Array.getElem?_eq_some_iff.1 hot).1
    by_cases htn : t = n
    · subst htn
      have h1 := List.all_eq_true.1 hs i (List.mem_range.2 hi)
      rw [Bool.or_eq_true] at h1
      rcases h1 with h1 | h1
      · have := hp i (by simpa using h1)
        rw [hun] at this; cases this
      obtain ⟨j, hj, hj2⟩ := List.any_eq_true.1 h1
      simp only [Bool.and_eq_true, decide_eq_true_eq] at hj2
      obtain ⟨oj, hoj, e, he, hb, hon⟩ := Region.waitsFor_spec hj2.2
      have hjle : j ≤ t := by have := List.mem_range.1 hj; omega
      by_cases hjt : j = t
      · subst hjt
        have : oj = ot := Option.some.inj (hoj.symm.trans hot)
        subst this
        have h2 := hall e he hb
        rw [hon, getD_both hun] at h2
        cases h2
      · cases hl : listed.getD j false with
        | true =>
          have h2 := inv.closed j oj hoj hl e he hb
          rw [hon, getD_both hun] at h2
          cases h2
        | false =>
          have hjs : j < listed.size := by rw [inv.size]; omega
          exact ih (t - j) (by omega) j rfl (by omega) (getD_in hjs hl) t (Nat.le_refl _) hr
    · have h1 := List.all_eq_true.1 hc t (List.mem_range.2 htlt)
      simp only [Bool.or_eq_true, decide_eq_true_eq] at h1
      rcases h1 with h1 | h1
      · omega
      · obtain ⟨o', ho', e, he, hb, hon⟩ := Region.waitsFor_spec h1
        have : o' = ot := Option.some.inj (ho'.symm.trans hot)
        subst this
        have h2 := hall e he hb
        rw [hon, getD_both (inv.tail (t - 1) (by omega) (by omega))] at h2
        cases h2
theorem getD_set_keep {listed : Array Bool} {i j : Nat} (h : listed.getD i true = true) : (listed.setIfInBounds j true).getD i true = true := by
  by_cases e : j = i
  · subst e
    simp only [Array.getD_eq_getD_getElem?, Array.getElem?_setIfInBounds, if_true]
    split <;> rfl
  · rw [getD_set_ne true e]; exact h
theorem wpAnyR_first {n i : Nat} {pre : List Nat} {oi : Oper} {v : AV} {L : Array Bool → EE → Prop} (hi : ops[i]? = some oi)
    (hs : sinkP md ops pre n = true) (hc : Region.chainB md ops n = true) (hn : n < ops.size) (hin : i < n)
    (hdone : ∀ listed E, L listed E → ∀ j ∈ Region.ready md ops listed, n ≤ j) :
    ∀ (f : Nat) (listed : Array Bool) (E : EE), HeadInv md ops n listed → (∀ i ∈ pre, listed.getD i true = true) →
      (∀ j oj, ops[j]? = some oj → j ≠ i → listed.getD j true = false → (∀ e ∈ oj.after, Region.binds md e = true → e.on ≠ i) → oi.apart ops oj = true) →
      i ∈ Region.ready md ops listed → YF P C ops σ rs i oi v E →
      wpAnyR P C md ops σ rs n L f (listed.setIfInBounds i true) (putE E oi.dst v) → wpAnyR P C md ops σ rs n L (f + 1) listed E := by
  intro f
  induction f with
  | zero =>
    intro listed E inv hp _ hr hy H
    have hun := (mem_ready.1 hr).1
    refine ⟨fun h => (by rw [h] at hr; cases hr), fun j hj => ?_⟩
    have hjn : j < n := by
      rcases Nat.lt_or_ge j n with h | h
      · exact h
      · exact absurd hj (tail_waitsP hs hc hn inv hp _ i rfl hin hun j h)
    refine ⟨hjn, ?_⟩
    by_cases hji : j = i
    · subst hji; exact ⟨oi, v, hi, hy, H⟩
    · have := hdone _ _ H j (ready_mono hj hji)
      omega
  | succ f ih =>
    intro listed E inv hp hfree hr hy H
    have hun := (mem_ready.1 hr).1
    refine ⟨fun h => (by rw [h] at hr; cases hr), fun j hj => ?_⟩
    have hjn : j < n := by
      rcases Nat.lt_or_ge j n with h | h
      · exact h
      · exact absurd hj (tail_waitsP hs hc hn inv hp _ i rfl hin hun j h)
    refine ⟨hjn, ?_⟩
    by_cases hji : j = i
    · subst hji; exact ⟨oi, v, hi, hy, H⟩
    · have h1 := (H.2 j (ready_mono hj hji)).2
      obtain ⟨hjun, oj, hoj, hall⟩ := mem_ready.1 hj
      have hnot : ∀ e ∈ oj.after, Region.binds md e = true → e.on ≠ i := fun e he hb heq => by
        have h1 := hall e he hb
        rw [heq, getD_both hun] at h1
        cases h1
      have h2 := aOpR_put hoj (hfree j oj hoj hji hjun hnot) hy h1
      have hfree' : ∀ k ok, ops[k]? = some ok → k ≠ i → (listed.setIfInBounds j true).getD k true = false →
          (∀ e ∈ ok.after, Region.binds md e = true → e.on ≠ i) → oi.apart ops ok = true := fun k ok hk hki hun hno => by
        refine hfree k ok hk hki ?_ hno
        by_cases hjk : j = k
        · subst hjk; exact hjun
        · rw [getD_set_ne true hjk] at hun; exact hun
      refine aOpR_mono (fun a' h3 => ih (listed.setIfInBounds j true) a' (inv.set hj hjn) (fun i hi => getD_set_keep (hp i hi)) hfree' (ready_mono hr (Ne.symm hji)) h3.1 ?_) h2
      rw [Array.setIfInBounds_comm _ _ hji]
      exact h3.2
def wpLexR (P : Program) (C : Ctx) (ops : Array Oper) (σ : List Ob) (rs : Res) (Q : EE → Prop) : List (Nat × Oper) → EE → Prop
  | [], E => Q E
  | (i, o) :: rest, E => ∃ v, YF P C ops σ rs i o v E ∧ wpLexR P C ops σ rs Q rest (putE E o.dst v)
def lexIdx (md : Region.Mode) (ops : Array Oper) (g n : Nat) : List Nat → Array Bool → Bool
  | [], listed => Region.seqB md ops g n listed && (List.range n).all fun j => listed.getD j false
  | k :: is, listed => (Region.ready md ops listed).contains k && Region.free md ops listed k && decide (k < n) && lexIdx md ops g n is (listed.setIfInBounds k true)
theorem wpAnyR_lex {n g : Nat} {pre : List Nat} {Lq : EE → Prop} (hs : sinkP md ops pre n = true) (hc : Region.chainB md ops n = true) (hn : n < ops.size) :
    ∀ (l : List (Nat × Oper)) (listed : Array Bool) (E : EE), (∀ p ∈ l, ops[p.1]? = some p.2) → HeadInv md ops n listed → (∀ i ∈ pre, listed.getD i true = true) →
    lexIdx md ops g n (l.map (·.1)) listed = true → wpLexR P C ops σ rs Lq l E →
    wpAnyR P C md ops σ rs n (fun listed' E' => Region.seqB md ops g n listed' = true ∧ (∀ j, j < n → listed'.getD j false = true) ∧ Lq E') l.length listed E
  | [], listed, E, _, _, _, hB, h => by
    simp only [List.map_nil, lexIdx, Bool.and_eq_true] at hB
    exact ⟨hB.1, fun j hj => List.all_eq_true.1 hB.2 j (List.mem_range.2 hj), h⟩
  | (k, o) :: l, listed, E, hl, inv, hp, hB, h => by
    have h0 : ops[k]? = some o := hl (k, o) (by simp)
    simp only [List.map_cons, lexIdx, Bool.and_eq_true, decide_eq_true_eq] at hB
    obtain ⟨⟨⟨hr, hf⟩, hkn⟩, hB'⟩ := hB
    have hr' : k ∈ Region.ready md ops listed := by simpa using hr
    obtain ⟨v, hy, hK⟩ := h
    exact wpAnyR_first h0 hs hc hn hkn (fun listed' E' hL => seqB_ready hL.1) l.length listed E inv hp (Region.free_spec h0 hf) hr' hy
      (wpAnyR_lex hs hc hn l _ _ (fun p hp => hl p (by simp [hp])) (inv.set hr' hkn) (fun i hi => getD_set_keep (hp i hi)) hB' hK)
end
structure SimR (C : Ctx) (σ : List Ob) (rs : Res) (listed : Array Bool) (E : EE) (a : Act) (w : World) : Prop where
  defers : a.defers = []
  size : a.tmps.size = C.n
  mem : ∃ φ, Good C ⟨w, φ, σ ++ res rs listed, C.ok⟩ ∧ (∀ p r, rs[p]? = some r → listed.getD r.1 false = false → φ (σ.length + p) = none) ∧ ∀ t, AV.rel ⟨w, φ, σ ++ res rs listed, C.ok⟩ (E t) (a.tmps.getD t undef)
theorem res_same {rs : Res} {listed : Array Bool} {i : Nat} (h : ∀ r ∈ rs, r.1 ≠ i) : res rs (listed.setIfInBounds i true) = res rs listed := by
  unfold res
  refine List.map_congr_left fun r hr => ?_
  unfold resOb
  rw [getD_set_ne false (Ne.symm (h r hr))]
theorem res_set {rs : Res} {listed : Array Bool} {i p : Nat} {e : TypeId} {zs : List Value} (hnd : (rs.map (·.1)).Nodup) (hp : rs[p]? = some (i, e, zs)) (hi : i < listed.size) :
    res rs (listed.setIfInBounds i true) = (res rs listed).set p ⟨e, 0, zs.map fun v => .ro (.c v)⟩ := by
  apply List.ext_getElem?
  intro j
  rw [List.getElem?_set]
  unfold res
  rw [List.getElem?_map]
  by_cases e : p = j
  · subst e
    have hlt : p < rs.length := (List.getElem?_eq_some_iff.1 hp).1
    rw [hp]
    simp [resOb, hlt, hi]
  · rw [if_neg e, List.getElem?_map]
    cases hj : rs[j]? with
    | none => rfl
    | some r =>
      simp only [Option.map_some, Option.some.injEq]
      have hne : r.1 ≠ i := by
        intro he
        have h1 : (rs.map (·.1))[p]? = some i := by simp [hp]
        have h2 : (rs.map (·.1))[j]? = some i := by simp [hj, he]
        have hpl := (List.getElem?_eq_some_iff.1 h1).1
        exact e ((List.getElem?_inj hpl hnd).1 (h1.trans h2.symm))
      unfold resOb
      rw [getD_set_ne false (Ne.symm hne)]
section
variable {P : Program} {C : Ctx} {ops : Array Oper} {σ : List Ob} {md : Region.Mode} {rs : Res} {listed : Array Bool} {E : EE} {a : Act} {w : World}
theorem ev_evE' {m : Mem} {a : Act} {E : EE} (hE : ∀ t, AV.rel m (E t) (a.tmps.getD t undef)) (x : Operand) : AV.rel m (evE E x) (a.eval x) := by
  have := ev_rel (env := []) (m := m) (a := a) (fun t => by simp [look, AV.rel]) x
  cases x with
  | tmp t => exact hE t
  | const c => cases c <;> simpa [ev, evE] using this
  | func f => simpa [ev, evE] using this
  | global g => simp [evE, AV.rel]
theorem SimR.op {Q : Exit → Act → World → Prop} {i : Nat} {o : Oper} {v : AV} {K : Act → World → Prop} (hnd : (rs.map (·.1)).Nodup) (hs : SimR C σ rs listed E a w) (hi : listed.getD i true = false) (ho : ops[i]? = some o) (hd : ∀ t, o.dst = some t → t < C.n)
    (hy : YF P C ops σ rs i o v E) (hK : ∀ a' w', SimR C σ rs (listed.setIfInBounds i true) (putE E o.dst v) a' w' → K a' w') : wpOp P ops Q i K a w := by
  obtain ⟨s1, s2, φ, hG, hφ, hE⟩ := hs
  obtain ⟨dst, op, ty, pos, after, g⟩ := o
  have putR : ∀ {φ' : Nat → Option Nat} {σ' : List Ob} {w' : World} {u : Value}, (∀ t, AV.rel ⟨w', φ', σ', C.ok⟩ (E t) (a.tmps.getD t undef)) → AV.rel ⟨w', φ', σ', C.ok⟩ v u → ∀ t, AV.rel ⟨w', φ', σ', C.ok⟩ (putE E dst v t) ((a.put dst u).tmps.getD t undef) := by
    intro φ' σ' w' u h1 h2 t
    cases dst with
    | none => exact h1 t
    | some s =>
      rw [getD_put a s t u (by rw [s2]; exact hd s rfl)]
      simp only [putE]
      split
      · exact h2
      · exact h1 t
  have szR : ∀ u, (a.put dst u).tmps.size = C.n := fun u => by cases dst <;> simp [Act.put, s2]
  have dfR : ∀ u, (a.put dst u).defers = [] := fun u => by cases dst <;> exact s1
  unfold wpOp
  simp only [ho]
  rcases hy with ⟨h0, ⟨hg, hv⟩ | ⟨hg, rfl⟩⟩ | ⟨p, e, zs, hp, hop, hgd, hds, hz, rfl⟩
  · rw [if_pos (gsay_yes hg a _ hE)]
    refine .inl (hv (res rs listed) a ⟨w, φ, σ ++ res rs listed, C.ok⟩ hG rfl (fun x _ => ev_evE' hE x) _ _ fun u w' hb hu => hK _ _ ?_)
    obtain ⟨g1, g2⟩ := good_below hG hb
    refine ⟨dfR u, szR u, φ, ?_, fun p r hp hl => hφ p r hp ?_, ?_⟩
    · rw [res_same h0]; exact g1
    · rwa [getD_set_ne false (Ne.symm (h0 r (List.mem_of_getElem? hp)))] at hl
    · rw [res_same h0]; exact putR (fun t => AV.rel_keeps g2 _ _ (AV.only_true _) (hE t)) hu
  · rw [gsay_no hg a _ hE, if_neg (by simp)]
    refine hK _ _ ⟨dfR _, szR _, φ, ?_, fun p r hp hl => hφ p r hp ?_, ?_⟩
    · rw [res_same h0]; exact hG
    · rwa [getD_set_ne false (Ne.symm (h0 r (List.mem_of_getElem? hp)))] at hl
    · rw [res_same h0]; exact putR hE (by simp [AV.rel, RV.rel])
  · simp only at hop hgd hds
    subst hop; subst hgd
    have his : i < listed.size := by
      rcases Nat.lt_or_ge i listed.size with h | h
      · exact h
      · simp [Array.getElem?_eq_none h] at hi
    have hlf : listed.getD i false = false := getD_both hi
    rw [if_pos (by simp [Region.wanted])]
    refine .inl ?_
    obtain ⟨inf, z, h1, h2, h3, h4⟩ := hz.h
    unfold Oper.wp
    have hrun : (execOp a.eval ⟨dst, .alloc e, ty, pos, after, none⟩).run P w = .ok (.value (.pointer (some ⟨w.heap.size, 0, none⟩))) (w.alloc (.cells zs.toArray e)) := by
      simp [execOp, Instr.alloc, zeroValue, typeInfo, h1, h2, newVar, newRow, newObj, h3]; rfl
    rw [hrun]
    simp only [Oper.upon]
    have hpl : p < rs.length := (List.getElem?_eq_some_iff.1 hp).1
    have hlf' : ¬ listed.getD i false = true := by rw [hlf]; simp
    have hq : (σ ++ res rs listed)[σ.length + p]? = some ⟨e, 0, []⟩ := by
      rw [List.getElem?_append_right (by omega), show σ.length + p - σ.length = p by omega]
      unfold res
      rw [List.getElem?_map, hp]
      simp only [Option.map_some, resOb]
      rw [if_neg hlf']
    have hφq := hφ p _ hp hlf
    refine hK _ _ ⟨dfR _, szR _, upd φ (σ.length + p) (some w.heap.size), ?_, fun p' r hp' hl => ?_, ?_⟩
    · have := good_fill hG hq hφq zs h4
      rwa [List.set_append_right _ _ (by omega), show σ.length + p - σ.length = p by omega, ← res_set hnd hp his] at this
    · by_cases hpp : p' = p
      · subst hpp
        rw [hp] at hp'; injection hp' with hp'; subst hp'
        simp [his] at hl
      · have hri : r.1 ≠ i := fun he => by rw [he] at hl; simp [his] at hl
        rw [getD_set_ne false (Ne.symm hri)] at hl
        rw [upd_ne (by omega)]
        exact hφ p' r hp' hl
    · have hall : ∀ t, AV.rel ⟨w.alloc (.cells zs.toArray e), upd φ (σ.length + p) (some w.heap.size), (σ ++ res rs listed).set (σ.length + p) ⟨e, 0, zs.map fun v => .ro (.c v)⟩, C.ok⟩ (E t) (a.tmps.getD t undef) := fun t => rel_fill hq hφq _ _ (hE t)
      rw [List.set_append_right _ _ (by omega), show σ.length + p - σ.length = p by omega, ← res_set hnd hp his] at hall
      refine putR hall ?_
      simp only [AV.rel]
      exact ⟨by simp [res]; omega, w.heap.size, upd_eq, rfl⟩
theorem wpAny_of_R {n g : Nat} {L : Array Bool → EE → Prop} {Q' : Exit → Act → World → Prop} (hnd : (rs.map (·.1)).Nodup) (hd : ∀ (i : Nat) o t, ops[i]? = some o → o.dst = some t → t < C.n)
    (hL : ∀ listed E a w, L listed E → SimR C σ rs listed E a w → wpAny P md ops Q' g listed a w) :
    ∀ (f : Nat) (listed : Array Bool) (E : EE) (a : Act) (w : World), SimR C σ rs listed E a w → wpAnyR P C md ops σ rs n L f listed E → wpAny P md ops Q' (f + g) listed a w
  | 0, listed, E, a, w, hs, h => by rw [Nat.zero_add]; exact hL _ _ _ _ h hs
  | f + 1, listed, E, a, w, hs, h => by
    rw [show f + 1 + g = (f + g) + 1 by omega]
    refine ⟨fun h0 => absurd h0 h.1, fun i hi => ?_⟩
    obtain ⟨o, v, ho, hy, hK⟩ := (h.2 i hi).2
    exact SimR.op hnd hs (mem_ready.1 hi).1 ho (fun t ht => hd i o t ho ht) hy fun a' w' hs' => wpAny_of_R hnd hd hL f _ _ a' w' hs' hK
end
section
variable {P : Program} {md : Region.Mode} {ops : Array Oper} {Q' : Exit → Act → World → Prop}
def isMove (o : Oper) : Bool := match o with
  | ⟨some _, .move _, _, _, _, none⟩ => true
  | _ => false
def movedTo (o : Oper) (a : Act) : Value := match o.op with
  | .move x => a.eval x
  | _ => undef
theorem run_move {o : Oper} (h : isMove o = true) (a : Act) (w : World) : Region.wanted o (yielded ops a.tmps) = true ∧ (execOp a.eval o).run P w = .ok (.value (movedTo o a)) w := by
  obtain ⟨dst, op, ty, pos, after, g⟩ := o
  unfold isMove at h
  split at h
  · rename_i he; injection he with e1 e2 e3 e4 e5 e6; subst e1; subst e2; subst e6
    exact ⟨by simp [Region.wanted], by simp [execOp, movedTo]⟩
  · cases h
theorem movedTo_put {oi oj : Oper} (hm : isMove oi = true) (a : Act) (u : Value) (h3 : ∀ d, oj.dst = some d → d ∉ oi.looksAt ops) : movedTo oi (a.put oj.dst u) = movedTo oi a := by
  obtain ⟨dst, op, ty, pos, after, g⟩ := oi
  unfold isMove at hm
  split at hm
  · rename_i x _ _ _ he; injection he with e1 e2 e3 e4 e5 e6; subst e1; subst e2; subst e6
    simp only [movedTo]
    refine Act.eval_put fun d hd hxd => h3 d hd ?_
    subst hxd
    exact List.mem_append_left _ (List.mem_filterMap.2 ⟨.tmp d, by simp [Op.operands], rfl⟩)
  · cases hm
theorem wpOp_move {F : Act → World → Prop} {j : Nat} {oi oj : Oper} (hj : ops[j]? = some oj) (hm : isMove oi = true) (hap : oi.apart ops oj = true) (hsj : ∀ cs b, oj.op ≠ .select cs b) {K K' : Act → World → Prop} {a : Act} {w : World}
    (h : wpOp P ops (nrm F) j K' (a.put oi.dst (movedTo oi a)) w) (hK : ∀ a' w', movedTo oi a' = movedTo oi a → K' (a'.put oi.dst (movedTo oi a)) w' → K a' w') : wpOp P ops (nrm F) j K a w := by
  obtain ⟨h1, h2, h3⟩ := Oper.apart_spec hap
  unfold wpOp at *
  simp only [hj] at *
  rw [wanted_put oj a oi.dst _ h1] at h
  have key : ∀ u w', K' ((a.put oi.dst (movedTo oi a)).put oj.dst u) w' → K (a.put oj.dst u) w' := fun u w' hk => hK _ _ (movedTo_put hm a u h3) (by rwa [← Act.put_comm a (movedTo oi a) u h2])
  split
  · rename_i hw
    simp only [hw, if_true] at h
    refine h.imp (fun h => ?_) (fun h => ⟨?_, h.2⟩)
    · unfold Oper.wp at *
      rw [execOp_put oj hsj a oi.dst _ h1] at h
      generalize (execOp a.eval oj).run P w = r at *
      cases r with
      | ok n w' =>
        cases n with
        | value u => exact key u w' h
        | skip => exact key undef w' h
        | enter f args => exact Calls.mono h (fun e w'' he => by cases e <;> first | exact key _ w'' he | exact he | exact he.elim)
        | row r args => exact Rows.mono h fun v w'' he => key v w'' he
        | defer d =>
          simp only [Oper.upon] at h ⊢
          have e : ({ a.put oi.dst (movedTo oi a) with defers := d :: (a.put oi.dst (movedTo oi a)).defers } : Act).put oj.dst undef = (({ a with defers := d :: a.defers } : Act).put oj.dst undef).put oi.dst (movedTo oi a) := by
            have := Act.put_comm ({ a with defers := d :: a.defers } : Act) (movedTo oi a) undef h2
            rw [← this]
            cases oi.dst <;> rfl
          rw [e] at h
          refine hK _ _ ?_ h
          have := movedTo_put (ops := ops) (oj := oj) hm ({ a with defers := d :: a.defers } : Act) undef h3
          rw [this]
          cases hop : oi.op <;> simp [movedTo, hop]
          rfl
        | _ => exact h
      | halt x w' => cases x <;> exact h
    · have := h.1
      unfold Oper.asks at this ⊢
      rwa [execOp_put oj hsj a oi.dst _ h1] at this
  · rename_i hw
    simp only [hw] at h
    exact key undef w h
theorem wpAny_move {F : Act → World → Prop} {i : Nat} {oi : Oper} (hi : ops[i]? = some oi) (hm : isMove oi = true) (hsel : ∀ (j : Nat) (o : Oper) cs b, ops[j]? = some o → o.op ≠ .select cs b) :
    ∀ (fuel : Nat) (listed : Array Bool) (a : Act) (w : World),
      (∀ j oj, ops[j]? = some oj → j ≠ i → listed.getD j true = false → (∀ e ∈ oj.after, Region.binds md e = true → e.on ≠ i) → oi.apart ops oj = true) →
      i ∈ Region.ready md ops listed →
      wpAny P md ops (nrm F) fuel (listed.setIfInBounds i true) (a.put oi.dst (movedTo oi a)) w → wpAny P md ops (nrm F) (fuel + 1) listed a w := by
  have own : ∀ {K : Act → World → Prop} {a : Act} {w : World}, K (a.put oi.dst (movedTo oi a)) w → wpOp P ops (nrm F) i K a w := by
    intro K a w h
    obtain ⟨e1, e2⟩ := run_move (P := P) (ops := ops) hm a w
    unfold wpOp
    simp only [hi]
    rw [if_pos e1]
    refine .inl ?_
    unfold Oper.wp
    rw [e2]
    exact h
  intro fuel
  induction fuel with
  | zero =>
    intro listed a w _ hr H
    refine ⟨fun h => (by rw [h] at hr; cases hr), fun j hj => ?_⟩
    by_cases hji : j = i
    · subst hji; exact own H
    · have := ready_mono hj hji
      rw [H.1] at this
      cases this
  | succ fuel ih =>
    intro listed a w hfree hr H
    refine ⟨fun h => (by rw [h] at hr; cases hr), fun j hj => ?_⟩
    by_cases hji : j = i
    · subst hji; exact own H
    · have h1 := H.2 j (ready_mono hj hji)
      obtain ⟨hjun, oj, hoj, hall⟩ := mem_ready.1 hj
      have hnot : ∀ e ∈ oj.after, Region.binds md e = true → e.on ≠ i := fun e he hb heq => by
        have h1 := hall e he hb
        have h0 := (mem_ready.1 hr).1
        rw [heq, getD_both h0] at h1
        cases h1
      have hfree' : ∀ k ok, ops[k]? = some ok → k ≠ i → (listed.setIfInBounds j true).getD k true = false →
          (∀ e ∈ ok.after, Region.binds md e = true → e.on ≠ i) → oi.apart ops ok = true := fun k ok hk hki hun hno => by
        refine hfree k ok hk hki ?_ hno
        by_cases hjk : j = k
        · subst hjk; exact hjun
        · rw [getD_set_ne true hjk] at hun; exact hun
      refine wpOp_move hoj hm (hfree j oj hoj hji hjun hnot) (fun cs b => hsel j oj cs b hoj) h1 fun a' w' he h3 => ih (listed.setIfInBounds j true) a' w' hfree' (ready_mono hr (Ne.symm hji)) ?_
      rw [he, Array.setIfInBounds_comm _ _ hji]
      exact h3
end
def pick (l : List Oper) : List Nat → List (Nat × Oper)
  | [] => []
  | i :: is => match l[i]? with
    | some o => (i, o) :: pick l is
    | none => pick l is
theorem pick_mem {l : List Oper} : ∀ {is : List Nat} {p : Nat × Oper}, p ∈ pick l is → l[p.1]? = some p.2
  | [], p, h => by simp [pick] at h
  | i :: is, p, h => by
    unfold pick at h
    split at h
    · rename_i o ho
      rcases List.mem_cons.1 h with rfl | h
      · exact ho
      · exact pick_mem h
    · exact pick_mem h
def mvE (E : EE) (o : Oper) : AV := match o.op with
  | .move x => evE E x
  | _ => .junk
def preE : EE → List (Nat × Oper) → EE
  | E, [] => E
  | E, (_, o) :: l => preE (putE E o.dst (mvE E o)) l
inductive Moved : Env → List (Nat × Oper) → Env → Prop
  | nil {env : Env} : Moved env [] env
  | cons {env env' : Env} {l : List (Nat × Oper)} {i t : Nat} {x : Operand} {v : AV} {ty : TypeId} {pos : String} {after : Array Edge} {g : Option (Nat × Bool)} : ev env x = v → Moved ((t, v) :: env) l env' → Moved env ((i, ⟨some t, .move x, ty, pos, after, g⟩) :: l) env'
theorem Moved.eq {env env' : Env} {l : List (Nat × Oper)} (h : Moved env l env') : preE (look env) l = look env' := by
  induction h with
  | nil => rfl
  | cons hx _ ih =>
    rw [← ih]
    simp only [preE, mvE, ← ev_evE, hx, ← look_putE]
def preIdx (md : Region.Mode) (ops : Array Oper) (n : Nat) : List (Nat × Oper) → Array Bool → Option (Array Bool)
  | [], listed => some listed
  | (k, o) :: is, listed => if (Region.ready md ops listed).contains k && Region.free md ops listed k && decide (k < n) && isMove o then preIdx md ops n is (listed.setIfInBounds k true) else none
def drawTB (l : List Oper) (pre head : List Nat) (n : Nat) : Bool :=
  Region.noSelect l.toArray && decide (n < l.length) && sinkP .any l.toArray pre n && Region.chainB .any l.toArray n && decide ((pick l pre).length + (pick l head).length = n) && decide ((pick l pre).map (·.1) = pre) &&
  match preIdx .any l.toArray n (pick l pre) (Array.replicate l.length false) with
  | some listed => pre.all (fun i => listed.getD i true) && lexIdx .any l.toArray (l.length - n) n ((pick l head).map (·.1)) listed
  | none => false
section
variable {P : Program} {C : Ctx} {k : List Item} {R : Act → World → Prop} {env : Env} {σ : List Ob}
theorem wpAny_pre {F : Act → World → Prop} {ops : Array Oper} {n : Nat} (hsel : Region.noSelect ops = true) (hd : ∀ (i : Nat) o t, ops[i]? = some o → o.dst = some t → t < C.n) {w : World} {φ : Nat → Option Nat} (hG : Good C ⟨w, φ, σ, C.ok⟩) :
    ∀ (pre : List (Nat × Oper)) (listed listed' : Array Bool) (E : EE) (a : Act) (f : Nat), (∀ p ∈ pre, ops[p.1]? = some p.2) → preIdx .any ops n pre listed = some listed' → HeadInv .any ops n listed →
    a.defers = [] → a.tmps.size = C.n → (∀ t, AV.rel ⟨w, φ, σ, C.ok⟩ (E t) (a.tmps.getD t undef)) →
    (HeadInv .any ops n listed' → ∀ a', a'.defers = [] → a'.tmps.size = C.n → (∀ t, AV.rel ⟨w, φ, σ, C.ok⟩ (preE E pre t) (a'.tmps.getD t undef)) → wpAny P .any ops (nrm F) f listed' a' w) →
    wpAny P .any ops (nrm F) (pre.length + f) listed a w
  | [], listed, listed', E, a, f, _, hp, inv, s1, s2, hE, h => by
    simp only [preIdx, Option.some.injEq] at hp; subst hp
    rw [List.length_nil, Nat.zero_add]
    exact h inv a s1 s2 hE
  | (i, o) :: pre, listed, listed', E, a, f, hl, hp, inv, s1, s2, hE, h => by
    unfold preIdx at hp
    split at hp
    · rename_i hc
      simp only [Bool.and_eq_true, decide_eq_true_eq] at hc
      obtain ⟨⟨⟨hr, hf⟩, hin⟩, hm⟩ := hc
      have h0 : ops[i]? = some o := hl (i, o) (by simp)
      have hr' : i ∈ Region.ready .any ops listed := by simpa using hr
      rw [show ((i, o) :: pre).length + f = (pre.length + f) + 1 by simp; omega]
      refine wpAny_move h0 hm (Region.noSelect_spec hsel) _ listed a w (Region.free_spec h0 hf) hr' ?_
      have hmv : AV.rel ⟨w, φ, σ, C.ok⟩ (mvE E o) (movedTo o a) := by
        unfold mvE movedTo
        cases o.op <;> simp only <;> first | exact ev_evE' hE _ | simp [AV.rel]
      refine wpAny_pre hsel hd hG pre _ listed' (putE E o.dst (mvE E o)) _ f (fun p hp => hl p (by simp [hp])) hp (inv.set hr' hin) ?_ ?_ ?_ h
      · cases o.dst <;> exact s1
      · cases o.dst <;> simp [Act.put, s2]
      · intro t
        cases hdst : o.dst with
        | none => exact hE t
        | some s =>
          rw [getD_put a s t _ (by rw [s2]; exact hd i o s h0 hdst)]
          simp only [putE]
          split
          · exact hmv
          · exact hE t
    · cases hp
structure RunsT (P : Program) (C : Ctx) (ops : Array Oper) (rs : Res) (tail : List Oper) (l : List (Nat × Oper)) (k : List Item) (R : Act → World → Prop) (S : St) : Prop where
  run : wpLexR P C ops S.σ rs (fun E => ∃ env', E = look env' ∧ RunsL P C ops tail k R ⟨env', S.σ ++ full rs⟩) l (look S.env)
theorem res_none {rs : Res} {m : Nat} : ∀ (j : Nat) o, (res rs (Array.replicate m false))[j]? = some o → o.cs = [] := by
  intro j o h
  unfold res at h
  rw [List.getElem?_map, Option.map_eq_some_iff] at h
  obtain ⟨r, _, rfl⟩ := h
  unfold resOb
  rw [getD_replicate_false]
  rfl
theorem res_full {rs : Res} {listed : Array Bool} (h : ∀ r ∈ rs, listed.getD r.1 false = true) : res rs listed = full rs := by
  unfold res full
  refine List.map_congr_left fun r hr => ?_
  unfold resOb
  rw [if_pos (h r hr)]
theorem res_blank {rs : Res} {l l' : Array Bool} (h : ∀ r ∈ rs, l.getD r.1 false = l'.getD r.1 false) : res rs l = res rs l' := by
  unfold res
  refine List.map_congr_left fun r hr => ?_
  unfold resOb
  rw [h r hr]
theorem preIdx_off {ops : Array Oper} {n : Nat} {i : Nat} : ∀ (pre : List (Nat × Oper)) (listed listed' : Array Bool), preIdx .any ops n pre listed = some listed' → (∀ p ∈ pre, p.1 ≠ i) → listed'.getD i false = listed.getD i false
  | [], listed, listed', h, _ => by simp only [preIdx, Option.some.injEq] at h; rw [h]
  | (k, o) :: pre, listed, listed', h, hp => by
    unfold preIdx at h
    split at h
    · rw [preIdx_off pre _ listed' h fun p hq => hp p (by simp [hq]), getD_set_ne false (hp (k, o) (by simp))]
    · cases h
theorem Runs.drawT {id : Nat} {l : List Oper} {cn : Nat} {env' : Env} (pre head : List Nat) (n : Nat) (rs : Res) (hf : P.follows .mixedOrders = true) (hn : C.n = cn) (hB : drawTB l pre head n = true) (hd : dstOk cn l = true)
    (hpre : Moved env (pick l pre) env') (hnd : (rs.map (·.1)).Nodup) (hrs : ∀ r ∈ rs, r.1 < n) (hrp : ∀ r ∈ rs, ∀ p ∈ pre, p ≠ r.1)
    (h : RunsT P C l.toArray rs (l.drop n) (pick l head) k R ⟨env', σ⟩) : Runs P C (.code (.region id l.toArray true) :: k) R ⟨env, σ⟩ := by
  refine ⟨fun a w hs => Fin.of_wp (wp_region_any hf ?_)⟩
  unfold drawTB at hB
  simp only [Bool.and_eq_true, decide_eq_true_eq] at hB
  obtain ⟨⟨⟨⟨⟨⟨hsel, hnl⟩, hsk⟩, hch⟩, hlen⟩, hpm⟩, hx⟩ := hB
  split at hx
  · rename_i listed hli
    simp only [Bool.and_eq_true] at hx
    obtain ⟨hpa, hlex⟩ := hx
    obtain ⟨s1, s2, φ, hG, hE⟩ := hs
    have hb : Below w.heap.size w { w with drawn := w.drawn + 1 } := ⟨rfl, rfl, rfl, Nat.le_refl _, fun _ _ => rfl⟩
    obtain ⟨g1, g2⟩ := good_below hG hb
    -- the places that are kept for what is allocated
    let φ0 : Nat → Option Nat := fun i => if i < σ.length then φ i else none
    have hφ0 : ∀ j, φ0 (σ.length + j) = none := fun j => if_neg (by omega)
    obtain ⟨G1, G2⟩ := good_grow (φ' := φ0) (new := res rs (Array.replicate l.length false)) g1 (Below.refl _ _) (fun i hi => if_pos hi) (fun j hj g hg => by rw [hφ0] at hg; cases hg) (fun i j g hi hj e1 e2 => by rw [hφ0] at e1; cases e1) (fun j o hj => by rw [hφ0]; exact res_none j o hj)
    have hE1 : ∀ t, AV.rel ⟨{ w with drawn := w.drawn + 1 }, φ0, σ ++ res rs (Array.replicate l.length false), C.ok⟩ (look env t) (a.tmps.getD t undef) := fun t => AV.rel_keeps G2 _ _ (AV.only_true _) (AV.rel_keeps g2 _ _ (AV.only_true _) (hE t))
    have hdd : ∀ (i : Nat) o t, l.toArray[i]? = some o → o.dst = some t → t < C.n := fun i o t hi ht => by rw [hn]; exact dstOk_at hd i o t (by simpa using hi) ht
    have inv0 : HeadInv .any l.toArray n (Array.replicate l.length false) :=
      ⟨by simp, fun j oj _ hl => (by rw [getD_replicate_false] at hl; cases hl), fun t _ ht => getD_in (by simpa using ht) (getD_replicate_false _ _)⟩
    have hmemP : ∀ p ∈ pick l pre, l.toArray[p.1]? = some p.2 := fun p hp => by simpa using pick_mem hp
    have hmemH : ∀ p ∈ pick l head, l.toArray[p.1]? = some p.2 := fun p hp => by simpa using pick_mem hp
    have hsz : l.toArray.size = (pick l pre).length + ((pick l head).length + (l.length - n)) := by simp; omega
    refine (show ∀ m, m = l.toArray.size → wpAny P .any l.toArray (nrm (Fin P k R)) m (Array.replicate l.toArray.size false) a { w with drawn := w.drawn + 1 } from ?_) _ rfl
    intro m hm
    obtain rfl := hm.trans hsz
    refine wpAny_pre (σ := σ ++ res rs (Array.replicate l.length false)) hsel hdd G1 (pick l pre) (Array.replicate l.toArray.size false) listed (look env) a _ hmemP (by simpa using hli) (by simpa using inv0) s1 s2 hE1 fun inv a' t1 t2 hE' => ?_
    have hE2 : preE (look env) (pick l pre) = look env' := hpre.eq
    rw [hE2] at hE'
    have hprel : ∀ i ∈ pre, listed.getD i true = true := fun i hi => List.all_eq_true.1 hpa i hi
    have hoff : ∀ r ∈ rs, listed.getD r.1 false = (Array.replicate l.length false).getD r.1 false := fun r hr => preIdx_off _ _ _ hli fun p hp => by
      refine hrp r hr p.1 ?_
      rw [← hpm]; exact List.mem_map_of_mem hp
    have hres : res rs (Array.replicate l.length false) = res rs listed := res_blank fun r hr => (hoff r hr).symm
    rw [hres] at hE' G1
    have H := wpAnyR_lex (P := P) (C := C) (σ := σ) (md := .any) (ops := l.toArray) (g := l.length - n) hsk hch (by simpa using hnl) (pick l head) listed (look env') hmemH inv hprel hlex h.run
    refine wpAny_of_R hnd hdd (fun listed' E' a'' w'' hL hS => ?_) _ listed (look env') a' _ ⟨t1, t2, φ0, G1, fun p r _ _ => hφ0 p, hE'⟩ H
    obtain ⟨hsq, hall, env'', rfl, hR⟩ := hL
    have hfl := res_full (rs := rs) (listed := listed') fun r hr => hall r.1 (hrs r hr)
    obtain ⟨u1, u2, φ', G', _, hE''⟩ := hS
    rw [hfl] at G' hE''
    have := wpAny_of_seq (md := .any) (Q' := nrm (Fin P k R)) (l.drop n) n listed' a'' w'' (fun j => by simp [List.getElem?_drop]) (by rw [List.length_drop]; exact hsq) (hR.run a'' w'' ⟨u1, u2, φ', G', hE''⟩)
    rwa [List.length_drop] at this
  · cases hx
variable {ops : Array Oper} {rs : Res} {tail : List Oper} {rest : List (Nat × Oper)} {i t : Nat} {o : Oper}
theorem Runs.toDrawT {id : Nat} {l : List Oper} {k' : List Item} {cn : Nat} {env' : Env} (m : Nat) (pre head : List Nat) (n : Nat) (rs : Res) (hf : P.follows .mixedOrders = true) (hn : C.n = cn) (hc : Proofs.Ytnecoghfhcimeaa.ctls m k = .code (.region id l.toArray true) :: k') (hB : drawTB l pre head n = true) (hd : dstOk cn l = true)
    (hpre : Moved env (pick l pre) env') (hnd : (rs.map (·.1)).Nodup) (hrs : ∀ r ∈ rs, r.1 < n) (hrp : ∀ r ∈ rs, ∀ p ∈ pre, p ≠ r.1)
    (h : RunsT P C l.toArray rs (l.drop n) (pick l head) k' R ⟨env', σ⟩) : Runs P C k R ⟨env, σ⟩ := Runs.ctls m hc (Runs.drawT pre head n rs hf hn hB hd hpre hnd hrs hrp h)
theorem RunsT.nil (h : RunsL P C ops tail k R ⟨env, σ ++ full rs⟩) : RunsT P C ops rs tail [] k R ⟨env, σ⟩ := ⟨⟨env, rfl, h⟩⟩
theorem RunsT.pur {v : AV} (h : ∀ more, Pur P C o env (σ ++ more) v) (hi : ∀ r ∈ rs, r.1 ≠ i) (hg : gsay ops env o.guard = some true) (hd : o.dst = some t) (hk : RunsT P C ops rs tail rest k R ⟨(t, v) :: env, σ⟩) : RunsT P C ops rs tail ((i, o) :: rest) k R ⟨env, σ⟩ := by
  refine ⟨v, .inl ⟨hi, .inl ⟨hg, fun more => (h more).toF⟩⟩, ?_⟩
  rw [hd, show (⟨env, σ⟩ : St).env = env from rfl, ← look_putE]
  exact hk.run
theorem RunsT.alloc {p : Nat} {e : TypeId} {zs : List Value} {ty : TypeId} {pos : String} {after : Array Edge} (hr : rs[p]? = some (i, e, zs)) (hz : TZ P e zs) (hk : RunsT P C ops rs tail rest k R ⟨(t, .obj (σ.length + p) 0) :: env, σ⟩) :
    RunsT P C ops rs tail ((i, ⟨some t, .alloc e, ty, pos, after, none⟩) :: rest) k R ⟨env, σ⟩ := by
  refine ⟨.obj (σ.length + p) 0, .inr ⟨p, e, zs, hr, rfl, rfl, rfl, hz, rfl⟩, ?_⟩
  rw [show (⟨env, σ⟩ : St).env = env from rfl, ← look_putE]
  exact hk.run
theorem RunsT.off (hi : ∀ r ∈ rs, r.1 ≠ i) (hg : gsay ops env o.guard = some false) (hd : o.dst = some t) (hk : RunsT P C ops rs tail rest k R ⟨(t, .ro (.c undef)) :: env, σ⟩) : RunsT P C ops rs tail ((i, o) :: rest) k R ⟨env, σ⟩ := by
  refine ⟨.ro (.c undef), .inl ⟨hi, .inr ⟨hg, rfl⟩⟩, ?_⟩
  rw [hd, show (⟨env, σ⟩ : St).env = env from rfl, ← look_putE]
  exact hk.run
theorem RunsT.step {T : Tab} (hT : TabOk P T) {v : AV} (hd : o.dst = some t) (hg : gsay ops env o.guard = some true) (h : ∀ more, aop T env (σ ++ more) o.op = some v) (hi : ∀ r ∈ rs, r.1 ≠ i) (hk : RunsT P C ops rs tail rest k R ⟨(t, v) :: env, σ⟩) : RunsT P C ops rs tail ((i, o) :: rest) k R ⟨env, σ⟩ := by
  obtain ⟨dst, op, ty, pos, after, g⟩ := o
  simp only at hd; subst hd
  exact RunsT.pur (fun more => pu_auto hT (h more)) hi hg rfl hk
end
end Go.Proofs.Ytnecoghfhcimeaa
/- Integers as bytes: both sides. -/
namespace Go.Proofs.Ytnecoghfhcimeaa
set_option linter.unusedSimpArgs false
set_option linter.unusedVariables false
set_option linter.unusedSectionVars false
open Go.RowKit
open AV (Mem Keeps)
section
variable {P : Program} {C : Ctx} {k k' : List Item} {R : Act → World → Prop} {S : St} {c : Code}
theorem Runs.unroll (m : Nat) (hc : Proofs.Ytnecoghfhcimeaa.ctls m k = .code (.loop c) :: k') (h : Runs P C (.code c :: .inLoop c :: k') R S) : Runs P C k R S :=
  Runs.ctls m hc ⟨fun a w hs => (h.run a w hs).step fun _ _ => step_loop⟩
theorem Runs.reroll (m : Nat) (hc : Proofs.Ytnecoghfhcimeaa.ctls m k = .inLoop c :: k') (h : Runs P C (.code c :: .inLoop c :: k') R S) : Runs P C k R S :=
  Runs.ctls m hc ⟨fun a w hs => (h.run a w hs).step fun _ _ => step_inLoop⟩
end
def u8i (x : Int) : UInt8 := UInt8.ofNat (x % 256).toNat
theorem u8i_val (x : Int) : ((u8i x).toNat : Int) = x % 256 := by
  unfold u8i
  rw [UInt8.toNat_ofNat']
  omega
section
variable {P : Program} {C : Ctx} {env : Env} {σ : List Ob} {t : Nat} {ty : TypeId} {pos : String} {after : Array Edge} {gd : Option (Nat × Bool)}
theorem pu_toU8 {src dst : TypeId} {x : Operand} {p : Int} [hs : TI P src .i64] [hd : TI P dst .u8] (hx : ev env x = .int p) : Pur P C ⟨some t, .convert src dst x, ty, pos, after, gd⟩ env σ (.ro (.u8 (u8i p))) := by
  have h := pu_convert (P := P) (C := C) (σ := σ) (t := t) (ty := ty) (pos := pos) (after := after) (gd := gd) hs hd hx
  have e : IntKind.u8.wrap p = ((u8i p).toNat : Int) := by rw [u8i_val]; simp [IntKind.wrap, IntKind.bits, IntKind.signed]
  rwa [e] at h
theorem pu_ofU8 {src dst : TypeId} {x : Operand} {b : UInt8} [hs : TI P src .u8] [hd : TI P dst .i64] (hx : ev env x = .ro (.u8 b)) : Pur P C ⟨some t, .convert src dst x, ty, pos, after, gd⟩ env σ (.int (b.toNat : Int)) := by
  have h := pu_convert (P := P) (C := C) (σ := σ) (t := t) (ty := ty) (pos := pos) (after := after) (gd := gd) hs hd hx
  have hb := b.toNat_lt
  have e : IntKind.i64.wrap (b.toNat : Int) = (b.toNat : Int) := by simp [IntKind.wrap, IntKind.bits, IntKind.signed]; omega
  rwa [e] at h
theorem pu_shrK {xt yt : TypeId} {x y : Operand} {p q : Int} {kd : IntKind} (K : Int) (hx : ev env x = .int p) (hy : ev env y = .ro (.c (.int kd q))) (h0 : 0 ≤ q) (hK : (2 : Int) ^ min q.toNat 64 = K) : Pur P C ⟨some t, .binOp .shr xt x y yt, ty, pos, after, gd⟩ env σ (.int (p / K)) :=
  pu_bin hx hy (fun w => by
    subst hK
    simp only [go_sem]
    rw [shift_shr_any _ _ _ _ h0]
    simp [IntKind.bits])
end
def be (n s : Int) : List UInt8 := if s = 1 then [u8i n] else if s = 2 then [u8i (n / 256), u8i n] else if s = 3 then [u8i (n / 256 / 256), u8i (n / 256), u8i n] else [u8i (n / 256 / 256 / 256), u8i (n / 256 / 256), u8i (n / 256), u8i n]
def Fit (n s : Int) : Prop := 1 ≤ s ∧ s ≤ 4 ∧ 0 ≤ n ∧ n < pow8 s
noncomputable def encBE (n s : Int) : List UInt8 := open Classical in if Fit n s then be n s else []
theorem encBE_yes {n s : Int} (h : Fit n s) : encBE n s = be n s := if_pos h
theorem encBE_no {n s : Int} (h : ¬ Fit n s) : encBE n s = [] := if_neg h
set_option maxHeartbeats 4000000 in
theorem impl_BigEndian (n s : Int) : AC Try.prog 127 [.int n, .int s] (fun rr => rr = .row 5 1 ((encBE n s).map RV.u8)) := by
  by_cases h : Fit n s
  · rw [encBE_yes h]
    obtain ⟨h1, h2, h3, h4⟩ := h
    have hp := pow8_le (s := s)
    have hs : s = 1 ∨ s = 2 ∨ s = 3 ∨ s = 4 := by omega
    rcases hs with rfl | rfl | rfl | rfl
    all_goals
      refine ac_enter Try.func127 rfl _ Try.ntmps127 (by simp) fun C hn hm => ?_
      repeat' (first
 | refine RunsL.step tabOk hn rfl ?_
 | refine RunsL.nil ?_
 | refine Runs.toRegion 30 rfl ?_
 | refine op_make1 (n := 1) rfl rfl rfl rfl (by omega) (by unfold maxLen; omega) (tl hn rfl) ?_
 | refine op_make1 (n := 2) rfl rfl rfl rfl (by omega) (by unfold maxLen; omega) (tl hn rfl) ?_
 | refine op_make1 (n := 3) rfl rfl rfl rfl (by omega) (by unfold maxLen; omega) (tl hn rfl) ?_
 | refine op_make1 (n := 4) rfl rfl rfl rfl (by omega) (by unfold maxLen; omega) (tl hn rfl) ?_
 | refine op_storeF rfl rfl rfl rfl (by exact Nat.le_of_ble_eq_true rfl) ?_
 | refine Runs.unroll 30 rfl ?_
 | refine Runs.reroll 30 rfl ?_
 | (refine RunsL.pe hn rfl rfl rfl ?_; first
 | refine ⟨_, pu_callR (inRange_ac _ _ _) rfl, ?_⟩
 | refine ⟨_, pu_pow rfl rfl (by omega), ?_⟩
 | refine ⟨_, pu_toU8 rfl, ?_⟩
 | refine ⟨_, pu_shrK 256 rfl rfl (by omega) (by decide), ?_⟩
 | refine ⟨_, pu_indexAddr_own (sz := 1) rfl rfl rfl rfl (Nat.mul_one _).symm (by omega) (by simp), ?_⟩)
 | (refine Runs.ctls 30 rfl ?_; first | refine Runs.cond_t rfl ?_ | refine Runs.cond_f rfl ?_ | (refine Runs.cond_yes rfl ?_ ?_; · first | omega | rfl | assumption) | (refine Runs.cond_no rfl ?_ ?_; · first | omega | rfl | assumption) | refine Runs.ret (ends_ro hm rfl rfl ?_) | exact Runs.ret (ends_cellR hm rfl rfl rfl (Nat.le_of_ble_eq_true rfl) rfl rfl))
 | refine op_storeF rfl rfl rfl rfl (Nat.le_of_ble_eq_true rfl) ?_
 | (refine RunsL.pe hn rfl rfl rfl ?_; first
 | refine ⟨_, pu_sub rfl rfl (by omega), ?_⟩
 | refine ⟨_, pu_mul rfl rfl (by omega), ?_⟩
          )
 | ((first | refine RunsL.guard_dec rfl rfl rfl ?_ ?_ | refine RunsL.guard_ndec rfl rfl rfl ?_ ?_) <;> intro h <;> try (exfalso; first | omega | contradiction)))
      exact Runs.ctls 30 rfl (Runs.ret (ends_own (rs := (be n _).map RV.u8) hm rfl rfl rfl rfl rfl))
  · rw [encBE_no h]
    have hp := pow8_le (s := s)
    refine ac_enter Try.func127 rfl _ Try.ntmps127 (by simp) fun C hn hm => ?_
    by_cases hs : 1 ≤ s ∧ s ≤ 4
    · have hb : n < 0 ∨ pow8 s ≤ n := by
        rcases Int.lt_or_le n 0 with h0 | h0
        · exact .inl h0
        · exact .inr (by rcases Int.lt_or_le n (pow8 s) with h5 | h5; exact absurd ⟨hs.1, hs.2, h0, h5⟩ h; exact h5)
      repeat' (first
 | refine op_build0 (tl hn rfl) ?_
 | refine RunsL.step tabOk hn rfl ?_
 | refine RunsL.nil ?_
 | refine Runs.toRegion 30 rfl ?_
 | (refine RunsL.pe hn rfl rfl rfl ?_; first
 | refine ⟨_, pu_callR (inRange_ac _ _ _) rfl, ?_⟩
 | refine ⟨_, pu_pow rfl rfl (by omega), ?_⟩)
 | (refine Runs.ctls 30 rfl ?_; first | refine Runs.cond_t rfl ?_ | refine Runs.cond_f rfl ?_ | (refine Runs.cond_yes rfl ?_ ?_; · first | omega | rfl | assumption) | (refine Runs.cond_no rfl ?_ ?_; · first | omega | rfl | assumption) | refine Runs.ret (ends_ro hm rfl rfl ?_) | exact Runs.ret (ends_cellR hm rfl rfl rfl (Nat.le_of_ble_eq_true rfl) rfl rfl))
 | refine op_storeF rfl rfl rfl rfl (Nat.le_of_ble_eq_true rfl) ?_
 | (refine RunsL.pe hn rfl rfl rfl ?_; first
 | refine ⟨_, pu_sub rfl rfl (by omega), ?_⟩
 | refine ⟨_, pu_mul rfl rfl (by omega), ?_⟩
          )
 | ((first | refine RunsL.guard_dec rfl rfl rfl ?_ ?_ | refine RunsL.guard_ndec rfl rfl rfl ?_ ?_) <;> intro h <;> try (exfalso; first | omega | contradiction)))
      all_goals exact Runs.ctls 30 rfl (Runs.ret (ends_own (rs := []) hm rfl rfl rfl rfl rfl))
    · repeat' (first
 | refine op_build0 (tl hn rfl) ?_
 | refine RunsL.step tabOk hn rfl ?_
 | refine RunsL.nil ?_
 | refine Runs.toRegion 30 rfl ?_
 | (refine RunsL.pe hn rfl rfl rfl ?_; first
 | refine ⟨_, pu_callR (inRange_ac _ _ _) rfl, ?_⟩)
 | (refine Runs.ctls 30 rfl ?_; first | refine Runs.cond_t rfl ?_ | refine Runs.cond_f rfl ?_ | (refine Runs.cond_yes rfl ?_ ?_; · first | omega | rfl | assumption) | (refine Runs.cond_no rfl ?_ ?_; · first | omega | rfl | assumption) | refine Runs.ret (ends_ro hm rfl rfl ?_) | exact Runs.ret (ends_cellR hm rfl rfl rfl (Nat.le_of_ble_eq_true rfl) rfl rfl))
 | refine op_storeF rfl rfl rfl rfl (Nat.le_of_ble_eq_true rfl) ?_
 | (refine RunsL.pe hn rfl rfl rfl ?_; first
 | refine ⟨_, pu_sub rfl rfl (by omega), ?_⟩
 | refine ⟨_, pu_mul rfl rfl (by omega), ?_⟩
        )
 | ((first | refine RunsL.guard_dec rfl rfl rfl ?_ ?_ | refine RunsL.guard_ndec rfl rfl rfl ?_ ?_) <;> intro h <;> try (exfalso; first | omega | contradiction)))
      all_goals exact Runs.ctls 30 rfl (Runs.ret (ends_own (rs := []) hm rfl rfl rfl rfl rfl))
set_option maxHeartbeats 4000000 in
theorem spec_BigEndian (n s : Int) : AC Try.prog 130 [.int n, .int s] (fun rr => rr = .row 5 1 ((encBE n s).map RV.u8)) := by
  by_cases h : Fit n s
  · rw [encBE_yes h]
    obtain ⟨h1, h2, h3, h4⟩ := h
    have hp := pow8_le (s := s)
    have hs : s = 1 ∨ s = 2 ∨ s = 3 ∨ s = 4 := by omega
    have hw := l2Power_ac s ⟨h1, h2⟩
    rcases hs with rfl | rfl | rfl | rfl
    all_goals
      refine ac_enter Try.func130 rfl _ Try.ntmps130 (by simp) fun C hn hm => ?_
      repeat' (first
 | refine op_build0 (tl hn rfl) ?_
 | refine RunsL.step tabOk hn rfl ?_
 | refine RunsL.nil ?_
 | refine Runs.toRegion 30 rfl ?_
 | refine Runs.unroll 30 rfl ?_
 | refine Runs.reroll 30 rfl ?_
 | refine op_appendA rfl rfl rfl rfl rfl rfl ⟨by simp [AV.onlys, AV.only], trivial⟩ (by simp) rfl (tl hn rfl) ?_
 | (refine RunsL.pe hn rfl rfl rfl ?_; first
 | refine ⟨_, pu_callR (l1In_ac _ _ _) rfl, ?_⟩
 | refine ⟨_, pu_callR hw rfl, ?_⟩
 | refine ⟨_, pu_toU8 rfl, ?_⟩
 | refine ⟨_, pu_shrK 1 rfl rfl (by omega) (by decide), ?_⟩
 | refine ⟨_, pu_shrK 256 rfl rfl (by omega) (by decide), ?_⟩
 | refine ⟨_, pu_shrK 65536 rfl rfl (by omega) (by decide), ?_⟩
 | refine ⟨_, pu_shrK 16777216 rfl rfl (by omega) (by decide), ?_⟩)
 | (refine Runs.ctls 30 rfl ?_; first | refine Runs.cond_t rfl ?_ | refine Runs.cond_f rfl ?_ | (refine Runs.cond_nno rfl ?_ ?_; · first | omega | rfl | assumption) | (refine Runs.cond_nyes rfl ?_ ?_; · first | omega | rfl | assumption) | refine Runs.ret (ends_ro hm rfl rfl ?_) | exact Runs.ret (ends_cellR hm rfl rfl rfl (Nat.le_of_ble_eq_true rfl) rfl rfl))
 | (refine RunsL.pe hn rfl rfl rfl ?_; first
 | refine ⟨_, pu_sub rfl rfl (by omega), ?_⟩
 | refine ⟨_, pu_mul rfl rfl (by omega), ?_⟩
 | refine ⟨_, pu_build rfl rfl rfl rfl rfl rfl, ?_⟩)
 | (refine RunsL.guard_ndec rfl rfl rfl ?_ ?_ <;> intro h <;> try (exfalso; first | omega | contradiction)))
      refine Runs.ctls 30 rfl (Runs.ret (ends_own (rs := (be n _).map RV.u8) hm rfl rfl rfl ?_ rfl))
      have e1 : n / 256 / 256 = n / 65536 := by omega
      have e2 : n / 65536 / 256 = n / 16777216 := by omega
      simp [be, e1, e2]
  · rw [encBE_no h]
    have hp := pow8_le (s := s)
    refine ac_enter Try.func130 rfl _ Try.ntmps130 (by simp) fun C hn hm => ?_
    by_cases hs : 1 ≤ s ∧ s ≤ 4
    · have hw := l2Power_ac s hs
      have hb : n < 0 ∨ pow8 s ≤ n := by
        rcases Int.lt_or_le n 0 with h0 | h0
        · exact .inl h0
        · exact .inr (by rcases Int.lt_or_le n (pow8 s) with h5 | h5; exact absurd ⟨hs.1, hs.2, h0, h5⟩ h; exact h5)
      repeat' (first
 | refine op_build0 (tl hn rfl) ?_
 | refine RunsL.step tabOk hn rfl ?_
 | refine RunsL.nil ?_
 | refine Runs.toRegion 30 rfl ?_
 | (refine RunsL.pe hn rfl rfl rfl ?_; first
 | refine ⟨_, pu_callR (l1In_ac _ _ _) rfl, ?_⟩
 | refine ⟨_, pu_callR hw rfl, ?_⟩)
 | (refine Runs.ctls 30 rfl ?_; first | refine Runs.cond_t rfl ?_ | refine Runs.cond_f rfl ?_ | (refine Runs.cond_nno rfl ?_ ?_; · first | omega | rfl | assumption) | (refine Runs.cond_nyes rfl ?_ ?_; · first | omega | rfl | assumption) | refine Runs.ret (ends_ro hm rfl rfl ?_) | exact Runs.ret (ends_cellR hm rfl rfl rfl (Nat.le_of_ble_eq_true rfl) rfl rfl))
 | (refine RunsL.pe hn rfl rfl rfl ?_; first
 | refine ⟨_, pu_sub rfl rfl (by omega), ?_⟩
 | refine ⟨_, pu_mul rfl rfl (by omega), ?_⟩
 | refine ⟨_, pu_build rfl rfl rfl rfl rfl rfl, ?_⟩)
 | (refine RunsL.guard_ndec rfl rfl rfl ?_ ?_ <;> intro h <;> try (exfalso; first | omega | contradiction)))
      all_goals exact Runs.ctls 30 rfl (Runs.ret (ends_own (rs := []) hm rfl rfl rfl rfl rfl))
    · repeat' (first
 | refine op_build0 (tl hn rfl) ?_
 | refine RunsL.step tabOk hn rfl ?_
 | refine RunsL.nil ?_
 | refine Runs.toRegion 30 rfl ?_
 | (refine RunsL.pe hn rfl rfl rfl ?_; first
 | refine ⟨_, pu_callR (l1In_ac _ _ _) rfl, ?_⟩)
 | (refine Runs.ctls 30 rfl ?_; first | refine Runs.cond_t rfl ?_ | refine Runs.cond_f rfl ?_ | (refine Runs.cond_nno rfl ?_ ?_; · first | omega | rfl | assumption) | (refine Runs.cond_nyes rfl ?_ ?_; · first | omega | rfl | assumption) | refine Runs.ret (ends_ro hm rfl rfl ?_) | exact Runs.ret (ends_cellR hm rfl rfl rfl (Nat.le_of_ble_eq_true rfl) rfl rfl))
 | (refine RunsL.pe hn rfl rfl rfl ?_; first
 | refine ⟨_, pu_sub rfl rfl (by omega), ?_⟩
 | refine ⟨_, pu_mul rfl rfl (by omega), ?_⟩
 | refine ⟨_, pu_build rfl rfl rfl rfl rfl rfl, ?_⟩)
 | (refine RunsL.guard_ndec rfl rfl rfl ?_ ?_ <;> intro h <;> try (exfalso; first | omega | contradiction)))
      all_goals exact Runs.ctls 30 rfl (Runs.ret (ends_own (rs := []) hm rfl rfl rfl rfl rfl))
set_option maxHeartbeats 8000000 in
theorem impl_LittleEndian (n s : Int) : AC Try.prog 126 [.int n, .int s] (fun rr => rr = .row 5 1 ((encBE n s).reverse.map RV.u8)) := by
  have hb := impl_BigEndian n s
  by_cases h : Fit n s
  · rw [encBE_yes h] at hb ⊢
    obtain ⟨h1, h2, h3, h4⟩ := h
    have hs : s = 1 ∨ s = 2 ∨ s = 3 ∨ s = 4 := by omega
    rcases hs with rfl | rfl | rfl | rfl
    · have hb' : AC Try.prog 127 [.int n, .int 1] (fun rr => rr = .row 5 1 [.u8 (u8i n)]) := hb
      refine ac_enter Try.func126 rfl _ Try.ntmps126 (by simp) fun C hn hm => ?_
      repeat' (first
 | refine op_callOR hb' rfl (tl hn rfl) ?_
 | refine RunsL.step tabOk hn rfl ?_
 | refine RunsL.nil ?_
 | refine Runs.toRegion 30 rfl ?_
 | refine op_storeF rfl rfl rfl rfl (by exact Nat.le_of_ble_eq_true rfl) ?_
 | refine Runs.unroll 30 rfl ?_
 | refine Runs.reroll 30 rfl ?_
 | (refine RunsL.pe hn rfl rfl rfl ?_; first
 | refine ⟨_, pu_len_own (n := 1) rfl rfl rfl, ?_⟩)
 | (refine Runs.ctls 30 rfl ?_; first | refine Runs.cond_t rfl ?_ | refine Runs.cond_f rfl ?_ | refine Runs.ret (ends_ro hm rfl rfl ?_) | exact Runs.ret (ends_cellR hm rfl rfl rfl (Nat.le_of_ble_eq_true rfl) rfl rfl))
 | refine op_storeF rfl rfl rfl rfl (Nat.le_of_ble_eq_true rfl) ?_
 | (refine RunsL.pe hn rfl rfl rfl ?_; first
 | refine ⟨_, pu_add rfl rfl (by omega), ?_⟩
 | refine ⟨_, pu_sub rfl rfl (by omega), ?_⟩))
      exact Runs.ctls 30 rfl (Runs.ret (ends_own (rs := (be n 1).reverse.map RV.u8) hm rfl rfl rfl rfl rfl))
    · have hb' : AC Try.prog 127 [.int n, .int 2] (fun rr => rr = .row 5 1 [.u8 (u8i (n / 256)), .u8 (u8i n)]) := hb
      refine ac_enter Try.func126 rfl _ Try.ntmps126 (by simp) fun C hn hm => ?_
      repeat' (first
 | refine op_callOR hb' rfl (tl hn rfl) ?_
 | refine Runs.toDrawT (id := 5) 30 [2, 3] [0, 1, 4, 5, 6, 7, 8, 9, 10, 11] 12 [] mixed hn rfl (by kernel_rfl) rfl (.cons rfl (.cons rfl .nil)) (by decide) (by decide) (by decide) ?_
 | refine RunsT.nil ?_
 | refine RunsT.step tabOk rfl rfl (fun _ => rfl) (by decide) ?_
 | refine RunsT.pur (fun _ => pu_len_own (n := 2) rfl rfl rfl) (by decide) rfl rfl ?_
 | refine RunsT.pur (fun _ => pu_indexAddr_own (sz := 1) (n := 2) rfl rfl rfl rfl rfl (by omega) (by omega)) (by decide) rfl rfl ?_
 | refine RunsT.pur (fun _ => pu_add rfl rfl (by omega)) (by decide) rfl rfl ?_
 | refine RunsL.step tabOk hn rfl ?_
 | refine RunsL.nil ?_
 | refine Runs.toRegion 30 rfl ?_
 | refine op_storeF rfl rfl rfl rfl (by exact Nat.le_of_ble_eq_true rfl) ?_
 | refine Runs.unroll 30 rfl ?_
 | refine Runs.reroll 30 rfl ?_
 | (refine RunsL.pe hn rfl rfl rfl ?_; first
 | refine ⟨_, pu_len_own (n := 2) rfl rfl rfl, ?_⟩
 | refine ⟨_, pu_indexAddr_own (sz := 1) (n := 2) rfl rfl rfl rfl rfl (by omega) (by omega), ?_⟩)
 | (refine Runs.ctls 30 rfl ?_; first | refine Runs.cond_t rfl ?_ | refine Runs.cond_f rfl ?_ | refine Runs.ret (ends_ro hm rfl rfl ?_) | exact Runs.ret (ends_cellR hm rfl rfl rfl (Nat.le_of_ble_eq_true rfl) rfl rfl))
 | refine op_storeF rfl rfl rfl rfl (Nat.le_of_ble_eq_true rfl) ?_
 | (refine RunsL.pe hn rfl rfl rfl ?_; first
 | refine ⟨_, pu_add rfl rfl (by omega), ?_⟩
 | refine ⟨_, pu_sub rfl rfl (by omega), ?_⟩))
      exact Runs.ctls 30 rfl (Runs.ret (ends_own (rs := (be n 2).reverse.map RV.u8) hm rfl rfl rfl rfl rfl))
    · have hb' : AC Try.prog 127 [.int n, .int 3] (fun rr => rr = .row 5 1 [.u8 (u8i (n / 256 / 256)), .u8 (u8i (n / 256)), .u8 (u8i n)]) := hb
      refine ac_enter Try.func126 rfl _ Try.ntmps126 (by simp) fun C hn hm => ?_
      repeat' (first
 | refine op_callOR hb' rfl (tl hn rfl) ?_
 | refine Runs.toDrawT (id := 5) 30 [2, 3] [0, 1, 4, 5, 6, 7, 8, 9, 10, 11] 12 [] mixed hn rfl (by kernel_rfl) rfl (.cons rfl (.cons rfl .nil)) (by decide) (by decide) (by decide) ?_
 | refine RunsT.nil ?_
 | refine RunsT.step tabOk rfl rfl (fun _ => rfl) (by decide) ?_
 | refine RunsT.pur (fun _ => pu_len_own (n := 3) rfl rfl rfl) (by decide) rfl rfl ?_
 | refine RunsT.pur (fun _ => pu_indexAddr_own (sz := 1) (n := 3) rfl rfl rfl rfl rfl (by omega) (by omega)) (by decide) rfl rfl ?_
 | refine RunsT.pur (fun _ => pu_add rfl rfl (by omega)) (by decide) rfl rfl ?_
 | refine RunsL.step tabOk hn rfl ?_
 | refine RunsL.nil ?_
 | refine Runs.toRegion 30 rfl ?_
 | refine op_storeF rfl rfl rfl rfl (by exact Nat.le_of_ble_eq_true rfl) ?_
 | refine Runs.unroll 30 rfl ?_
 | refine Runs.reroll 30 rfl ?_
 | (refine RunsL.pe hn rfl rfl rfl ?_; first
 | refine ⟨_, pu_len_own (n := 3) rfl rfl rfl, ?_⟩
 | refine ⟨_, pu_indexAddr_own (sz := 1) (n := 3) rfl rfl rfl rfl rfl (by omega) (by omega), ?_⟩)
 | (refine Runs.ctls 30 rfl ?_; first | refine Runs.cond_t rfl ?_ | refine Runs.cond_f rfl ?_ | refine Runs.ret (ends_ro hm rfl rfl ?_) | exact Runs.ret (ends_cellR hm rfl rfl rfl (Nat.le_of_ble_eq_true rfl) rfl rfl))
 | refine op_storeF rfl rfl rfl rfl (Nat.le_of_ble_eq_true rfl) ?_
 | (refine RunsL.pe hn rfl rfl rfl ?_; first
 | refine ⟨_, pu_add rfl rfl (by omega), ?_⟩
 | refine ⟨_, pu_sub rfl rfl (by omega), ?_⟩))
      exact Runs.ctls 30 rfl (Runs.ret (ends_own (rs := (be n 3).reverse.map RV.u8) hm rfl rfl rfl rfl rfl))
    · have hb' : AC Try.prog 127 [.int n, .int 4] (fun rr => rr = .row 5 1 [.u8 (u8i (n / 256 / 256 / 256)), .u8 (u8i (n / 256 / 256)), .u8 (u8i (n / 256)), .u8 (u8i n)]) := hb
      refine ac_enter Try.func126 rfl _ Try.ntmps126 (by simp) fun C hn hm => ?_
      repeat' (first
 | refine op_callOR hb' rfl (tl hn rfl) ?_
 | refine Runs.toDrawT (id := 5) 30 [2, 3] [0, 1, 4, 5, 6, 7, 8, 9, 10, 11] 12 [] mixed hn rfl (by kernel_rfl) rfl (.cons rfl (.cons rfl .nil)) (by decide) (by decide) (by decide) ?_
 | refine RunsT.nil ?_
 | refine RunsT.step tabOk rfl rfl (fun _ => rfl) (by decide) ?_
 | refine RunsT.pur (fun _ => pu_len_own (n := 4) rfl rfl rfl) (by decide) rfl rfl ?_
 | refine RunsT.pur (fun _ => pu_indexAddr_own (sz := 1) (n := 4) rfl rfl rfl rfl rfl (by omega) (by omega)) (by decide) rfl rfl ?_
 | refine RunsT.pur (fun _ => pu_add rfl rfl (by omega)) (by decide) rfl rfl ?_
 | refine RunsL.step tabOk hn rfl ?_
 | refine RunsL.nil ?_
 | refine Runs.toRegion 30 rfl ?_
 | refine op_storeF rfl rfl rfl rfl (by exact Nat.le_of_ble_eq_true rfl) ?_
 | refine Runs.unroll 30 rfl ?_
 | refine Runs.reroll 30 rfl ?_
 | (refine RunsL.pe hn rfl rfl rfl ?_; first
 | refine ⟨_, pu_len_own (n := 4) rfl rfl rfl, ?_⟩
 | refine ⟨_, pu_indexAddr_own (sz := 1) (n := 4) rfl rfl rfl rfl rfl (by omega) (by omega), ?_⟩)
 | (refine Runs.ctls 30 rfl ?_; first | refine Runs.cond_t rfl ?_ | refine Runs.cond_f rfl ?_ | refine Runs.ret (ends_ro hm rfl rfl ?_) | exact Runs.ret (ends_cellR hm rfl rfl rfl (Nat.le_of_ble_eq_true rfl) rfl rfl))
 | refine op_storeF rfl rfl rfl rfl (Nat.le_of_ble_eq_true rfl) ?_
 | (refine RunsL.pe hn rfl rfl rfl ?_; first
 | refine ⟨_, pu_add rfl rfl (by omega), ?_⟩
 | refine ⟨_, pu_sub rfl rfl (by omega), ?_⟩))
      exact Runs.ctls 30 rfl (Runs.ret (ends_own (rs := (be n 4).reverse.map RV.u8) hm rfl rfl rfl rfl rfl))
  · rw [encBE_no h] at hb ⊢
    have hb' : AC Try.prog 127 [.int n, .int s] (fun rr => rr = .row 5 1 []) := hb
    refine ac_enter Try.func126 rfl _ Try.ntmps126 (by simp) fun C hn hm => ?_
    repeat' (first
 | refine op_callOR hb' rfl (tl hn rfl) ?_
 | refine RunsL.step tabOk hn rfl ?_
 | refine RunsL.nil ?_
 | refine Runs.toRegion 30 rfl ?_
 | refine op_storeF rfl rfl rfl rfl (by exact Nat.le_of_ble_eq_true rfl) ?_
 | refine Runs.unroll 30 rfl ?_
 | (refine RunsL.pe hn rfl rfl rfl ?_; first
 | refine ⟨_, pu_len_own (n := 0) rfl rfl rfl, ?_⟩)
 | (refine Runs.ctls 30 rfl ?_; first | refine Runs.cond_t rfl ?_ | refine Runs.cond_f rfl ?_ | refine Runs.ret (ends_ro hm rfl rfl ?_) | exact Runs.ret (ends_cellR hm rfl rfl rfl (Nat.le_of_ble_eq_true rfl) rfl rfl))
 | refine op_storeF rfl rfl rfl rfl (Nat.le_of_ble_eq_true rfl) ?_
 | (refine RunsL.pe hn rfl rfl rfl ?_; first
 | refine ⟨_, pu_add rfl rfl (by omega), ?_⟩
 | refine ⟨_, pu_sub rfl rfl (by omega), ?_⟩))
    exact Runs.ctls 30 rfl (Runs.ret (ends_own (rs := []) hm rfl rfl rfl rfl rfl))
set_option maxHeartbeats 8000000 in
theorem spec_LittleEndian (n s : Int) : AC Try.prog 129 [.int n, .int s] (fun rr => rr = .row 5 1 ((encBE n s).reverse.map RV.u8)) := by
  have hb := (spec_BigEndian n s).shut (r := bytesR (encBE n s)) (by rintro _ rfl; exact seals_bytes _ _)
  by_cases h : Fit n s
  · rw [encBE_yes h] at hb ⊢
    obtain ⟨h1, h2, h3, h4⟩ := h
    have hs : s = 1 ∨ s = 2 ∨ s = 3 ∨ s = 4 := by omega
    rcases hs with rfl | rfl | rfl | rfl
    · have hb' : ACv Try.prog 130 [.int n, .int 1] (.seq 1 [[.u8 (u8i n)]]) := hb
      refine ac_enter Try.func129 rfl _ Try.ntmps129 (by simp) fun C hn hm => ?_
      repeat' (first
 | refine op_build0 (tl hn rfl) ?_
 | (refine RunsL.pe hn rfl rfl rfl ?_; first
 | refine ⟨_, pu_len_seqN 1 rfl rfl, ?_⟩)
 | refine RunsL.step tabOk hn rfl ?_
 | refine RunsL.nil ?_
 | refine Runs.toRegion 30 rfl ?_
 | refine Runs.unroll 30 rfl ?_
 | refine Runs.reroll 30 rfl ?_
 | refine op_appendA rfl rfl rfl rfl rfl rfl ⟨by simp [AV.onlys, AV.only], trivial⟩ (by simp) rfl (tl hn rfl) ?_
 | (refine RunsL.pe hn rfl rfl rfl ?_; first
 | refine ⟨_, pu_callR hb' rfl, ?_⟩
 | refine ⟨_, pu_indexAddr_seq rfl rfl (by omega) rfl, ?_⟩)
 | (refine Runs.ctls 30 rfl ?_; first | refine Runs.cond_t rfl ?_ | refine Runs.cond_f rfl ?_ | refine Runs.ret (ends_ro hm rfl rfl ?_) | exact Runs.ret (ends_cellR hm rfl rfl rfl (Nat.le_of_ble_eq_true rfl) rfl rfl))
 | (refine RunsL.pe hn rfl rfl rfl ?_; first
 | refine ⟨_, pu_sub rfl rfl (by omega), ?_⟩
 | refine ⟨_, pu_build rfl rfl rfl rfl rfl rfl, ?_⟩))
      exact Runs.ctls 30 rfl (Runs.ret (ends_own (rs := (be n 1).reverse.map RV.u8) hm rfl rfl rfl rfl rfl))
    · have hb' : ACv Try.prog 130 [.int n, .int 2] (.seq 1 [[.u8 (u8i (n / 256))], [.u8 (u8i n)]]) := hb
      refine ac_enter Try.func129 rfl _ Try.ntmps129 (by simp) fun C hn hm => ?_
      repeat' (first
 | refine op_build0 (tl hn rfl) ?_
 | (refine RunsL.pe hn rfl rfl rfl ?_; first
 | refine ⟨_, pu_len_seqN 2 rfl rfl, ?_⟩)
 | refine RunsL.step tabOk hn rfl ?_
 | refine RunsL.nil ?_
 | refine Runs.toRegion 30 rfl ?_
 | refine Runs.unroll 30 rfl ?_
 | refine Runs.reroll 30 rfl ?_
 | refine op_appendA rfl rfl rfl rfl rfl rfl ⟨by simp [AV.onlys, AV.only], trivial⟩ (by simp) rfl (tl hn rfl) ?_
 | (refine RunsL.pe hn rfl rfl rfl ?_; first
 | refine ⟨_, pu_callR hb' rfl, ?_⟩
 | refine ⟨_, pu_indexAddr_seq rfl rfl (by omega) rfl, ?_⟩)
 | (refine Runs.ctls 30 rfl ?_; first | refine Runs.cond_t rfl ?_ | refine Runs.cond_f rfl ?_ | refine Runs.ret (ends_ro hm rfl rfl ?_) | exact Runs.ret (ends_cellR hm rfl rfl rfl (Nat.le_of_ble_eq_true rfl) rfl rfl))
 | (refine RunsL.pe hn rfl rfl rfl ?_; first
 | refine ⟨_, pu_sub rfl rfl (by omega), ?_⟩
 | refine ⟨_, pu_build rfl rfl rfl rfl rfl rfl, ?_⟩))
      exact Runs.ctls 30 rfl (Runs.ret (ends_own (rs := (be n 2).reverse.map RV.u8) hm rfl rfl rfl rfl rfl))
    · have hb' : ACv Try.prog 130 [.int n, .int 3] (.seq 1 [[.u8 (u8i (n / 256 / 256))], [.u8 (u8i (n / 256))], [.u8 (u8i n)]]) := hb
      refine ac_enter Try.func129 rfl _ Try.ntmps129 (by simp) fun C hn hm => ?_
      repeat' (first
 | refine op_build0 (tl hn rfl) ?_
 | (refine RunsL.pe hn rfl rfl rfl ?_; first
 | refine ⟨_, pu_len_seqN 3 rfl rfl, ?_⟩)
 | refine RunsL.step tabOk hn rfl ?_
 | refine RunsL.nil ?_
 | refine Runs.toRegion 30 rfl ?_
 | refine Runs.unroll 30 rfl ?_
 | refine Runs.reroll 30 rfl ?_
 | refine op_appendA rfl rfl rfl rfl rfl rfl ⟨by simp [AV.onlys, AV.only], trivial⟩ (by simp) rfl (tl hn rfl) ?_
 | (refine RunsL.pe hn rfl rfl rfl ?_; first
 | refine ⟨_, pu_callR hb' rfl, ?_⟩
 | refine ⟨_, pu_indexAddr_seq rfl rfl (by omega) rfl, ?_⟩)
 | (refine Runs.ctls 30 rfl ?_; first | refine Runs.cond_t rfl ?_ | refine Runs.cond_f rfl ?_ | refine Runs.ret (ends_ro hm rfl rfl ?_) | exact Runs.ret (ends_cellR hm rfl rfl rfl (Nat.le_of_ble_eq_true rfl) rfl rfl))
 | (refine RunsL.pe hn rfl rfl rfl ?_; first
 | refine ⟨_, pu_sub rfl rfl (by omega), ?_⟩
 | refine ⟨_, pu_build rfl rfl rfl rfl rfl rfl, ?_⟩))
      exact Runs.ctls 30 rfl (Runs.ret (ends_own (rs := (be n 3).reverse.map RV.u8) hm rfl rfl rfl rfl rfl))
    · have hb' : ACv Try.prog 130 [.int n, .int 4] (.seq 1 [[.u8 (u8i (n / 256 / 256 / 256))], [.u8 (u8i (n / 256 / 256))], [.u8 (u8i (n / 256))], [.u8 (u8i n)]]) := hb
      refine ac_enter Try.func129 rfl _ Try.ntmps129 (by simp) fun C hn hm => ?_
      repeat' (first
 | refine op_build0 (tl hn rfl) ?_
 | (refine RunsL.pe hn rfl rfl rfl ?_; first
 | refine ⟨_, pu_len_seqN 4 rfl rfl, ?_⟩)
 | refine RunsL.step tabOk hn rfl ?_
 | refine RunsL.nil ?_
 | refine Runs.toRegion 30 rfl ?_
 | refine Runs.unroll 30 rfl ?_
 | refine Runs.reroll 30 rfl ?_
 | refine op_appendA rfl rfl rfl rfl rfl rfl ⟨by simp [AV.onlys, AV.only], trivial⟩ (by simp) rfl (tl hn rfl) ?_
 | (refine RunsL.pe hn rfl rfl rfl ?_; first
 | refine ⟨_, pu_callR hb' rfl, ?_⟩
 | refine ⟨_, pu_indexAddr_seq rfl rfl (by omega) rfl, ?_⟩)
 | (refine Runs.ctls 30 rfl ?_; first | refine Runs.cond_t rfl ?_ | refine Runs.cond_f rfl ?_ | refine Runs.ret (ends_ro hm rfl rfl ?_) | exact Runs.ret (ends_cellR hm rfl rfl rfl (Nat.le_of_ble_eq_true rfl) rfl rfl))
 | (refine RunsL.pe hn rfl rfl rfl ?_; first
 | refine ⟨_, pu_sub rfl rfl (by omega), ?_⟩
 | refine ⟨_, pu_build rfl rfl rfl rfl rfl rfl, ?_⟩))
      exact Runs.ctls 30 rfl (Runs.ret (ends_own (rs := (be n 4).reverse.map RV.u8) hm rfl rfl rfl rfl rfl))
  · rw [encBE_no h] at hb ⊢
    have hb' : ACv Try.prog 130 [.int n, .int s] (.seq 1 []) := hb
    refine ac_enter Try.func129 rfl _ Try.ntmps129 (by simp) fun C hn hm => ?_
    repeat' (first
 | refine op_build0 (tl hn rfl) ?_
 | (refine RunsL.pe hn rfl rfl rfl ?_; first
 | refine ⟨_, pu_len_seqN 0 rfl rfl, ?_⟩
 | refine ⟨_, pu_len_seqN 4 rfl rfl, ?_⟩)
 | refine RunsL.step tabOk hn rfl ?_
 | refine RunsL.nil ?_
 | refine Runs.toRegion 30 rfl ?_
 | refine Runs.unroll 30 rfl ?_
 | (refine RunsL.pe hn rfl rfl rfl ?_; first
 | refine ⟨_, pu_callR hb' rfl, ?_⟩)
 | (refine Runs.ctls 30 rfl ?_; first | refine Runs.cond_t rfl ?_ | refine Runs.cond_f rfl ?_ | refine Runs.ret (ends_ro hm rfl rfl ?_) | exact Runs.ret (ends_cellR hm rfl rfl rfl (Nat.le_of_ble_eq_true rfl) rfl rfl))
 | (refine RunsL.pe hn rfl rfl rfl ?_; first
 | refine ⟨_, pu_sub rfl rfl (by omega), ?_⟩
 | refine ⟨_, pu_build rfl rfl rfl rfl rfl rfl, ?_⟩))
    exact Runs.ctls 30 rfl (Runs.ret (ends_own (rs := []) hm rfl rfl rfl rfl rfl))
noncomputable def encI (r : Rul) (n : Int) : List UInt8 := if r.little = true then (encBE n r.size).reverse else encBE n r.size
theorem impl_encodeInteger (r : Rul) (n : Int) : AC Try.prog 76 [.agg (rulR r), .int n] (fun rr => rr = .row 5 1 ((encI r n).map RV.u8)) := by
  have h1 := impl_BigEndian n r.size
  have h2 := impl_LittleEndian n r.size
  obtain ⟨nm, kd, sz, li, bs, ns, tg, ki⟩ := r
  cases li
  all_goals
    refine ac_enter Try.func76 rfl _ Try.ntmps76 (by simp) fun C hn hm => ?_
    repeat' (first
 | refine op_callOR h1 rfl (tl hn rfl) ?_
 | refine op_callOR h2 rfl (tl hn rfl) ?_
 | refine RunsL.step tabOk hn rfl ?_
 | refine RunsL.nil ?_
 | refine Runs.toRegion 30 rfl ?_
 | (refine Runs.ctls 30 rfl ?_; first | refine Runs.cond_t rfl ?_ | refine Runs.cond_f rfl ?_ | refine Runs.ret (ends_ro hm rfl rfl ?_) | exact Runs.ret (ends_cellR hm rfl rfl rfl (Nat.le_of_ble_eq_true rfl) rfl rfl))
 | refine op_box rfl (tl hn rfl) ?_
      )
    exact Runs.ctls 30 rfl (Runs.ret (ends_own (rs := (encI _ n).map RV.u8) hm rfl rfl rfl rfl rfl))
theorem spec_l8Integer (r : Rul) (n : Int) : AC Try.prog 79 [.agg (rulR r), .int n] (fun rr => rr = .row 5 1 ((encI r n).map RV.u8)) := by
  have h1 := spec_BigEndian n r.size
  have h2 := spec_LittleEndian n r.size
  obtain ⟨nm, kd, sz, li, bs, ns, tg, ki⟩ := r
  cases li
  all_goals
    refine ac_enter Try.func79 rfl _ Try.ntmps79 (by simp) fun C hn hm => ?_
    repeat' (first
 | refine op_callOR h1 rfl (tl hn rfl) ?_
 | refine op_callOR h2 rfl (tl hn rfl) ?_
 | refine RunsL.step tabOk hn rfl ?_
 | refine RunsL.nil ?_
 | refine Runs.toRegion 30 rfl ?_
 | (refine Runs.ctls 30 rfl ?_; first | refine Runs.cond_t rfl ?_ | refine Runs.cond_f rfl ?_ | refine Runs.ret (ends_ro hm rfl rfl ?_) | exact Runs.ret (ends_cellR hm rfl rfl rfl (Nat.le_of_ble_eq_true rfl) rfl rfl))
 | refine op_box rfl (tl hn rfl) ?_
      )
    exact Runs.ctls 30 rfl (Runs.ret (ends_own (rs := (encI _ n).map RV.u8) hm rfl rfl rfl rfl rfl))
end Go.Proofs.Ytnecoghfhcimeaa
/- What is written of a tag reads back as the tag. -/
namespace Go.Proofs.Ytnecoghfhcimeaa
set_option linter.unusedSimpArgs false
set_option linter.unusedVariables false
set_option linter.unusedSectionVars false
open Go.RowKit
open AV (Mem Keeps)
def rdT (little : Bool) (u : List UInt8) : Int := (if little then u.reverse else u).foldl (fun n c => n * 256 + (c.toNat : Int)) 0
theorem rdT_nonneg (b : Bool) (u : List UInt8) : 0 ≤ rdT b u := by
  have h : ∀ (u : List UInt8) (n : Int), 0 ≤ n → 0 ≤ u.foldl (fun n c => n * 256 + (c.toNat : Int)) n := fun u => by
    induction u with
    | nil => exact fun n h => h
    | cons c u ih => exact fun n h => ih (n * 256 + (c.toNat : Int)) (by omega)
  exact h _ 0 (Int.le_refl _)
theorem rdT_lt (b : Bool) (u : List UInt8) : rdT b u < 256 ^ u.length := by
  have h : ∀ (u : List UInt8) (n : Int) (k : Nat), n < 256 ^ k → u.foldl (fun n c => n * 256 + (c.toNat : Int)) n < 256 ^ (k + u.length) := fun u => by
    induction u with
    | nil => exact fun n k h => h
    | cons c u ih =>
      intro n k h
      have hc := c.toNat_lt
      have := ih (n * 256 + (c.toNat : Int)) (k + 1) (by rw [Int.pow_succ]; omega)
      rwa [show k + 1 + u.length = k + (c :: u).length by simp; omega] at this
  have := h (if b then u.reverse else u) 0 0 (by decide)
  rw [Nat.zero_add, show (if b = true then u.reverse else u).length = u.length by split <;> simp] at this
  exact this
set_option maxHeartbeats 4000000 in
theorem readIntegerT_ac (lt : Bool) (u : List UInt8) (hu : u.length ≤ 4) : ACv Try.prog 30 [bytesR u, .bool lt] (.int (rdT lt u)) := by
  obtain ⟨w, hw⟩ : ∃ w, w = (if lt then u.reverse else u) := ⟨_, rfl⟩
  have hwl : w.length = u.length := by rw [hw]; split <;> simp
  have hrd : rdT lt u = w.foldl (fun n c => n * 256 + (c.toNat : Int)) 0 := by rw [hw]; rfl
  let S : Nat → Int := fun j => (w.take j).foldl (fun n c => n * 256 + (c.toNat : Int)) 0
  have hS : ∀ j, j ≤ 4 → 0 ≤ S j ∧ S j < 4294967296 := fun j hj => by
    have h1 := rdT_nonneg false (w.take j)
    have h2 := rdT_lt false (w.take j)
    have h3 : (256 : Int) ^ (w.take j).length ≤ 4294967296 := by
      rcases (show (w.take j).length = 0 ∨ (w.take j).length = 1 ∨ (w.take j).length = 2 ∨ (w.take j).length = 3 ∨ (w.take j).length = 4 by rw [List.length_take]; omega) with e | e | e | e | e <;> rw [e] <;> decide
    exact ⟨h1, Int.lt_of_lt_of_le h2 h3⟩
  have hbl : (u.map fun z => [RV.u8 z]).length = u.length := List.length_map ..
  rw [hrd, show w.foldl (fun n c => n * 256 + (c.toNat : Int)) 0 = S u.length by show _ = (w.take u.length).foldl _ 0; rw [← hwl, List.take_length]]
  refine ac_enter Try.func30 rfl _ Try.ntmps30 (by simp) fun C hn hm => ?_
  repeat' (first
 | (refine RunsL.pe hn rfl rfl rfl ?_; first
 | refine ⟨_, pu_len_seqN u.length rfl hbl, ?_⟩)
 | refine RunsL.step tabOk hn rfl ?_
 | refine RunsL.nil ?_
 | refine Runs.toRegion 30 rfl ?_
 | (refine Runs.ctls 30 rfl ?_; first | refine Runs.cond_t rfl ?_ | refine Runs.cond_f rfl ?_ | (refine Runs.cond_yes rfl ?_ ?_; · first | omega | rfl | assumption | (simp only [List.length_map]; omega)) | (refine Runs.cond_no rfl ?_ ?_; · first | omega | rfl | assumption | (simp only [List.length_map]; omega)) | refine Runs.ret (ends_ro hm rfl rfl ?_) | exact Runs.ret (ends_cellR hm rfl rfl rfl (Nat.le_of_ble_eq_true rfl) rfl rfl))
 | (refine RunsL.pe hn rfl rfl rfl ?_; first
 | refine ⟨_, pu_add rfl rfl (by omega), ?_⟩
 | refine ⟨_, pu_indexAddr_map rfl rfl (by omega) (by assumption), ?_⟩
 | refine ⟨_, pu_sub rfl rfl (by omega), ?_⟩
 | refine ⟨_, pu_mul rfl rfl (by omega), ?_⟩
      ))
  refine Runs.loopN 30 rfl (fun j => [(0, .ro (bytesR u)), (1, .bool lt), (5, .int (S j)), (6, .int (j : Int))]) (fun _ => []) (fun _ => True) u.length 0 (Nat.zero_le _) trivial ⟨rfl, rfl, rfl, rfl, trivial⟩ rfl fun j hj _ next => ?_
  by_cases hlt : j < u.length
  · have hwj : w[j]? = some _ := List.getElem?_eq_getElem (by omega)
    generalize hc : w[j] = c at hwj
    have hSj := hS j (by omega)
    have hcl := c.toNat_lt
    have e : S (j + 1) = S j * 256 + (c.toNat : Int) := by
      show (w.take (j + 1)).foldl _ 0 = _
      rw [List.take_add_one, hwj]
      simp [S]
    cases lt with
    | false =>
      have hcu : u[(j : Int).toNat]? = some c := by rw [hw] at hwj; exact hwj
      repeat' (first
 | (refine RunsL.pe hn rfl rfl rfl ?_; first
 | refine ⟨_, pu_len_seqN u.length rfl hbl, ?_⟩)
 | refine RunsL.step tabOk hn rfl ?_
 | refine RunsL.nil ?_
 | refine Runs.toRegion 30 rfl ?_
 | (refine RunsL.pe hn rfl rfl rfl ?_; first
 | refine ⟨_, pu_ofU8 rfl, ?_⟩
 | refine ⟨_, pu_mul rfl rfl (by omega), ?_⟩
 | refine ⟨_, pu_add rfl rfl (by omega), ?_⟩)
 | (refine Runs.ctls 30 rfl ?_; first | refine Runs.cond_t rfl ?_ | refine Runs.cond_f rfl ?_ | (refine Runs.cond_yes rfl ?_ ?_; · first | omega | rfl | assumption | (simp only [List.length_map]; omega)) | (refine Runs.cond_no rfl ?_ ?_; · first | omega | rfl | assumption | (simp only [List.length_map]; omega)) | refine Runs.ret (ends_ro hm rfl rfl ?_) | exact Runs.ret (ends_cellR hm rfl rfl rfl (Nat.le_of_ble_eq_true rfl) rfl rfl))
 | (refine RunsL.pe hn rfl rfl rfl ?_; first
 | refine ⟨_, pu_add rfl rfl (by omega), ?_⟩
 | refine ⟨_, pu_indexAddr_map rfl rfl (by omega) (by assumption), ?_⟩
 | refine ⟨_, pu_sub rfl rfl (by omega), ?_⟩
 | refine ⟨_, pu_mul rfl rfl (by omega), ?_⟩
          ))
      exact next _ _ ⟨rfl, rfl, av_int e.symm, rfl, trivial⟩ hlt trivial rfl
    | true =>
      have hcu : u[((u.length : Int) - 1 - (j : Int)).toNat]? = some c := by
        rw [hw] at hwj
        simp only [if_pos] at hwj
        rw [List.getElem?_reverse (by omega)] at hwj
        rw [show ((u.length : Int) - 1 - (j : Int)).toNat = u.length - 1 - j by omega]
        exact hwj
      repeat' (first
 | (refine RunsL.pe hn rfl rfl rfl ?_; first
 | refine ⟨_, pu_len_seqN u.length rfl hbl, ?_⟩)
 | refine RunsL.step tabOk hn rfl ?_
 | refine RunsL.nil ?_
 | refine Runs.toRegion 30 rfl ?_
 | (refine RunsL.pe hn rfl rfl rfl ?_; first
 | refine ⟨_, pu_ofU8 rfl, ?_⟩
 | refine ⟨_, pu_mul rfl rfl (by omega), ?_⟩
 | refine ⟨_, pu_sub rfl rfl (by omega), ?_⟩
 | refine ⟨_, pu_add rfl rfl (by omega), ?_⟩)
 | (refine Runs.ctls 30 rfl ?_; first | refine Runs.cond_t rfl ?_ | refine Runs.cond_f rfl ?_ | (refine Runs.cond_yes rfl ?_ ?_; · first | omega | rfl | assumption | (simp only [List.length_map]; omega)) | (refine Runs.cond_no rfl ?_ ?_; · first | omega | rfl | assumption | (simp only [List.length_map]; omega)) | refine Runs.ret (ends_ro hm rfl rfl ?_) | exact Runs.ret (ends_cellR hm rfl rfl rfl (Nat.le_of_ble_eq_true rfl) rfl rfl))
 | (refine RunsL.pe hn rfl rfl rfl ?_; first
 | refine ⟨_, pu_add rfl rfl (by omega), ?_⟩
 | refine ⟨_, pu_indexAddr_map rfl rfl (by omega) (by assumption), ?_⟩
 | refine ⟨_, pu_sub rfl rfl (by omega), ?_⟩
 | refine ⟨_, pu_mul rfl rfl (by omega), ?_⟩
          ))
      exact next _ _ ⟨rfl, rfl, av_int e.symm, rfl, trivial⟩ hlt trivial rfl
  · obtain rfl : j = u.length := by omega
    repeat' (first
 | (refine RunsL.pe hn rfl rfl rfl ?_; first
 | refine ⟨_, pu_len_seqN u.length rfl hbl, ?_⟩)
 | refine RunsL.step tabOk hn rfl ?_
 | refine RunsL.nil ?_
 | refine Runs.toRegion 30 rfl ?_
 | (refine Runs.ctls 30 rfl ?_; first | refine Runs.cond_t rfl ?_ | refine Runs.cond_f rfl ?_ | (refine Runs.cond_yes rfl ?_ ?_; · first | omega | rfl | assumption | (simp only [List.length_map]; omega)) | (refine Runs.cond_no rfl ?_ ?_; · first | omega | rfl | assumption | (simp only [List.length_map]; omega)) | refine Runs.ret (ends_ro hm rfl rfl ?_) | exact Runs.ret (ends_cellR hm rfl rfl rfl (Nat.le_of_ble_eq_true rfl) rfl rfl))
 | (refine RunsL.pe hn rfl rfl rfl ?_; first
 | refine ⟨_, pu_add rfl rfl (by omega), ?_⟩
 | refine ⟨_, pu_indexAddr_map rfl rfl (by omega) (by assumption), ?_⟩
 | refine ⟨_, pu_sub rfl rfl (by omega), ?_⟩
 | refine ⟨_, pu_mul rfl rfl (by omega), ?_⟩
        ))
    exact rr_int rfl
theorem rdT_enc {y : Rul} {n : Int} (h : Fit n y.size) : rdT y.little (encI y n) = n := by
  have key : ∀ s : Int, Fit n s → (be n s).foldl (fun (n : Int) (c : UInt8) => n * 256 + (c.toNat : Int)) 0 = n := by
    intro s ⟨h1, h2, h3, h4⟩
    have hs : s = 1 ∨ s = 2 ∨ s = 3 ∨ s = 4 := by omega
    rcases hs with rfl | rfl | rfl | rfl
    all_goals
      simp only [be, pow8] at *
      simp only [List.foldl, u8i_val, if_true, Int.reduceEq, if_false] at *
      omega
  unfold rdT encI
  rw [encBE_yes h]
  cases hl : y.little
  · simp only [Bool.false_eq_true, if_false]
    exact key _ h
  · simp only [if_true, List.reverse_reverse]
    exact key _ h
theorem encI_inj {y : Rul} {n m : Int} (h : Fit n y.size) (h' : Fit m y.size) (e : encI y n = encI y m) : n = m := by
  rw [← rdT_enc h, ← rdT_enc h', e]
end Go.Proofs.Ytnecoghfhcimeaa
/- The rules that a rule uses: both sides. -/
namespace Go.Proofs.Ytnecoghfhcimeaa
set_option linter.unusedSimpArgs false
set_option linter.unusedVariables false
set_option linter.unusedSectionVars false
open Go.RowKit
def markB (ks : List Int) (u : Nat → Bool) : Nat → Bool := fun j => u j || ks.contains (j : Int)
def usedB (d : Des) : Nat → (Nat → Bool) → (Nat → Bool)
  | 0, u => u
  | i + 1, u => usedB d i (match d[i]? with
    | some r => if u i = true then markB r.kids u else u
    | none => u)
def usedF (d : Des) (rule : Nat) : Nat → Bool := usedB d (rule + 1) (put1 (fun _ => false) rule true)
def usedOf (d : Des) (rule : Int) : List Int := ((List.range d.length).filter (usedF d rule.toNat)).map fun j : Nat => (j : Int)
noncomputable def usedL (d : Des) (rule : Int) : List Int := open Classical in if Kn d rule then usedOf d rule else []
theorem good_kid {d : Des} (h : Good' d) {i : Nat} {r : Rul} (hr : d[i]? = some r) {j : Nat} {k : Int} (hk : r.kids[j]? = some k) : 0 ≤ k ∧ k < i := by
  have hi := (List.getElem?_eq_some_iff.1 hr).1
  obtain ⟨_, r', h1, h2⟩ := h.2.2 i hi
  rw [show ((i : Nat) : Int).toNat = i by rfl, hr] at h1; injection h1 with h1; subst h1
  exact h2.2.1 j k hk
end Go.Proofs.Ytnecoghfhcimeaa
/- The rules that a rule uses: the reference's side. -/
namespace Go.Proofs.Ytnecoghfhcimeaa
set_option linter.unusedSimpArgs false
set_option linter.unusedVariables false
set_option linter.unusedSectionVars false
open Go.RowKit
end Go.Proofs.Ytnecoghfhcimeaa
/- IsBinaryOnly, AllCanonical: both sides. -/
namespace Go.Proofs.Ytnecoghfhcimeaa
set_option linter.unusedSimpArgs false
set_option linter.unusedVariables false
set_option linter.unusedSectionVars false
open Go.RowKit
def BinOnly (d : Des) : Prop := Good' d ∧ ∀ (i : Nat) z r, (usedL d ((d.length : Int) - 1))[i]? = some z → d[z.toNat]? = some r → ¬ r.kind = 10
noncomputable instance (d : Des) : Decidable (BinOnly d) := Classical.propDecidable _
end Go.Proofs.Ytnecoghfhcimeaa
/- Values of the format, which are trees, over values: the laws' helpers on them, opened arguments, counting, comparing. -/
namespace Go.Proofs.Ytnecoghfhcimeaa
set_option linter.unusedSimpArgs false
set_option linter.unusedVariables false
set_option linter.unusedSectionVars false
open Go.RowKit
inductive Tre where
  | mk (number : Int) (bytes : List UInt8) (items : List Tre)
namespace Tre
def number : Tre → Int | .mk n _ _ => n
def bytes : Tre → List UInt8 | .mk _ b _ => b
def items : Tre → List Tre | .mk _ _ l => l
mutual
def cells : Tre → List RV
  | .mk n b l => [.int n, bytesR b, .seq 3 (cellsL l)]
def cellsL : List Tre → List (List RV)
  | [] => []
  | v :: vs => cells v :: cellsL vs
def total : Tre → Nat
  | .mk _ b l => b.length + l.length + totalL l
def totalL : List Tre → Nat
  | [] => 0
  | v :: vs => total v + totalL vs
def count : Tre → Nat
  | .mk _ _ l => 1 + countL l
def countL : List Tre → Nat
  | [] => 0
  | v :: vs => count v + countL vs
def weight : Tre → Nat
  | .mk _ b l => b.length + weightL l
def weightL : List Tre → Nat
  | [] => 0
  | v :: vs => weight v + weightL vs
def Ok : Tre → Prop
  | .mk n b l => I64 n ∧ b.length ≤ maxLen ∧ l.length ≤ maxLen ∧ OkL l
def OkL : List Tre → Prop
  | [] => True
  | v :: vs => Ok v ∧ OkL vs
end
theorem OkL_iff : ∀ {l}, OkL l ↔ ∀ x ∈ l, Ok x
  | [] => by simp [OkL]
  | v :: vs => by simp [OkL, OkL_iff (l := vs)]
theorem Ok.out {v : Tre} (h : v.Ok) : I64 v.number ∧ v.bytes.length ≤ maxLen ∧ v.items.length ≤ maxLen ∧ ∀ x ∈ v.items, x.Ok := by
  cases v; rw [Ok, OkL_iff] at h; exact h
mutual
theorem ind {P : Tre → Prop} (h : ∀ v, (∀ x ∈ v.items, P x) → P v) : ∀ v, P v
  | .mk n b l => h _ (indL h l)
theorem indL {P : Tre → Prop} (h : ∀ v, (∀ x ∈ v.items, P x) → P v) : ∀ l : List Tre, ∀ x ∈ l, P x
  | [], x, hx => by cases hx
  | v :: vs, x, hx => by
    rcases List.mem_cons.1 hx with e | e
    · rw [e]; exact ind h v
    · exact indL h vs x e
end
mutual
theorem count_le : ∀ v : Tre, v.count ≤ 1 + v.total
  | .mk n b l => by have := countL_le l; simp only [count, total]; omega
theorem countL_le : ∀ l : List Tre, countL l ≤ l.length + totalL l
  | [] => by simp [countL]
  | v :: vs => by have := count_le v; have := countL_le vs; simp only [countL, totalL, List.length_cons]; omega
end
mutual
theorem weight_le : ∀ v : Tre, v.weight ≤ v.total
  | .mk n b l => by have := weightL_le l; simp only [weight, total]; omega
theorem weightL_le : ∀ l : List Tre, weightL l ≤ totalL l
  | [] => by simp [weightL]
  | v :: vs => by have := weight_le v; have := weightL_le vs; simp only [weightL, totalL]; omega
end
end Tre
noncomputable instance : DecidableEq Tre := fun a b => Classical.propDecidable _
end Go.Proofs.Ytnecoghfhcimeaa
/- The rule of an item of a value: both sides. -/
namespace Go.Proofs.Ytnecoghfhcimeaa
set_option linter.unusedSimpArgs false
set_option linter.unusedVariables false
set_option linter.unusedSectionVars false
open Go.RowKit
theorem item_fields {d : Des} {x : Rul} (hk : KindOk d x) : (x.kind = 5 → x.kids.length = 2) ∧ (x.kind = 7 → TagsOk d x) ∧ (x.kind = 8 ∨ x.kind = 9 → x.kids.length = 1) ∧ (x.kind = 4 → x.kids.length = 1) := by
  unfold KindOk at hk
  refine ⟨fun e => ?_, fun e => ?_, fun e => ?_, fun e => ?_⟩
  · rcases hk with hk | hk | hk | hk | hk | hk | hk | hk | hk
    all_goals first | omega | (have := hk.2.1.kids (by omega); omega)
  · rcases hk with hk | hk | hk | hk | hk | hk | hk | hk | hk
    all_goals first | omega | exact hk.2.2
  · rcases hk with hk | hk | hk | hk | hk | hk | hk | hk | hk
    all_goals first | omega | (have := hk.2.kids (by omega); omega)
  · rcases hk with hk | hk | hk | hk | hk | hk | hk | hk | hk
    all_goals first | omega | (have := hk.2.1.kids (by omega); omega)
theorem kind_at {d : Des} (hG : Good' d) {r : Nat} {x : Rul} (h : d[r]? = some x) : KindOk d x := by
  have hi := (List.getElem?_eq_some_iff.1 h).1
  obtain ⟨_, x', h1, h2⟩ := hG.2.2 r hi
  rw [show ((r : Nat) : Int).toNat = r by rfl, h] at h1; injection h1 with h1; subst h1
  exact h2.2.2.2
theorem kids_at {d : Des} (hG : Good' d) {r : Nat} {x : Rul} (h : d[r]? = some x) {k : Nat} {z : Int} (hz : x.kids[k]? = some z) : 0 ≤ z ∧ z < r := by
  have hi := (List.getElem?_eq_some_iff.1 h).1
  obtain ⟨_, x', h1, h2⟩ := hG.2.2 r hi
  rw [show ((r : Nat) : Int).toNat = r by rfl, h] at h1; injection h1 with h1; subst h1
  simpa using h2.2.1 k z hz
theorem getD_some {l : List Int} {k : Nat} {c : Int} (h : l[k]? = some c) : (l[k]?).getD (-1) = c := by rw [h]; rfl
section
variable {P : Program} {C : Ctx} {env : Env} {σ : List Ob} {t : Nat} {ty : TypeId} {pos : String} {after : Array Edge} {gd : Option (Nat × Bool)}
end
theorem kn_nat {d : Des} {r : Int} (h : Kn d r) : ∃ (n : Nat) (x : Rul), r = n ∧ n < d.length ∧ d[n]? = some x := by
  obtain ⟨_, h2⟩ := h
  unfold HasR at h2
  exact ⟨r.toNat, _, by omega, by omega, List.getElem?_eq_getElem (by omega)⟩
end Go.Proofs.Ytnecoghfhcimeaa
/- TagBytes, PrintInteger: both sides. -/
namespace Go.Proofs.Ytnecoghfhcimeaa
set_option linter.unusedSimpArgs false
set_option linter.unusedVariables false
set_option linter.unusedSectionVars false
open Go.RowKit
theorem encI_len (r : Rul) (n : Int) : (encI r n).length ≤ 4 := by
  have h : (encBE n r.size).length ≤ 4 := by
    by_cases hf : Fit n r.size
    · rw [encBE_yes hf]
      unfold be
      repeat' split
      all_goals simp
    · rw [encBE_no hf]; simp
  unfold encI
  split
  · rw [List.length_reverse]; exact h
  · exact h
def HasTag (d : Des) (r a : Int) : Prop := Kn d r ∧ ∃ x, d[r.toNat]? = some x ∧ x.kind = 7 ∧ 0 ≤ a ∧ a < x.tags.length
open Classical in
noncomputable def tagB (d : Des) (r a : Int) : List UInt8 := if HasTag d r a then (match d[r.toNat]? with
  | some x => (match d[(x.kids.headD 0).toNat]?, x.tags[a.toNat]? with
    | some y, some n => encI y n
    | _, _ => [])
  | none => []) else []
theorem tagB_yes {d : Des} {r a : Int} {x y : Rul} {n : Int} (h : HasTag d r a) (hx : d[r.toNat]? = some x) (hy : d[(x.kids.headD 0).toNat]? = some y) (hn : x.tags[a.toNat]? = some n) : tagB d r a = encI y n := by
  unfold tagB
  rw [if_pos h]
  simp only [hx, hy, hn]
theorem tagB_no {d : Des} {r a : Int} (h : ¬ HasTag d r a) : tagB d r a = [] := if_neg h
theorem tagB_len (d : Des) (r a : Int) : (tagB d r a).length ≤ 4 := by
  unfold tagB
  split
  · split
    · split
      · exact encI_len _ _
      · simp
    · simp
  · simp
theorem head_get {l : List Int} (h : 0 < l.length) : l[(0 : Int).toNat]? = some (l.headD 0) := by
  cases l with
  | nil => simp at h
  | cons a l => rfl
set_option maxHeartbeats 4000000 in
theorem impl_TagBytes (d : Des) (ho : DesOk d) (hd : dtotal d ≤ 1048576) (r a : Int) : AC Try.prog 26 [desR d, .int r, .int a] (fun rr => rr = .row 5 1 ((tagB d r a).map RV.u8)) := by
  have hkn := known_ac d ho hd r
  have hlm : (d.map rulR).length = d.length := List.length_map ..
  have et : dtotal d = d.length + (d.map Rul.total).sum := rfl
  by_cases hK : Kn d r
  · rw [decide_eq_true hK] at hkn
    obtain ⟨n, x, rfl, hn', hx⟩ := kn_nat hK
    have hx' : d[(n : Int).toNat]? = some x := hx
    have hk := kind_at hK.1 hx
    obtain ⟨f5, f7, f8, _⟩ := item_fields hk
    have hlt' : (x.tags.map fun z => [RV.int z]).length = x.tags.length := List.length_map ..
    have hlk : (x.kids.map fun z => [RV.int z]).length = x.kids.length := List.length_map ..
    by_cases hT : HasTag d n a
    · have ht := hT
      obtain ⟨_, x', h1, k7, a0, a1⟩ := ht
      rw [hx'] at h1; injection h1 with h1; subst h1
      obtain ⟨hkl, _, _, _⟩ := f7 k7
      have hc := head_get (l := x.kids) (by omega)
      have hkk := kids_at hK.1 hx (k := 0) hc
      obtain ⟨y, hy⟩ : ∃ y, d[(x.kids.headD 0).toNat]? = some y := ⟨_, List.getElem?_eq_getElem (by omega)⟩
      obtain ⟨z, hz⟩ : ∃ z, x.tags[a.toNat]? = some z := ⟨_, List.getElem?_eq_getElem (by omega)⟩
      rw [tagB_yes hT hx' hy hz]
      have hE := impl_encodeInteger y z
      refine ac_enter Try.func26 rfl _ Try.ntmps26 (by simp) fun C hn hm => ?_
      repeat' (first
 | refine Runs.toDrawT (id := 4) 30 [] [0, 1, 2, 3, 4, 5, 6, 7, 8, 9, 10, 11, 12] 13 [] mixed hn rfl (by kernel_rfl) rfl .nil (by decide) (by decide) (by decide) ?_
 | refine op_callOR hE rfl (tl hn rfl) ?_
 | refine RunsT.nil ?_
 | refine RunsT.step tabOk rfl rfl (fun _ => rfl) (by decide) ?_
 | refine RunsT.pur (fun _ => pu_callR hkn rfl) (by decide) rfl rfl ?_
 | refine RunsT.pur (fun _ => pu_indexAddr_map rfl rfl (by omega) (by assumption)) (by decide) rfl rfl ?_
 | refine RunsL.step tabOk hn rfl ?_
 | refine RunsL.nil ?_
 | refine Runs.toRegion 30 rfl ?_
 | (refine RunsL.pe hn rfl rfl rfl ?_; first
 | refine ⟨_, pu_callR hkn rfl, ?_⟩)
 | (refine Runs.ctls 30 rfl ?_; first | refine Runs.cond_t rfl ?_ | (refine Runs.cond_yes rfl ?_ ?_; · first | omega | rfl | assumption | (simp only [List.length_map]; omega)) | (refine Runs.cond_no rfl ?_ ?_; · first | omega | rfl | assumption | (simp only [List.length_map]; omega)) | refine Runs.ret (ends_ro hm rfl rfl ?_) | exact Runs.ret (ends_cellR hm rfl rfl rfl (Nat.le_of_ble_eq_true rfl) rfl rfl))
 | refine op_box rfl (tl hn rfl) ?_
 | refine op_alloc (tl hn rfl) ?_
 | refine op_storeN rfl rfl rfl rfl (Nat.le_of_ble_eq_true rfl) ?_
 | (refine RunsL.pe hn rfl rfl rfl ?_; first
 | refine ⟨_, pu_indexAddr_map rfl rfl (by omega) (by assumption), ?_⟩)
 | ((first | refine RunsL.guard_dec rfl rfl rfl ?_ ?_ | refine RunsL.guard_ndec rfl rfl rfl ?_ ?_) <;> intro h <;> try (exfalso; first | omega | contradiction | (simp only [List.length_map] at h; omega))))
      all_goals first
        | exact Runs.ctls 30 rfl (Runs.ret (ends_own (rs := (encI y z).map RV.u8) hm rfl rfl rfl rfl rfl))
        | (exfalso; omega)
    · rw [tagB_no hT]
      have hT' : ¬ (x.kind = 7 ∧ 0 ≤ a ∧ a < x.tags.length) := fun h => hT ⟨hK, x, hx', h⟩
      refine ac_enter Try.func26 rfl _ Try.ntmps26 (by simp) fun C hn hm => ?_
      repeat' (first
 | refine op_build0 (tl hn rfl) ?_
 | refine RunsL.step tabOk hn rfl ?_
 | refine RunsL.nil ?_
 | refine Runs.toRegion 30 rfl ?_
 | (refine RunsL.pe hn rfl rfl rfl ?_; first
 | refine ⟨_, pu_callR hkn rfl, ?_⟩)
 | (refine Runs.ctls 30 rfl ?_; first | refine Runs.cond_t rfl ?_ | (refine Runs.cond_yes rfl ?_ ?_; · first | omega | rfl | assumption | (simp only [List.length_map]; omega)) | (refine Runs.cond_no rfl ?_ ?_; · first | omega | rfl | assumption | (simp only [List.length_map]; omega)) | refine Runs.ret (ends_ro hm rfl rfl ?_) | exact Runs.ret (ends_cellR hm rfl rfl rfl (Nat.le_of_ble_eq_true rfl) rfl rfl))
 | refine op_box rfl (tl hn rfl) ?_
 | refine op_alloc (tl hn rfl) ?_
 | refine op_storeN rfl rfl rfl rfl (Nat.le_of_ble_eq_true rfl) ?_
 | (refine RunsL.pe hn rfl rfl rfl ?_; first
 | refine ⟨_, pu_indexAddr_map rfl rfl (by omega) (by assumption), ?_⟩)
 | ((first | refine RunsL.guard_dec rfl rfl rfl ?_ ?_ | refine RunsL.guard_ndec rfl rfl rfl ?_ ?_) <;> intro h <;> try (exfalso; first | omega | contradiction | (simp only [List.length_map] at h; omega))))
      all_goals first
        | exact Runs.ctls 30 rfl (Runs.ret (ends_own (rs := []) hm rfl rfl rfl rfl rfl))
        | (exfalso; omega)
  · rw [decide_eq_false hK] at hkn
    rw [tagB_no fun h => hK h.1]
    refine ac_enter Try.func26 rfl _ Try.ntmps26 (by simp) fun C hn hm => ?_
    repeat' (first
 | refine op_build0 (tl hn rfl) ?_
 | refine RunsL.step tabOk hn rfl ?_
 | refine RunsL.nil ?_
 | refine Runs.toRegion 30 rfl ?_
 | (refine RunsL.pe hn rfl rfl rfl ?_; first
 | refine ⟨_, pu_callR hkn rfl, ?_⟩)
 | (refine Runs.ctls 30 rfl ?_; first | refine Runs.cond_t rfl ?_ | (refine Runs.cond_yes rfl ?_ ?_; · first | omega | rfl | assumption | (simp only [List.length_map]; omega)) | (refine Runs.cond_no rfl ?_ ?_; · first | omega | rfl | assumption | (simp only [List.length_map]; omega)) | refine Runs.ret (ends_ro hm rfl rfl ?_) | exact Runs.ret (ends_cellR hm rfl rfl rfl (Nat.le_of_ble_eq_true rfl) rfl rfl))
 | refine op_box rfl (tl hn rfl) ?_
 | refine op_alloc (tl hn rfl) ?_
 | refine op_storeN rfl rfl rfl rfl (Nat.le_of_ble_eq_true rfl) ?_
 | (refine RunsL.pe hn rfl rfl rfl ?_; first
 | refine ⟨_, pu_indexAddr_map rfl rfl (by omega) (by assumption), ?_⟩)
 | ((first | refine RunsL.guard_dec rfl rfl rfl ?_ ?_ | refine RunsL.guard_ndec rfl rfl rfl ?_ ?_) <;> intro h <;> try (exfalso; first | omega | contradiction | (simp only [List.length_map] at h; omega))))
    exact Runs.ctls 30 rfl (Runs.ret (ends_own (rs := []) hm rfl rfl rfl rfl rfl))
set_option maxHeartbeats 4000000 in
theorem spec_TagBytes (d : Des) (ho : DesOk d) (hd : dtotal d ≤ 1048576) (r a : Int) : AC Try.prog 28 [desR d, .int r, .int a] (fun rr => rr = .row 5 1 ((tagB d r a).map RV.u8)) := by
  have hkn := l7Rule_ac d ho hd r
  have hlm : (d.map rulR).length = d.length := List.length_map ..
  have et : dtotal d = d.length + (d.map Rul.total).sum := rfl
  by_cases hK : Kn d r
  · rw [decide_eq_true hK] at hkn
    obtain ⟨n, x, rfl, hn', hx⟩ := kn_nat hK
    have hx' : d[(n : Int).toNat]? = some x := hx
    have hk := kind_at hK.1 hx
    obtain ⟨f5, f7, f8, _⟩ := item_fields hk
    have hlt' : (x.tags.map fun z => [RV.int z]).length = x.tags.length := List.length_map ..
    have hlk : (x.kids.map fun z => [RV.int z]).length = x.kids.length := List.length_map ..
    have hxm := sum_mem_le Rul.total (List.mem_of_getElem? hx)
    have etx : x.total = x.name.size + x.bytes.length + (x.names.length + (x.names.map ByteArray.size).sum) + x.tags.length + x.kids.length := rfl
    by_cases hT : HasTag d n a
    · have ht := hT
      obtain ⟨_, x', h1, k7, a0, a1⟩ := ht
      rw [hx'] at h1; injection h1 with h1; subst h1
      obtain ⟨hkl, _, _, _⟩ := f7 k7
      have hc := head_get (l := x.kids) (by omega)
      have hkk := kids_at hK.1 hx (k := 0) hc
      obtain ⟨y, hy⟩ : ∃ y, d[(x.kids.headD 0).toNat]? = some y := ⟨_, List.getElem?_eq_getElem (by omega)⟩
      obtain ⟨z, hz⟩ : ∃ z, x.tags[a.toNat]? = some z := ⟨_, List.getElem?_eq_getElem (by omega)⟩
      rw [tagB_yes hT hx' hy hz]
      have hE := spec_l8Integer y z
      refine ac_enter Try.func28 rfl _ Try.ntmps28 (by simp) fun C hn hm => ?_
      repeat' (first
 | refine Runs.toDrawT (id := 4) 30 [] [0, 1, 2, 3, 4, 5, 6, 7, 8, 9, 10, 11, 12] 13 [] mixed hn rfl (by kernel_rfl) rfl .nil (by decide) (by decide) (by decide) ?_
 | refine op_callOR hE rfl (tl hn rfl) ?_
 | refine RunsT.nil ?_
 | refine RunsT.step tabOk rfl rfl (fun _ => rfl) (by decide) ?_
 | refine RunsT.pur (fun _ => pu_callR hkn rfl) (by decide) rfl rfl ?_
 | refine RunsT.pur (fun _ => pu_callR (l1In_ac _ _ _) rfl) (by decide) rfl rfl ?_
 | refine RunsT.pur (fun _ => pu_indexAddr_map rfl rfl (by omega) (by assumption)) (by decide) rfl rfl ?_
 | refine RunsL.step tabOk hn rfl ?_
 | refine RunsL.nil ?_
 | refine Runs.toRegion 30 rfl ?_
 | (refine RunsL.pe hn rfl rfl rfl ?_; first
 | refine ⟨_, pu_callR hkn rfl, ?_⟩
 | refine ⟨_, pu_callR (l1In_ac _ _ _) rfl, ?_⟩)
 | (refine Runs.ctls 30 rfl ?_; first | refine Runs.cond_t rfl ?_ | (refine Runs.cond_nno rfl ?_ ?_; · first | omega | rfl | assumption | (simp only [List.length_map]; omega)) | (refine Runs.cond_nyes rfl ?_ ?_; · first | omega | rfl | assumption | (simp only [List.length_map]; omega)) | refine Runs.ret (ends_ro hm rfl rfl ?_) | exact Runs.ret (ends_cellR hm rfl rfl rfl (Nat.le_of_ble_eq_true rfl) rfl rfl))
 | refine op_box rfl (tl hn rfl) ?_
 | refine op_alloc (tl hn rfl) ?_
 | refine op_storeN rfl rfl rfl rfl (Nat.le_of_ble_eq_true rfl) ?_
 | (refine RunsL.pe hn rfl rfl rfl ?_; first
 | refine ⟨_, pu_indexAddr_map rfl rfl (by omega) (by assumption), ?_⟩
 | refine ⟨_, pu_sub rfl rfl (by omega), ?_⟩)
 | (refine RunsL.guard_ndec rfl rfl rfl ?_ ?_ <;> intro h <;> try (exfalso; first | omega | contradiction | (simp only [List.length_map] at h; omega))))
      all_goals first
        | exact Runs.ctls 30 rfl (Runs.ret (ends_own (rs := (encI y z).map RV.u8) hm rfl rfl rfl rfl rfl))
        | (exfalso; unfold InR at *; omega)
        | (exfalso; omega)
    · rw [tagB_no hT]
      have hT' : ¬ (x.kind = 7 ∧ 0 ≤ a ∧ a < x.tags.length) := fun h => hT ⟨hK, x, hx', h⟩
      refine ac_enter Try.func28 rfl _ Try.ntmps28 (by simp) fun C hn hm => ?_
      repeat' (first
 | refine op_build0 (tl hn rfl) ?_
 | refine RunsL.step tabOk hn rfl ?_
 | refine RunsL.nil ?_
 | refine Runs.toRegion 30 rfl ?_
 | (refine RunsL.pe hn rfl rfl rfl ?_; first
 | refine ⟨_, pu_callR hkn rfl, ?_⟩
 | refine ⟨_, pu_callR (l1In_ac _ _ _) rfl, ?_⟩)
 | (refine Runs.ctls 30 rfl ?_; first | refine Runs.cond_t rfl ?_ | (refine Runs.cond_nno rfl ?_ ?_; · first | omega | rfl | assumption | (simp only [List.length_map]; omega)) | (refine Runs.cond_nyes rfl ?_ ?_; · first | omega | rfl | assumption | (simp only [List.length_map]; omega)) | refine Runs.ret (ends_ro hm rfl rfl ?_) | exact Runs.ret (ends_cellR hm rfl rfl rfl (Nat.le_of_ble_eq_true rfl) rfl rfl))
 | refine op_box rfl (tl hn rfl) ?_
 | refine op_alloc (tl hn rfl) ?_
 | refine op_storeN rfl rfl rfl rfl (Nat.le_of_ble_eq_true rfl) ?_
 | (refine RunsL.pe hn rfl rfl rfl ?_; first
 | refine ⟨_, pu_indexAddr_map rfl rfl (by omega) (by assumption), ?_⟩
 | refine ⟨_, pu_sub rfl rfl (by omega), ?_⟩)
 | (refine RunsL.guard_ndec rfl rfl rfl ?_ ?_ <;> intro h <;> try (exfalso; first | omega | contradiction | (simp only [List.length_map] at h; omega))))
      all_goals first
        | exact Runs.ctls 30 rfl (Runs.ret (ends_own (rs := []) hm rfl rfl rfl rfl rfl))
        | (exfalso; unfold InR at *; omega)
        | (exfalso; omega)
  · rw [decide_eq_false hK] at hkn
    rw [tagB_no fun h => hK h.1]
    refine ac_enter Try.func28 rfl _ Try.ntmps28 (by simp) fun C hn hm => ?_
    repeat' (first
 | refine op_build0 (tl hn rfl) ?_
 | refine RunsL.step tabOk hn rfl ?_
 | refine RunsL.nil ?_
 | refine Runs.toRegion 30 rfl ?_
 | (refine RunsL.pe hn rfl rfl rfl ?_; first
 | refine ⟨_, pu_callR hkn rfl, ?_⟩)
 | (refine Runs.ctls 30 rfl ?_; first | refine Runs.cond_t rfl ?_ | (refine Runs.cond_nno rfl ?_ ?_; · first | omega | rfl | assumption | (simp only [List.length_map]; omega)) | (refine Runs.cond_nyes rfl ?_ ?_; · first | omega | rfl | assumption | (simp only [List.length_map]; omega)) | refine Runs.ret (ends_ro hm rfl rfl ?_) | exact Runs.ret (ends_cellR hm rfl rfl rfl (Nat.le_of_ble_eq_true rfl) rfl rfl))
 | refine op_box rfl (tl hn rfl) ?_
 | refine op_alloc (tl hn rfl) ?_
 | refine op_storeN rfl rfl rfl rfl (Nat.le_of_ble_eq_true rfl) ?_
 | (refine RunsL.pe hn rfl rfl rfl ?_; first
 | refine ⟨_, pu_indexAddr_map rfl rfl (by omega) (by assumption), ?_⟩
 | refine ⟨_, pu_sub rfl rfl (by omega), ?_⟩)
 | (refine RunsL.guard_ndec rfl rfl rfl ?_ ?_ <;> intro h <;> try (exfalso; first | omega | contradiction | (simp only [List.length_map] at h; omega))))
    exact Runs.ctls 30 rfl (Runs.ret (ends_own (rs := []) hm rfl rfl rfl rfl rfl))
def HasInt (d : Des) (r n : Int) : Prop := Kn d r ∧ 0 ≤ n ∧ n ≤ lim d r
noncomputable instance (d : Des) (r n : Int) : Decidable (HasInt d r n) := Classical.propDecidable _
end Go.Proofs.Ytnecoghfhcimeaa
/- With which bytes an encoding can begin: both sides. -/
namespace Go.Proofs.Ytnecoghfhcimeaa
set_option linter.unusedSimpArgs false
set_option linter.unusedVariables false
set_option linter.unusedSectionVars false
open Go.RowKit
noncomputable def stB (d : Des) : Nat → Nat → Nat → Bool
  | 0, _, _ => true
  | f + 1, r, b => match d[r]? with
    | none => true
    | some x => if x.kind = 2 then decide (b = (x.bytes.headD 0).toNat)
      else if x.kind = 6 ∨ x.kind = 9 then stB d f (x.kids.headD 0).toNat b
      else if x.kind = 7 then (match d[(x.kids.headD 0).toNat]? with
        | some y => x.tags.any fun t => decide (b = ((encI y t).headD 0).toNat)
        | none => true)
      else if x.kind = 8 then decide (b < 2)
      else true
theorem stB_at {d : Des} {f r b : Nat} {x : Rul} (h : d[r]? = some x) : stB d (f + 1) r b = (if x.kind = 2 then decide (b = (x.bytes.headD 0).toNat)
      else if x.kind = 6 ∨ x.kind = 9 then stB d f (x.kids.headD 0).toNat b
      else if x.kind = 7 then (match d[(x.kids.headD 0).toNat]? with
        | some y => x.tags.any fun t => decide (b = ((encI y t).headD 0).toNat)
        | none => true)
      else if x.kind = 8 then decide (b < 2)
      else true) := by rw [stB, h]
theorem good_at {d : Des} (hG : Good' d) {r : Nat} {x : Rul} (h : d[r]? = some x) : KindOk d x := by
  have hi := (List.getElem?_eq_some_iff.1 h).1
  obtain ⟨_, x', h1, h2⟩ := hG.2.2 r hi
  rw [show ((r : Nat) : Int).toNat = r by rfl, h] at h1; injection h1 with h1; subst h1
  exact h2.2.2.2
theorem head_kid {d : Des} (hG : Good' d) {r : Nat} {x : Rul} (h : d[r]? = some x) (hl : 0 < x.kids.length) : 0 ≤ x.kids.headD 0 ∧ x.kids.headD 0 < r :=
  good_kid hG h (j := 0) (head_at hl)
theorem stB_deep {d : Des} (hG : Good' d) {b : Nat} : ∀ (r : Nat), r < d.length → ∀ f, r < f → stB d f r b = stB d (r + 1) r b := by
  intro r
  induction r using Nat.strongRecOn with
  | _ r ih =>
    intro hr f hf
    obtain ⟨g, rfl⟩ : ∃ g, f = g + 1 := ⟨f - 1, by omega⟩
    obtain ⟨x, hx⟩ : ∃ x, d[r]? = some x := ⟨_, List.getElem?_eq_getElem hr⟩
    rw [stB_at hx, stB_at hx]
    by_cases h69 : x.kind = 6 ∨ x.kind = 9
    · have hkl : 0 < x.kids.length := by
        have hk := good_at hG hx
        unfold KindOk at hk
        rcases h69 with h | h
        · simp only [h] at hk
          simp only [show ¬ (6 : Int) = 1 by decide, show ¬ (6 : Int) = 2 by decide, show ¬ (6 : Int) = 3 by decide, show ¬ (6 : Int) = 4 by decide, show ¬ (6 : Int) = 5 by decide, show ¬ (6 : Int) = 7 by decide, show ¬ (6 : Int) = 8 by decide, show ¬ (6 : Int) = 9 by decide, show ¬ (6 : Int) = 10 by decide, false_and, false_or, or_false, true_and] at hk
          have := hk.1.kids (by omega); have := hk.2.1; omega
        · simp only [h] at hk
          simp only [show ¬ (9 : Int) = 1 by decide, show ¬ (9 : Int) = 2 by decide, show ¬ (9 : Int) = 3 by decide, show ¬ (9 : Int) = 4 by decide, show ¬ (9 : Int) = 5 by decide, show ¬ (9 : Int) = 7 by decide, show ¬ (9 : Int) = 8 by decide, show ¬ (9 : Int) = 6 by decide, show ¬ (9 : Int) = 10 by decide, false_and, false_or, or_false, true_and, or_true] at hk
          have := hk.kids (by omega); omega
      have hk := head_kid hG hx hkl
      have e1 := ih (x.kids.headD 0).toNat (by omega) (by omega) g (by omega)
      have e2 := ih (x.kids.headD 0).toNat (by omega) (by omega) r (by omega)
      rw [e1, e2]
    · rw [if_neg h69, if_neg h69]
theorem good_fields {d : Des} (hG : Good' d) {r : Nat} {x : Rul} (h : d[r]? = some x) :
    (x.kind = 2 → 0 < x.bytes.length) ∧ (x.kind = 6 ∨ x.kind = 9 ∨ x.kind = 8 ∨ x.kind = 4 ∨ x.kind = 5 ∨ x.kind = 7 → 0 < x.kids.length) ∧ (x.kind = 7 → TagsOk d x) := by
  have hk := good_at hG h
  unfold KindOk at hk
  refine ⟨fun e => ?_, fun e => ?_, fun e => ?_⟩
  · rcases hk with hk | hk | hk | hk | hk | hk | hk | hk | hk
    all_goals first | omega | (have := hk.2.2.1; omega)
  · rcases hk with hk | hk | hk | hk | hk | hk | hk | hk | hk
    all_goals first
      | omega
      | (have := hk.2.1.kids (by omega); have := hk.2.2.1; omega)
      | (have := hk.2.2.1; omega)
      | (have := hk.2.1.kids (by omega); omega)
      | (have := hk.2.kids (by omega); omega)
  · rcases hk with hk | hk | hk | hk | hk | hk | hk | hk | hk
    all_goals first | omega | exact hk.2.2
theorem tag_bytes {d : Des} (hG : Good' d) {r : Nat} {x : Rul} (h : d[r]? = some x) (h7 : x.kind = 7) : ∃ y, d[(x.kids.headD 0).toNat]? = some y ∧ 0 ≤ x.kids.headD 0 ∧ (x.kids.headD 0).toNat < d.length ∧ ∀ (i : Nat) t, x.tags[i]? = some t → 0 < (encI y t).length := by
  obtain ⟨_, hkl, ht⟩ := good_fields hG h
  have hk0 := head_kid hG h (hkl (.inr (.inr (.inr (.inr (.inr h7))))))
  have hr := (List.getElem?_eq_some_iff.1 h).1
  obtain ⟨y, hy⟩ : ∃ y, d[(x.kids.headD 0).toNat]? = some y := ⟨_, List.getElem?_eq_getElem (by omega)⟩
  refine ⟨y, hy, hk0.1, by omega, fun i t hi => ?_⟩
  have htt := (ht h7).2.2.2 i t hi
  have hlim : lim d (x.kids.headD 0) = if 0 ≤ x.kids.headD 0 ∧ y.kind = 1 ∧ 1 ≤ y.size ∧ y.size ≤ 4 then pow8 y.size - 1 else -1 := by unfold lim; rw [hy]
  by_cases hc : 0 ≤ x.kids.headD 0 ∧ y.kind = 1 ∧ 1 ≤ y.size ∧ y.size ≤ 4
  · rw [if_pos hc] at hlim
    have hf : Fit t y.size := ⟨hc.2.2.1, hc.2.2.2, htt.1, by omega⟩
    have hbl : 0 < (be t y.size).length := by unfold be; split <;> (try split) <;> (try split) <;> simp
    unfold encI
    split
    · rw [List.length_reverse, encBE_yes hf]; exact hbl
    · rw [encBE_yes hf]; exact hbl
  · rw [if_neg hc] at hlim; omega
theorem boolsR_congr {n : Nat} {u v : Nat → Bool} (h : ∀ j, j < n → u j = v j) : boolsR n u = boolsR n v := by
  unfold boolsR
  exact List.map_congr_left fun j hj => by rw [h j (List.mem_range.1 hj)]
end Go.Proofs.Ytnecoghfhcimeaa
/- The program's table of first bytes. -/
namespace Go.Proofs.Ytnecoghfhcimeaa
set_option linter.unusedSimpArgs false
set_option linter.unusedVariables false
set_option linter.unusedSectionVars false
open Go.RowKit
theorem rr_bools {n : Nat} {u v : Nat → Bool} (h : ∀ j, j < n → u j = v j) : RR.ro (.agg (boolsR n u)) = .ro (.agg (boolsR n v)) := by rw [boolsR_congr h]
theorem take_bools (n : Nat) (u : Nat → Bool) : ((bools n u).drop 0).take n = (boolsR n u).map .ro := by
  rw [List.drop_zero, List.take_of_length_le (by rw [bools_len]; exact Nat.le_refl _), bools_map]
noncomputable def tagsB (y : Rul) (ts : List Int) : Nat → Bool := fun b => ts.any fun t => decide (b = ((encI y t).headD 0).toNat)
theorem tagsB_next {y : Rul} {ts : List Int} {j : Nat} {t : Int} (h : ts[j]? = some t) : put1 (tagsB y (ts.take j)) ((encI y t).headD 0).toNat true = tagsB y (ts.take (j + 1)) := by
  funext b
  obtain ⟨hj, he⟩ := List.getElem?_eq_some_iff.1 h
  unfold put1 tagsB
  rw [List.take_succ_eq_append_getElem hj, he]
  simp only [List.any_append, List.any_cons, List.any_nil, Bool.or_false]
  by_cases e : b = ((encI y t).headD 0).toNat
  · rw [if_pos e, decide_eq_true e, Bool.or_true]
  · rw [if_neg e, decide_eq_false e, Bool.or_false]
set_option maxHeartbeats 16000000 in
theorem startBytes_ac (d : Des) (ho : DesOk d) (hG : Good' d) : ∀ (r : Nat), r < d.length → ACv Try.prog 81 [desR d, .int (r : Int)] (.agg (boolsR 256 (stB d (r + 1) r))) := by
  intro r
  induction r using Nat.strongRecOn with
  | _ r ih =>
    intro hr
    have hlm : (d.map rulR).length = d.length := List.length_map ..
    have hl := hG.2.1
    obtain ⟨x, hx⟩ : ∃ x, d[(r : Int).toNat]? = some x := ⟨_, List.getElem?_eq_getElem (by simpa using hr)⟩
    have hx' : d[r]? = some x := hx
    obtain ⟨f2, fk, f7⟩ := good_fields hG hx'
    have hz := bools_zero 256
    have hst : ∀ b, stB d (r + 1) r b = _ := fun b => stB_at hx'
    refine ac_enter Try.func81 rfl _ Try.ntmps81 (by simp) fun C hn hm => ?_
    by_cases k2 : x.kind = 2
    · have hb0 := headB_at (f2 k2)
      have hlt := (x.bytes.headD 0).toNat_lt
      repeat' (first
 | refine op_store1 (n := 256) (u := fun _ => false) rfl rfl rfl hz (by omega) ?_
 | refine op_storeA (n := 256) rfl rfl rfl (by rw [List.length_map, List.length_replicate]) ?_
 | (refine RunsL.pe hn rfl rfl rfl ?_; first
 | refine ⟨_, pu_loadA (tt := 100) (n := 256) rfl rfl rfl, ?_⟩)
 | refine RunsL.step tabOk hn rfl ?_
 | refine RunsL.nil ?_
 | refine Runs.toRegion 30 rfl ?_
 | (refine RunsL.pe hn rfl rfl rfl ?_; first
 | refine ⟨_, pu_indexAddr_arr rfl rfl (by omega) (by omega), ?_⟩)
 | (refine Runs.ctls 30 rfl ?_; first | refine Runs.cond_t rfl ?_ | (refine Runs.cond_yes rfl ?_ ?_; · first | omega | rfl | assumption | (simp only [List.length_map]; omega)) | (refine Runs.cond_no rfl ?_ ?_; · first | omega | rfl | assumption | (simp only [List.length_map]; omega)) | refine Runs.ret (ends_ro hm rfl rfl ?_) | exact Runs.ret (ends_cellR hm rfl rfl rfl (Nat.le_of_ble_eq_true rfl) rfl rfl))
 | refine op_box rfl (tl hn rfl) ?_
 | refine op_alloc (tl hn rfl) ?_
 | refine op_storeN rfl rfl rfl rfl (Nat.le_of_ble_eq_true rfl) ?_
 | (refine RunsL.pe hn rfl rfl rfl ?_; first
 | refine ⟨_, pu_add rfl rfl (by omega), ?_⟩
 | refine ⟨_, pu_indexAddr_map rfl rfl (by omega) (by assumption), ?_⟩))
      refine Runs.ctls 30 rfl (Runs.ret (ends_cellR (rs := boolsR 256 _) hm rfl rfl rfl (Nat.le_of_eq (by rw [bools_len])) ?_ (take_bools 256 _)))
      refine rr_bools fun j hj => ?_
      rw [hst, if_pos k2]
      unfold put1
      have e : 0 + ((x.bytes.headD 0).toNat : Int).toNat * 1 = (x.bytes.headD 0).toNat := by omega
      rw [e]
      by_cases h : j = (x.bytes.headD 0).toNat <;> simp [h]
    by_cases k69 : x.kind = 6 ∨ x.kind = 9
    · have hkl := fk (by omega)
      have hk0 := head_at hkl
      have hkk := head_kid hG hx' hkl
      obtain ⟨c, hc⟩ : ∃ c : Nat, x.kids.headD 0 = c := ⟨(x.kids.headD 0).toNat, by omega⟩
      have hcall := ih c (by omega) (by omega)
      rw [hc] at hk0
      rcases k69 with k6 | k9
      all_goals
        repeat' (first
 | refine Runs.toDrawT (id := 13) 30 [] [0, 1, 2, 3, 4, 5] 6 [] mixed hn rfl (by kernel_rfl) rfl .nil (by decide) (by decide) (by decide) ?_
 | refine op_storeA (n := 256) rfl rfl rfl (by rw [List.length_map, List.length_replicate]) ?_
 | refine RunsT.nil ?_
 | refine RunsT.step tabOk rfl rfl (fun _ => rfl) (by decide) ?_
 | refine RunsT.pur (fun _ => pu_callR hcall rfl) (by decide) rfl rfl ?_
 | refine RunsT.pur (fun _ => pu_add rfl rfl (by omega)) (by decide) rfl rfl ?_
 | refine RunsT.pur (fun _ => pu_indexAddr_map rfl rfl (by omega) (by assumption)) (by decide) rfl rfl ?_
 | refine RunsL.step tabOk hn rfl ?_
 | refine RunsL.nil ?_
 | refine Runs.toRegion 30 rfl ?_
 | (refine RunsL.pe hn rfl rfl rfl ?_; first
 | refine ⟨_, pu_callR hcall rfl, ?_⟩)
 | (refine Runs.ctls 30 rfl ?_; first | refine Runs.cond_t rfl ?_ | (refine Runs.cond_yes rfl ?_ ?_; · first | omega | rfl | assumption | (simp only [List.length_map]; omega)) | (refine Runs.cond_no rfl ?_ ?_; · first | omega | rfl | assumption | (simp only [List.length_map]; omega)) | refine Runs.ret (ends_ro hm rfl rfl ?_) | exact Runs.ret (ends_cellR hm rfl rfl rfl (Nat.le_of_ble_eq_true rfl) rfl rfl))
 | refine op_box rfl (tl hn rfl) ?_
 | refine op_alloc (tl hn rfl) ?_
 | refine op_storeN rfl rfl rfl rfl (Nat.le_of_ble_eq_true rfl) ?_
 | (refine RunsL.pe hn rfl rfl rfl ?_; first
 | refine ⟨_, pu_add rfl rfl (by omega), ?_⟩
 | refine ⟨_, pu_indexAddr_map rfl rfl (by omega) (by assumption), ?_⟩))
        refine Runs.ctls 30 rfl (Runs.ret (ends_cellR (rs := boolsR 256 _) hm rfl rfl rfl (Nat.le_of_eq (by rw [bools_len])) ?_ (take_bools 256 _)))
        refine rr_bools fun j hj => ?_
        rw [hst, if_neg k2, if_pos (by omega), hc]
        exact (stB_deep hG c (by omega) r (by omega)).symm
    by_cases k7 : x.kind = 7
    · obtain ⟨y, hy, hy0, hyl, htb⟩ := tag_bytes hG hx' k7
      have hkl := fk (by omega)
      have hk0 := head_at hkl
      have hto := (f7 k7).2.2.1
      repeat' (first
 | refine RunsL.step tabOk hn rfl ?_
 | refine RunsL.nil ?_
 | refine Runs.toRegion 30 rfl ?_
 | (refine Runs.ctls 30 rfl ?_; first | refine Runs.cond_t rfl ?_ | (refine Runs.cond_yes rfl ?_ ?_; · first | omega | rfl | assumption | (simp only [List.length_map]; omega)) | (refine Runs.cond_no rfl ?_ ?_; · first | omega | rfl | assumption | (simp only [List.length_map]; omega)) | refine Runs.ret (ends_ro hm rfl rfl ?_) | exact Runs.ret (ends_cellR hm rfl rfl rfl (Nat.le_of_ble_eq_true rfl) rfl rfl))
 | refine op_box rfl (tl hn rfl) ?_
 | refine op_alloc (tl hn rfl) ?_
 | refine op_storeN rfl rfl rfl rfl (Nat.le_of_ble_eq_true rfl) ?_
 | (refine RunsL.pe hn rfl rfl rfl ?_; first
 | refine ⟨_, pu_add rfl rfl (by omega), ?_⟩
 | refine ⟨_, pu_indexAddr_map rfl rfl (by omega) (by assumption), ?_⟩))
      refine Runs.loopN 30 rfl (fun j => [(2, .obj 0 0), (4, .obj 1 0), (5, .obj 2 0), (6, .obj 3 0), (42, .ro (intsR x.tags)), (43, .int (x.tags.length : Int)), (44, .int (j : Int))]) (fun j => [⟨38, 0, [.ro (rulsR d)]⟩, ⟨100, 0, (List.replicate 256 (Value.bool false)).map fun v => .ro (.c v)⟩, ⟨100, 0, bools 256 (tagsB y (x.tags.take j))⟩, ⟨52, 0, [.str x.name, .int x.kind, .int x.size, .bool x.little, .ro (bytesR x.bytes), .ro (strsR x.names), .ro (intsR x.tags), .ro (intsR x.kids)]⟩]) (fun _ => True) x.tags.length 0 (Nat.zero_le _) trivial ⟨rfl, rfl, rfl, rfl, rfl, by simp [look], rfl, trivial⟩ (by rw [hz, show tagsB y (x.tags.take 0) = fun _ => false from rfl]; rfl) fun j hj _ next => ?_
      by_cases hlt : j < x.tags.length
      · obtain ⟨t, ht⟩ : ∃ t, x.tags[(j : Int).toNat]? = some t := ⟨_, List.getElem?_eq_getElem hlt⟩
        have ht' : x.tags[j]? = some t := ht
        have henc := (impl_encodeInteger y t).shut (r := bytesR (encI y t)) (by rintro _ rfl; exact seals_bytes _ _)
        have hhd := headB_at (htb j t ht')
        have hc := ((encI y t).headD 0).toNat_lt
        repeat' (first
 | refine Runs.toDrawT (id := 18) 30 [] [0, 1, 2, 3, 4, 5, 6, 7, 8, 9, 10, 11, 12] 13 [] mixed hn rfl (by kernel_rfl) rfl .nil (by decide) (by decide) (by decide) ?_
 | refine op_store1 (n := 256) rfl rfl rfl rfl (by omega) ?_
 | refine RunsT.nil ?_
 | refine RunsT.step tabOk rfl rfl (fun _ => rfl) (by decide) ?_
 | refine RunsT.pur (fun _ => pu_callR henc rfl) (by decide) rfl rfl ?_
 | refine RunsT.pur (fun _ => pu_indexAddr_arr rfl rfl (by omega) (by omega)) (by decide) rfl rfl ?_
 | refine RunsT.pur (fun _ => pu_add rfl rfl (by omega)) (by decide) rfl rfl ?_
 | refine RunsT.pur (fun _ => pu_indexAddr_map rfl rfl (by omega) (by assumption)) (by decide) rfl rfl ?_
 | refine RunsL.step tabOk hn rfl ?_
 | refine RunsL.nil ?_
 | refine Runs.toRegion 30 rfl ?_
 | (refine RunsL.pe hn rfl rfl rfl ?_; first
 | refine ⟨_, pu_callR henc rfl, ?_⟩
 | refine ⟨_, pu_indexAddr_arr rfl rfl (by omega) (by omega), ?_⟩)
 | (refine Runs.ctls 30 rfl ?_; first | refine Runs.cond_t rfl ?_ | (refine Runs.cond_yes rfl ?_ ?_; · first | omega | rfl | assumption | (simp only [List.length_map]; omega)) | (refine Runs.cond_no rfl ?_ ?_; · first | omega | rfl | assumption | (simp only [List.length_map]; omega)) | refine Runs.ret (ends_ro hm rfl rfl ?_) | exact Runs.ret (ends_cellR hm rfl rfl rfl (Nat.le_of_ble_eq_true rfl) rfl rfl))
 | refine op_box rfl (tl hn rfl) ?_
 | refine op_alloc (tl hn rfl) ?_
 | refine op_storeN rfl rfl rfl rfl (Nat.le_of_ble_eq_true rfl) ?_
 | (refine RunsL.pe hn rfl rfl rfl ?_; first
 | refine ⟨_, pu_add rfl rfl (by omega), ?_⟩
 | refine ⟨_, pu_indexAddr_map rfl rfl (by omega) (by assumption), ?_⟩))
        refine next _ _ ⟨rfl, rfl, rfl, rfl, rfl, rfl, rfl, trivial⟩ hlt trivial ?_
        rw [← tagsB_next ht']
        have e : 0 + (((encI y t).headD 0).toNat : Int).toNat * 1 = ((encI y t).headD 0).toNat := by omega
        rw [e]
        rfl
      · obtain rfl : j = x.tags.length := by omega
        rw [List.take_length]
        repeat' (first
 | refine op_storeA (n := 256) rfl rfl rfl (by rw [List.length_map, List.length_replicate]) ?_
 | (refine RunsL.pe hn rfl rfl rfl ?_; first
 | refine ⟨_, pu_loadA (tt := 100) (n := 256) rfl rfl rfl, ?_⟩)
 | refine RunsL.step tabOk hn rfl ?_
 | refine RunsL.nil ?_
 | refine Runs.toRegion 30 rfl ?_
 | (refine Runs.ctls 30 rfl ?_; first | refine Runs.cond_t rfl ?_ | (refine Runs.cond_yes rfl ?_ ?_; · first | omega | rfl | assumption | (simp only [List.length_map]; omega)) | (refine Runs.cond_no rfl ?_ ?_; · first | omega | rfl | assumption | (simp only [List.length_map]; omega)) | refine Runs.ret (ends_ro hm rfl rfl ?_) | exact Runs.ret (ends_cellR hm rfl rfl rfl (Nat.le_of_ble_eq_true rfl) rfl rfl))
 | refine op_box rfl (tl hn rfl) ?_
 | refine op_alloc (tl hn rfl) ?_
 | refine op_storeN rfl rfl rfl rfl (Nat.le_of_ble_eq_true rfl) ?_
 | (refine RunsL.pe hn rfl rfl rfl ?_; first
 | refine ⟨_, pu_add rfl rfl (by omega), ?_⟩
 | refine ⟨_, pu_indexAddr_map rfl rfl (by omega) (by assumption), ?_⟩))
        refine Runs.ctls 30 rfl (Runs.ret (ends_cellR (rs := boolsR 256 _) hm rfl rfl rfl (Nat.le_of_eq (by rw [bools_len])) ?_ (take_bools 256 _)))
        refine rr_bools fun b hb => ?_
        rw [hst, if_neg k2, if_neg k69, if_pos k7, hy]
        rfl
    by_cases k8 : x.kind = 8
    · repeat' (first
 | refine op_store1 (n := 256) (u := fun _ => false) rfl rfl rfl hz (by decide) ?_
 | refine op_store1 (n := 256) rfl rfl rfl rfl (by decide) ?_
 | refine op_storeA (n := 256) rfl rfl rfl (by rw [List.length_map, List.length_replicate]) ?_
 | (refine RunsL.pe hn rfl rfl rfl ?_; first
 | refine ⟨_, pu_loadA (tt := 100) (n := 256) rfl rfl rfl, ?_⟩)
 | refine RunsL.step tabOk hn rfl ?_
 | refine RunsL.nil ?_
 | refine Runs.toRegion 30 rfl ?_
 | (refine RunsL.pe hn rfl rfl rfl ?_; first
 | refine ⟨_, pu_indexAddr_arr rfl rfl (by omega) (by omega), ?_⟩)
 | (refine Runs.ctls 30 rfl ?_; first | refine Runs.cond_t rfl ?_ | (refine Runs.cond_yes rfl ?_ ?_; · first | omega | rfl | assumption | (simp only [List.length_map]; omega)) | (refine Runs.cond_no rfl ?_ ?_; · first | omega | rfl | assumption | (simp only [List.length_map]; omega)) | refine Runs.ret (ends_ro hm rfl rfl ?_) | exact Runs.ret (ends_cellR hm rfl rfl rfl (Nat.le_of_ble_eq_true rfl) rfl rfl))
 | refine op_box rfl (tl hn rfl) ?_
 | refine op_alloc (tl hn rfl) ?_
 | refine op_storeN rfl rfl rfl rfl (Nat.le_of_ble_eq_true rfl) ?_
 | (refine RunsL.pe hn rfl rfl rfl ?_; first
 | refine ⟨_, pu_add rfl rfl (by omega), ?_⟩
 | refine ⟨_, pu_indexAddr_map rfl rfl (by omega) (by assumption), ?_⟩))
      refine Runs.ctls 30 rfl (Runs.ret (ends_cellR (rs := boolsR 256 _) hm rfl rfl rfl (Nat.le_of_eq (by rw [bools_len])) ?_ (take_bools 256 _)))
      refine rr_bools fun j hj => ?_
      rw [hst, if_neg k2, if_neg k69, if_neg k7, if_pos k8]
      unfold put1
      by_cases h0 : j = 0
      · subst h0; rfl
      · by_cases h1 : j = 1
        · subst h1; rfl
        · have : ¬ j < 2 := by omega
          simp [this]
          omega
    · repeat' (first
 | refine RunsL.step tabOk hn rfl ?_
 | refine RunsL.nil ?_
 | refine Runs.toRegion 30 rfl ?_
 | (refine Runs.ctls 30 rfl ?_; first | refine Runs.cond_t rfl ?_ | (refine Runs.cond_yes rfl ?_ ?_; · first | omega | rfl | assumption | (simp only [List.length_map]; omega)) | (refine Runs.cond_no rfl ?_ ?_; · first | omega | rfl | assumption | (simp only [List.length_map]; omega)) | refine Runs.ret (ends_ro hm rfl rfl ?_) | exact Runs.ret (ends_cellR hm rfl rfl rfl (Nat.le_of_ble_eq_true rfl) rfl rfl))
 | refine op_box rfl (tl hn rfl) ?_
 | refine op_alloc (tl hn rfl) ?_
 | refine op_storeN rfl rfl rfl rfl (Nat.le_of_ble_eq_true rfl) ?_
 | (refine RunsL.pe hn rfl rfl rfl ?_; first
 | refine ⟨_, pu_add rfl rfl (by omega), ?_⟩
 | refine ⟨_, pu_indexAddr_map rfl rfl (by omega) (by assumption), ?_⟩))
      refine Runs.loopN 30 rfl (fun j => [(2, .obj 0 0), (4, .obj 1 0), (5, .obj 2 0), (6, .obj 3 0), (17, .int (j : Int))]) (fun j => [⟨38, 0, [.ro (rulsR d)]⟩, ⟨100, 0, (List.replicate 256 (Value.bool false)).map fun v => .ro (.c v)⟩, ⟨100, 0, bools 256 (fun b => decide (b < j))⟩, ⟨52, 0, [.str x.name, .int x.kind, .int x.size, .bool x.little, .ro (bytesR x.bytes), .ro (strsR x.names), .ro (intsR x.tags), .ro (intsR x.kids)]⟩]) (fun _ => True) 256 0 (Nat.zero_le _) trivial ⟨rfl, rfl, rfl, rfl, rfl, trivial⟩ (by rw [hz, show (fun b : Nat => decide (b < 0)) = fun _ => false by funext b; simp]; rfl) fun j hj _ next => ?_
      by_cases hlt : j < 256
      · repeat' (first
 | (refine Runs.ctls 30 rfl ?_; first | refine Runs.cond_yes rfl (by omega) ?_ | refine Runs.cond_no rfl (by omega) ?_)
 | refine op_store1 (n := 256) rfl rfl rfl rfl (by omega) ?_
 | refine RunsL.step tabOk hn rfl ?_
 | refine RunsL.nil ?_
 | refine Runs.toRegion 30 rfl ?_
 | (refine RunsL.pe hn rfl rfl rfl ?_; first
 | refine ⟨_, pu_indexAddr_arr rfl rfl (by omega) (by omega), ?_⟩)
 | (refine Runs.ctls 30 rfl ?_; first | refine Runs.cond_t rfl ?_ | (refine Runs.cond_yes rfl ?_ ?_; · first | omega | rfl | assumption | (simp only [List.length_map]; omega)) | (refine Runs.cond_no rfl ?_ ?_; · first | omega | rfl | assumption | (simp only [List.length_map]; omega)) | refine Runs.ret (ends_ro hm rfl rfl ?_) | exact Runs.ret (ends_cellR hm rfl rfl rfl (Nat.le_of_ble_eq_true rfl) rfl rfl))
 | refine op_box rfl (tl hn rfl) ?_
 | refine op_alloc (tl hn rfl) ?_
 | refine op_storeN rfl rfl rfl rfl (Nat.le_of_ble_eq_true rfl) ?_
 | (refine RunsL.pe hn rfl rfl rfl ?_; first
 | refine ⟨_, pu_add rfl rfl (by omega), ?_⟩
 | refine ⟨_, pu_indexAddr_map rfl rfl (by omega) (by assumption), ?_⟩))
        refine next _ _ ⟨rfl, rfl, rfl, rfl, rfl, trivial⟩ hlt trivial ?_
        have e : 0 + (j : Int).toNat * 1 = j := by omega
        rw [e, show (fun b : Nat => decide (b < j + 1)) = put1 (fun b => decide (b < j)) j true by
          funext b
          unfold put1
          by_cases h : b = j
          · simp [h]
          · rw [if_neg h]
            exact decide_eq_decide.2 ⟨fun _ => by omega, fun _ => by omega⟩]
        rfl
      · obtain rfl : j = 256 := by omega
        repeat' (first
 | (refine Runs.ctls 30 rfl ?_; first | refine Runs.cond_yes rfl (by omega) ?_ | refine Runs.cond_no rfl (by omega) ?_)
 | refine op_storeA (n := 256) rfl rfl rfl (by rw [List.length_map, List.length_replicate]) ?_
 | (refine RunsL.pe hn rfl rfl rfl ?_; first
 | refine ⟨_, pu_loadA (tt := 100) (n := 256) rfl rfl rfl, ?_⟩)
 | refine RunsL.step tabOk hn rfl ?_
 | refine RunsL.nil ?_
 | refine Runs.toRegion 30 rfl ?_
 | (refine Runs.ctls 30 rfl ?_; first | refine Runs.cond_t rfl ?_ | (refine Runs.cond_yes rfl ?_ ?_; · first | omega | rfl | assumption | (simp only [List.length_map]; omega)) | (refine Runs.cond_no rfl ?_ ?_; · first | omega | rfl | assumption | (simp only [List.length_map]; omega)) | refine Runs.ret (ends_ro hm rfl rfl ?_) | exact Runs.ret (ends_cellR hm rfl rfl rfl (Nat.le_of_ble_eq_true rfl) rfl rfl))
 | refine op_box rfl (tl hn rfl) ?_
 | refine op_alloc (tl hn rfl) ?_
 | refine op_storeN rfl rfl rfl rfl (Nat.le_of_ble_eq_true rfl) ?_
 | (refine RunsL.pe hn rfl rfl rfl ?_; first
 | refine ⟨_, pu_add rfl rfl (by omega), ?_⟩
 | refine ⟨_, pu_indexAddr_map rfl rfl (by omega) (by assumption), ?_⟩))
        refine Runs.ctls 30 rfl (Runs.ret (ends_cellR (rs := boolsR 256 _) hm rfl rfl rfl (Nat.le_of_eq (by rw [bools_len])) ?_ (take_bools 256 _)))
        refine rr_bools fun b hb => ?_
        rw [hst, if_neg k2, if_neg k69, if_neg k7, if_neg k8]
        simpa using hb
end Go.Proofs.Ytnecoghfhcimeaa
/- CanStart and what leans on it: both sides. -/
namespace Go.Proofs.Ytnecoghfhcimeaa
set_option linter.unusedSimpArgs false
set_option linter.unusedVariables false
set_option linter.unusedSectionVars false
open Go.RowKit
noncomputable def canB (d : Des) (rule b : Int) : Bool := decide (Kn d rule ∧ 0 ≤ b ∧ b ≤ 255) && stB d (rule.toNat + 1) rule.toNat b.toNat
theorem canB_no {d : Des} {rule b : Int} (h : ¬ (Kn d rule ∧ 0 ≤ b ∧ b ≤ 255)) : canB d rule b = false := by unfold canB; rw [decide_eq_false h]; rfl
theorem canB_yes {d : Des} {rule b : Int} (h : Kn d rule ∧ 0 ≤ b ∧ b ≤ 255) : canB d rule b = stB d (rule.toNat + 1) rule.toNat b.toNat := by unfold canB; rw [decide_eq_true h]; rfl
set_option maxHeartbeats 4000000 in
theorem impl_CanStart (d : Des) (ho : DesOk d) (hd : dtotal d ≤ 1048576) (rule b : Int) : ACv Try.prog 29 [desR d, .int rule, .int b] (.bool (canB d rule b)) := by
  have hk := known_ac d ho hd rule
  by_cases hK : Kn d rule
  · obtain ⟨r, rfl⟩ : ∃ r : Nat, rule = r := ⟨rule.toNat, by have := hK.2; omega⟩
    have hs := startBytes_ac d ho hK.1 r (by have := hK.2; omega)
    by_cases hb : 0 ≤ b ∧ b ≤ 255
    · rw [canB_yes ⟨hK, hb⟩]
      refine ac_enter Try.func29 rfl _ Try.ntmps29 (by simp) fun C hn hm => ?_
      repeat' (first
 | refine RunsL.step tabOk hn rfl ?_
 | refine RunsL.nil ?_
 | refine Runs.toRegion 30 rfl ?_
 | (refine RunsL.pe hn rfl rfl rfl ?_; first
 | refine ⟨_, pu_callR hk rfl, ?_⟩
 | refine ⟨_, pu_callR (inRange_ac _ _ _) rfl, ?_⟩
 | refine ⟨_, pu_callR hs rfl, ?_⟩
 | refine ⟨_, pu_indexA (n := 256) Try.underlying100 rfl rfl (by omega) (by omega) rfl, ?_⟩)
 | (refine Runs.ctls 30 rfl ?_; first | refine Runs.ret (ends_ro hm rfl rfl ?_) | exact Runs.ret (ends_cellR hm rfl rfl rfl (Nat.le_of_ble_eq_true rfl) rfl rfl))
 | refine op_box rfl (tl hn rfl) ?_
 | (refine RunsL.guard_dec rfl rfl rfl ?_ ?_ <;> intro h <;> try (exfalso; first | omega | contradiction)))
      all_goals exact rr_bool (by simp [*])
    · rw [canB_no fun h => hb h.2]
      refine ac_enter Try.func29 rfl _ Try.ntmps29 (by simp) fun C hn hm => ?_
      repeat' (first
 | refine RunsL.step tabOk hn rfl ?_
 | refine RunsL.nil ?_
 | refine Runs.toRegion 30 rfl ?_
 | (refine RunsL.pe hn rfl rfl rfl ?_; first
 | refine ⟨_, pu_callR hk rfl, ?_⟩
 | refine ⟨_, pu_callR (inRange_ac _ _ _) rfl, ?_⟩)
 | (refine Runs.ctls 30 rfl ?_; first | refine Runs.ret (ends_ro hm rfl rfl ?_) | exact Runs.ret (ends_cellR hm rfl rfl rfl (Nat.le_of_ble_eq_true rfl) rfl rfl))
 | refine op_box rfl (tl hn rfl) ?_
 | (refine RunsL.guard_dec rfl rfl rfl ?_ ?_ <;> intro h <;> try (exfalso; first | omega | contradiction)))
      all_goals first
        | exact rr_bool rfl
        | (exfalso; omega)
  · rw [canB_no fun h => hK h.1]
    refine ac_enter Try.func29 rfl _ Try.ntmps29 (by simp) fun C hn hm => ?_
    repeat' (first
 | refine RunsL.step tabOk hn rfl ?_
 | refine RunsL.nil ?_
 | refine Runs.toRegion 30 rfl ?_
 | (refine RunsL.pe hn rfl rfl rfl ?_; first
 | refine ⟨_, pu_callR hk rfl, ?_⟩
 | refine ⟨_, pu_callR (inRange_ac _ _ _) rfl, ?_⟩)
 | (refine Runs.ctls 30 rfl ?_; first | refine Runs.ret (ends_ro hm rfl rfl ?_) | exact Runs.ret (ends_cellR hm rfl rfl rfl (Nat.le_of_ble_eq_true rfl) rfl rfl))
 | refine op_box rfl (tl hn rfl) ?_
 | (refine RunsL.guard_dec rfl rfl rfl ?_ ?_ <;> intro h <;> try (exfalso; first | omega | contradiction)))
    all_goals exact rr_bool rfl
end Go.Proofs.Ytnecoghfhcimeaa
/- The plain law of tags. -/
namespace Go.Proofs.Ytnecoghfhcimeaa
set_option linter.unusedSimpArgs false
set_option linter.unusedVariables false
set_option linter.unusedSectionVars false
open Go.RowKit
theorem tag_fit {d : Des} (hG : Good' d) {r : Nat} {x y : Rul} (h : d[r]? = some x) (h7 : x.kind = 7) (hy : d[(x.kids.headD 0).toNat]? = some y) (i : Nat) (t : Int) (hi : x.tags[i]? = some t) : Fit t y.size := by
  obtain ⟨_, hkl, ht⟩ := good_fields hG h
  have htt := (ht h7).2.2.2 i t hi
  have hlim : lim d (x.kids.headD 0) = if 0 ≤ x.kids.headD 0 ∧ y.kind = 1 ∧ 1 ≤ y.size ∧ y.size ≤ 4 then pow8 y.size - 1 else -1 := by unfold lim; rw [hy]
  by_cases hc : 0 ≤ x.kids.headD 0 ∧ y.kind = 1 ∧ 1 ≤ y.size ∧ y.size ≤ 4
  · rw [if_pos hc] at hlim
    exact ⟨hc.2.2.1, hc.2.2.2, htt.1, by omega⟩
  · rw [if_neg hc] at hlim; omega
theorem tags_up {d : Des} {x : Rul} (ht : TagsOk d x) : ∀ (k i : Nat) (s t : Int), x.tags[i]? = some s → x.tags[i + k + 1]? = some t → s < t := by
  intro k
  induction k with
  | zero =>
    intro i s t hs h
    exact (ht.2.2.2 (i + 0 + 1) t h).2.2 s (by omega) (by simpa using hs)
  | succ k ih =>
    intro i s t hs h
    have hl := (List.getElem?_eq_some_iff.1 h).1
    obtain ⟨m, hm⟩ : ∃ m, x.tags[i + k + 1]? = some m := ⟨_, List.getElem?_eq_getElem (by omega)⟩
    have h1 := ih i s m hs hm
    have h2 := (ht.2.2.2 (i + (k + 1) + 1) t h).2.2 m (by omega) (by rw [show i + (k + 1) + 1 - 1 = i + k + 1 by omega]; exact hm)
    omega
theorem tags_ne {d : Des} {x : Rul} (ht : TagsOk d x) {i j : Nat} {s t : Int} (hs : x.tags[i]? = some s) (h : x.tags[j]? = some t) (hij : i ≠ j) : s ≠ t := by
  rcases Nat.lt_or_gt_of_ne hij with q | q
  · have := tags_up ht (j - i - 1) i s t hs (by rw [show i + (j - i - 1) + 1 = j by omega]; exact h)
    omega
  · have := tags_up ht (i - j - 1) j t s h (by rw [show j + (i - j - 1) + 1 = i by omega]; exact hs)
    omega
theorem tag_facts {d : Des} {r a : Int} (h : HasTag d r a) : ∃ (n : Nat) (x y : Rul) (t : Int), r = n ∧ d[n]? = some x ∧ x.kind = 7 ∧ 0 ≤ a ∧ a < x.tags.length ∧ 0 < x.kids.length ∧ 0 ≤ x.kids.headD 0 ∧ d[(x.kids.headD 0).toNat]? = some y ∧ x.tags[a.toNat]? = some t ∧ tagB d r a = encI y t ∧ 0 < (encI y t).length ∧ rdT y.little (encI y t) = t ∧
    canB d r (((encI y t).headD 0).toNat : Int) = true ∧ ∀ i : Nat, i < x.tags.length → (i : Int) ≠ a → tagB d r i ≠ encI y t := by
  obtain ⟨hK, x, hx, h7, h0, h1⟩ := h
  have hG := hK.1
  obtain ⟨n, rfl⟩ : ∃ n : Nat, r = n := ⟨r.toNat, by have := hK.2; omega⟩
  rw [Int.toNat_natCast] at hx
  obtain ⟨y, hy, hk0, hkl, hpos⟩ := tag_bytes hG hx h7
  obtain ⟨_, hkl', ht⟩ := good_fields hG hx
  obtain ⟨t, hta⟩ : ∃ t, x.tags[a.toNat]? = some t := ⟨_, List.getElem?_eq_getElem (by omega)⟩
  have hf := tag_fit hG hx h7 hy
  have hb := tagB_yes (d := d) (r := (n : Int)) (a := a) ⟨hK, x, by rw [Int.toNat_natCast]; exact hx, h7, h0, h1⟩ (by rw [Int.toNat_natCast]; exact hx) hy hta
  refine ⟨n, x, y, t, rfl, hx, h7, h0, h1, hkl' (.inr (.inr (.inr (.inr (.inr h7))))), hk0, hy, hta, hb, hpos _ _ hta, rdT_enc (hf _ _ hta), ?_, fun i hi hia => ?_⟩
  · have hlt := ((encI y t).headD 0).toNat_lt
    rw [canB_yes ⟨hK, by omega, by omega⟩, Int.toNat_natCast, Int.toNat_natCast, stB_at hx, if_neg (by omega), if_neg (by omega), if_pos h7, hy]
    simp only [List.any_eq_true, decide_eq_true_eq]
    exact ⟨t, List.mem_of_getElem? hta, rfl⟩
  · obtain ⟨s, hs⟩ : ∃ s, x.tags[i]? = some s := ⟨_, List.getElem?_eq_getElem hi⟩
    rw [tagB_yes (d := d) (r := (n : Int)) (a := (i : Int)) ⟨hK, x, by rw [Int.toNat_natCast]; exact hx, h7, by omega, by omega⟩ (by rw [Int.toNat_natCast]; exact hx) hy (by rw [Int.toNat_natCast]; exact hs)]
    intro e
    exact tags_ne (ht h7) hs hta (by omega) (encI_inj (hf _ _ hs) (hf _ _ hta) e)
end Go.Proofs.Ytnecoghfhcimeaa
/- A row of the frame's own becomes data for good; an empty literal as data. Over any program. -/
namespace Go.Proofs.Ytnecoghfhcimeaa
set_option linter.unusedSimpArgs false
set_option linter.unusedVariables false
set_option linter.unusedSectionVars false
open Go.RowKit
open AV (Mem Keeps)
section
variable {P : Program} {C : Ctx} {k : List Item} {R : Act → World → Prop} {env : Env} {σ : List Ob}
variable {t : Nat} {ty : TypeId} {pos : String} {after : Array Edge} {gd : Option (Nat × Bool)}
end
end Go.Proofs.Ytnecoghfhcimeaa
/- Quotient and rest by a positive number; texts joined. Over any program. -/
namespace Go.Proofs.Ytnecoghfhcimeaa
set_option linter.unusedSimpArgs false
set_option linter.unusedVariables false
set_option linter.unusedSectionVars false
open Go.RowKit
open AV (Mem Keeps)
section
variable {P : Program} {C : Ctx} {env : Env} {σ : List Ob} {t : Nat} {ty : TypeId} {pos : String} {after : Array Edge} {gd : Option (Nat × Bool)}
theorem pu_rem {xt yt : TypeId} {x y : Operand} {p q : Int} (hx : ev env x = .int p) (hy : ev env y = .int q) (h : 0 ≤ p ∧ p ≤ 9223372036854775807 ∧ 1 ≤ q) : Pur P C ⟨some t, .binOp .rem xt x y yt, ty, pos, after, gd⟩ env σ (.int (p % q)) :=
  pu_bin hx hy (fun w => by
    have h0 : ¬ q = 0 := by omega
    have h1 : p.tmod q = p % q := Int.tmod_eq_emod_of_nonneg h.1
    have h2 : 0 ≤ p % q := Int.emod_nonneg _ (by omega)
    have h3 : p % q ≤ p := by
      have := Int.emod_lt_of_pos p (show 0 < q by omega)
      have := Int.mul_ediv_add_emod p q
      have : 0 ≤ q * (p / q) := Int.mul_nonneg (by omega) (Int.ediv_nonneg h.1 (by omega))
      omega
    have h4 : IntKind.i64.wrap (p % q) = p % q := by simp [IntKind.wrap, IntKind.bits, IntKind.signed]; omega
    simp [go_sem, Op.intDiv, h0, h1, h4])
theorem pu_cat {xt yt : TypeId} {x y : Operand} {a b : ByteArray} (hx : ev env x = .str a) (hy : ev env y = .str b) (h : a.size + b.size ≤ 9223372036854775807) : Pur P C ⟨some t, .binOp .add xt x y yt, ty, pos, after, gd⟩ env σ (.str (a ++ b)) :=
  pu_bin hx hy (fun w => by
    have h' : ¬ (((a.size + b.size : Nat) : Int) > IntKind.i64.max) := by simp [IntKind.max, IntKind.bits, IntKind.signed]; omega
    rw [binOp_string_add]
    simp only [Op.stringOp]
    rw [if_neg h']
    simp [go_sem])
end
end Go.Proofs.Ytnecoghfhcimeaa
/- Small helpers of the laws. -/
namespace Go.Proofs.Ytnecoghfhcimeaa
set_option linter.unusedSimpArgs false
set_option linter.unusedVariables false
set_option linter.unusedSectionVars false
open Go.RowKit
open AV (Mem Keeps)
theorem big_ac (b : List UInt8) : ACv Try.prog 17 [bytesR b] (.bool (decide ((1048576 : Int) < b.length))) := by
  have hlb : (b.map fun z => [RV.u8 z]).length = b.length := List.length_map ..
  refine ac_enter Try.func17 rfl _ Try.ntmps17 (by simp) fun C hn hm => ?_
  repeat' (first
 | (refine RunsL.pe hn rfl rfl rfl ?_; first
 | refine ⟨_, pu_len_seqN b.length rfl hlb, ?_⟩)
 | refine RunsL.step tabOk hn rfl ?_
 | refine RunsL.nil ?_
 | refine Runs.toRegion 30 rfl ?_
 | (refine Runs.ctls 30 rfl ?_; first | refine Runs.ret (ends_ro hm rfl rfl ?_) | exact Runs.ret (ends_cellR hm rfl rfl rfl (Nat.le_of_ble_eq_true rfl) rfl rfl))
    )
  all_goals exact rr_bool rfl
theorem sameBytes_ac (a : List UInt8) (hl : a.length ≤ 4194304) : ACv Try.prog 27 [bytesR a, bytesR a] (.bool true) := by
  have hla : (a.map fun z => [RV.u8 z]).length = a.length := List.length_map ..
  refine ac_enter Try.func27 rfl _ Try.ntmps27 (by simp) fun C hn hm => ?_
  repeat' (first
 | refine RunsL.step tabOk hn rfl ?_
 | refine RunsL.nil ?_
 | refine Runs.toRegion 30 rfl ?_
 | (refine Runs.ctls 30 rfl ?_; first | ((first | refine Runs.cond_yes rfl ?_ ?_ | refine Runs.cond_nno rfl ?_ ?_); · first | omega | rfl | assumption | (simp only [List.length_map]; omega)) | (refine Runs.cond_no rfl ?_ ?_; · first | omega | rfl | assumption | (simp only [List.length_map]; omega)) | refine Runs.ret (ends_ro hm rfl rfl ?_) | exact Runs.ret (ends_cellR hm rfl rfl rfl (Nat.le_of_ble_eq_true rfl) rfl rfl))
 | refine RunsD.step tabOk hn rfl rfl ?_
 | refine RunsD.nil ?_
 | refine Runs.toDraw 30 mixed hn rfl (by kernel_rfl) rfl ?_
 | ((first | refine RunsL.pe hn rfl rfl rfl ?_ | refine RunsD.pe rfl rfl ?_); first
 | refine ⟨_, pu_add rfl rfl (by omega), ?_⟩
 | refine ⟨_, pu_indexAddr_map rfl rfl (by omega) (by assumption), ?_⟩))
  refine Runs.loopN 30 rfl (fun j => [(0, .ro (bytesR a)), (1, .ro (bytesR a)), (5, .int (j : Int))]) (fun _ => []) (fun _ => True) a.length 0 (Nat.zero_le _) trivial ⟨rfl, rfl, rfl, trivial⟩ rfl fun j hj _ next => ?_
  by_cases hlt : j < a.length
  · obtain ⟨x, hx⟩ : ∃ x, a[(j : Int).toNat]? = some x := ⟨_, List.getElem?_eq_getElem hlt⟩
    repeat' (first
 | refine RunsL.step tabOk hn rfl ?_
 | refine RunsL.nil ?_
 | refine Runs.toRegion 30 rfl ?_
 | (refine Runs.ctls 30 rfl ?_; first | ((first | refine Runs.cond_yes rfl ?_ ?_ | refine Runs.cond_nno rfl ?_ ?_); · first | omega | rfl | assumption | (simp only [List.length_map]; omega)) | (refine Runs.cond_no rfl ?_ ?_; · first | omega | rfl | assumption | (simp only [List.length_map]; omega)) | refine Runs.ret (ends_ro hm rfl rfl ?_) | exact Runs.ret (ends_cellR hm rfl rfl rfl (Nat.le_of_ble_eq_true rfl) rfl rfl))
 | refine RunsD.step tabOk hn rfl rfl ?_
 | refine RunsD.nil ?_
 | refine Runs.toDraw 30 mixed hn rfl (by kernel_rfl) rfl ?_
 | ((first | refine RunsL.pe hn rfl rfl rfl ?_ | refine RunsD.pe rfl rfl ?_); first
 | refine ⟨_, pu_add rfl rfl (by omega), ?_⟩
 | refine ⟨_, pu_indexAddr_map rfl rfl (by omega) (by assumption), ?_⟩))
    exact next _ _ ⟨rfl, rfl, rfl, trivial⟩ hlt trivial rfl
  · repeat' (first
 | refine RunsL.step tabOk hn rfl ?_
 | refine RunsL.nil ?_
 | refine Runs.toRegion 30 rfl ?_
 | (refine Runs.ctls 30 rfl ?_; first | ((first | refine Runs.cond_yes rfl ?_ ?_ | refine Runs.cond_nno rfl ?_ ?_); · first | omega | rfl | assumption | (simp only [List.length_map]; omega)) | (refine Runs.cond_no rfl ?_ ?_; · first | omega | rfl | assumption | (simp only [List.length_map]; omega)) | refine Runs.ret (ends_ro hm rfl rfl ?_) | exact Runs.ret (ends_cellR hm rfl rfl rfl (Nat.le_of_ble_eq_true rfl) rfl rfl))
 | refine RunsD.step tabOk hn rfl rfl ?_
 | refine RunsD.nil ?_
 | refine Runs.toDraw 30 mixed hn rfl (by kernel_rfl) rfl ?_
 | ((first | refine RunsL.pe hn rfl rfl rfl ?_ | refine RunsD.pe rfl rfl ?_); first
 | refine ⟨_, pu_add rfl rfl (by omega), ?_⟩
 | refine ⟨_, pu_indexAddr_map rfl rfl (by omega) (by assumption), ?_⟩))
    exact rr_bool rfl
end Go.Proofs.Ytnecoghfhcimeaa
/- Two rows of bytes compared. -/
namespace Go.Proofs.Ytnecoghfhcimeaa
set_option linter.unusedSimpArgs false
set_option linter.unusedVariables false
set_option linter.unusedSectionVars false
open Go.RowKit
open AV (Mem Keeps)
theorem sameBytes2_ac (a c : List UInt8) (hl : a.length ≤ 4194304) : ACv Try.prog 27 [bytesR a, bytesR c] (.bool (decide (a = c))) := by
  have hla : (a.map fun z => [RV.u8 z]).length = a.length := List.length_map ..
  have hlc : (c.map fun z => [RV.u8 z]).length = c.length := List.length_map ..
  refine ac_enter Try.func27 rfl _ Try.ntmps27 (by simp) fun C hn hm => ?_
  by_cases hlen : a.length = c.length
  · repeat' (first
 | refine RunsL.step tabOk hn rfl ?_
 | refine RunsL.nil ?_
 | refine Runs.toRegion 30 rfl ?_
 | (refine Runs.ctls 30 rfl ?_; first | ((first | refine Runs.cond_yes rfl ?_ ?_ | refine Runs.cond_nno rfl ?_ ?_); · first | omega | rfl | assumption | (simp only [List.length_map]; omega)) | ((first | refine Runs.cond_no rfl ?_ ?_ | refine Runs.cond_nyes rfl ?_ ?_); · first | omega | rfl | assumption | (simp only [List.length_map]; omega)) | refine Runs.ret (ends_ro hm rfl rfl ?_) | exact Runs.ret (ends_cellR hm rfl rfl rfl (Nat.le_of_ble_eq_true rfl) rfl rfl))
 | refine RunsD.step tabOk hn rfl rfl ?_
 | refine RunsD.nil ?_
 | refine Runs.toDraw 30 mixed hn rfl (by kernel_rfl) rfl ?_
 | ((first | refine RunsL.pe hn rfl rfl rfl ?_ | refine RunsD.pe rfl rfl ?_); first
 | refine ⟨_, pu_add rfl rfl (by omega), ?_⟩
 | refine ⟨_, pu_indexAddr_map rfl rfl (by omega) (by assumption), ?_⟩))
    refine Runs.loopN 30 rfl (fun j => [(0, .ro (bytesR a)), (1, .ro (bytesR c)), (5, .int (j : Int))]) (fun _ => []) (fun j => a.take j = c.take j) a.length 0 (Nat.zero_le _) rfl ⟨rfl, rfl, rfl, trivial⟩ rfl fun j hj hQ next => ?_
    by_cases hlt : j < a.length
    · obtain ⟨x, hx⟩ : ∃ x, a[(j : Int).toNat]? = some x := ⟨_, List.getElem?_eq_getElem hlt⟩
      obtain ⟨y, hy⟩ : ∃ y, c[(j : Int).toNat]? = some y := ⟨_, List.getElem?_eq_getElem (by simp; omega)⟩
      have hx' : a[j]? = some x := hx
      have hy' : c[j]? = some y := hy
      by_cases hxy : x = y
      · subst hxy
        repeat' (first
 | refine RunsL.step tabOk hn rfl ?_
 | refine RunsL.nil ?_
 | refine Runs.toRegion 30 rfl ?_
 | (refine Runs.ctls 30 rfl ?_; first | ((first | refine Runs.cond_yes rfl ?_ ?_ | refine Runs.cond_nno rfl ?_ ?_); · first | omega | rfl | assumption | (simp only [List.length_map]; omega)) | ((first | refine Runs.cond_no rfl ?_ ?_ | refine Runs.cond_nyes rfl ?_ ?_); · first | omega | rfl | assumption | (simp only [List.length_map]; omega)) | refine Runs.ret (ends_ro hm rfl rfl ?_) | exact Runs.ret (ends_cellR hm rfl rfl rfl (Nat.le_of_ble_eq_true rfl) rfl rfl))
 | refine RunsD.step tabOk hn rfl rfl ?_
 | refine RunsD.nil ?_
 | refine Runs.toDraw 30 mixed hn rfl (by kernel_rfl) rfl ?_
 | ((first | refine RunsL.pe hn rfl rfl rfl ?_ | refine RunsD.pe rfl rfl ?_); first
 | refine ⟨_, pu_add rfl rfl (by omega), ?_⟩
 | refine ⟨_, pu_indexAddr_map rfl rfl (by omega) (by assumption), ?_⟩))
        all_goals first
          | exact next _ _ ⟨rfl, rfl, rfl, trivial⟩ hlt (by rw [List.take_add_one, List.take_add_one, hQ, hx', hy']) rfl
          | (exfalso; omega)
      · have hxn : (x.toNat : Int) ≠ (y.toNat : Int) := fun e => hxy (UInt8.toNat_inj.1 (by omega))
        repeat' (first
 | refine RunsL.step tabOk hn rfl ?_
 | refine RunsL.nil ?_
 | refine Runs.toRegion 30 rfl ?_
 | (refine Runs.ctls 30 rfl ?_; first | ((first | refine Runs.cond_yes rfl ?_ ?_ | refine Runs.cond_nno rfl ?_ ?_); · first | omega | rfl | assumption | (simp only [List.length_map]; omega)) | ((first | refine Runs.cond_no rfl ?_ ?_ | refine Runs.cond_nyes rfl ?_ ?_); · first | omega | rfl | assumption | (simp only [List.length_map]; omega)) | refine Runs.ret (ends_ro hm rfl rfl ?_) | exact Runs.ret (ends_cellR hm rfl rfl rfl (Nat.le_of_ble_eq_true rfl) rfl rfl))
 | refine RunsD.step tabOk hn rfl rfl ?_
 | refine RunsD.nil ?_
 | refine Runs.toDraw 30 mixed hn rfl (by kernel_rfl) rfl ?_
 | ((first | refine RunsL.pe hn rfl rfl rfl ?_ | refine RunsD.pe rfl rfl ?_); first
 | refine ⟨_, pu_add rfl rfl (by omega), ?_⟩
 | refine ⟨_, pu_indexAddr_map rfl rfl (by omega) (by assumption), ?_⟩))
        all_goals first
          | exact rr_bool (decide_eq_false fun e => hxy (by rw [e, hy'] at hx'; injection hx' with hx'; exact hx'.symm)).symm
          | (exfalso; omega)
    · obtain rfl : j = a.length := by omega
      repeat' (first
 | refine RunsL.step tabOk hn rfl ?_
 | refine RunsL.nil ?_
 | refine Runs.toRegion 30 rfl ?_
 | (refine Runs.ctls 30 rfl ?_; first | ((first | refine Runs.cond_yes rfl ?_ ?_ | refine Runs.cond_nno rfl ?_ ?_); · first | omega | rfl | assumption | (simp only [List.length_map]; omega)) | ((first | refine Runs.cond_no rfl ?_ ?_ | refine Runs.cond_nyes rfl ?_ ?_); · first | omega | rfl | assumption | (simp only [List.length_map]; omega)) | refine Runs.ret (ends_ro hm rfl rfl ?_) | exact Runs.ret (ends_cellR hm rfl rfl rfl (Nat.le_of_ble_eq_true rfl) rfl rfl))
 | refine RunsD.step tabOk hn rfl rfl ?_
 | refine RunsD.nil ?_
 | refine Runs.toDraw 30 mixed hn rfl (by kernel_rfl) rfl ?_
 | ((first | refine RunsL.pe hn rfl rfl rfl ?_ | refine RunsD.pe rfl rfl ?_); first
 | refine ⟨_, pu_add rfl rfl (by omega), ?_⟩
 | refine ⟨_, pu_indexAddr_map rfl rfl (by omega) (by assumption), ?_⟩))
      exact rr_bool (decide_eq_true (by rw [List.take_length, hlen, List.take_length] at hQ; exact hQ)).symm
  · repeat' (first
 | refine RunsL.step tabOk hn rfl ?_
 | refine RunsL.nil ?_
 | refine Runs.toRegion 30 rfl ?_
 | (refine Runs.ctls 30 rfl ?_; first | ((first | refine Runs.cond_yes rfl ?_ ?_ | refine Runs.cond_nno rfl ?_ ?_); · first | omega | rfl | assumption | (simp only [List.length_map]; omega)) | ((first | refine Runs.cond_no rfl ?_ ?_ | refine Runs.cond_nyes rfl ?_ ?_); · first | omega | rfl | assumption | (simp only [List.length_map]; omega)) | refine Runs.ret (ends_ro hm rfl rfl ?_) | exact Runs.ret (ends_cellR hm rfl rfl rfl (Nat.le_of_ble_eq_true rfl) rfl rfl))
 | refine RunsD.step tabOk hn rfl rfl ?_
 | refine RunsD.nil ?_
 | refine Runs.toDraw 30 mixed hn rfl (by kernel_rfl) rfl ?_
 | ((first | refine RunsL.pe hn rfl rfl rfl ?_ | refine RunsD.pe rfl rfl ?_); first
 | refine ⟨_, pu_add rfl rfl (by omega), ?_⟩
 | refine ⟨_, pu_indexAddr_map rfl rfl (by omega) (by assumption), ?_⟩))
    all_goals exact rr_bool (decide_eq_false fun e => hlen (by rw [e])).symm
end Go.Proofs.Ytnecoghfhcimeaa
