/- With which bytes an encoding can begin: both sides. -/
import Derived.Test.YtcifgbmmnkilfaaEnd
import Derived.Test.YtcifgbmmnkilfaaUsr
namespace Go.Proofs.Ytcifgbmmnkilfaa
set_option linter.unusedSimpArgs false
set_option linter.unusedVariables false
open Go.RowKit
/-- Byte b can start an encoding of rule r (f: how deep one looks). -/
noncomputable def stB (d : Des) : Nat → Nat → Nat → Bool
  | 0, _, _ => true
  | f + 1, r, b => match d[r]? with
    | none => true
    | some x => if x.kind = 2 then decide (b = (x.bytes.headD 0).toNat)
      else if x.kind = 6 ∨ x.kind = 9 then stB d f (x.kids.headD 0).toNat b
      else if x.kind = 7 then (match d[(x.kids.headD 0).toNat]? with
        | some y => x.tags.any fun t => decide (b = ((encI y t).headD 0).toNat)
        | none => true)
      else if x.kind = 8 then decide (b < 2)
      else true
theorem stB_at {d : Des} {f r b : Nat} {x : Rul} (h : d[r]? = some x) : stB d (f + 1) r b = (if x.kind = 2 then decide (b = (x.bytes.headD 0).toNat)
      else if x.kind = 6 ∨ x.kind = 9 then stB d f (x.kids.headD 0).toNat b
      else if x.kind = 7 then (match d[(x.kids.headD 0).toNat]? with
        | some y => x.tags.any fun t => decide (b = ((encI y t).headD 0).toNat)
        | none => true)
      else if x.kind = 8 then decide (b < 2)
      else true) := by rw [stB, h]
theorem good_at {d : Des} (hG : Good' d) {r : Nat} {x : Rul} (h : d[r]? = some x) : KindOk d x := by
  have hi := (List.getElem?_eq_some_iff.1 h).1
  obtain ⟨_, x', h1, h2⟩ := hG.2.2 r hi
  rw [show ((r : Nat) : Int).toNat = r by rfl, h] at h1; injection h1 with h1; subst h1
  exact h2.2.2.2
theorem head_kid {d : Des} (hG : Good' d) {r : Nat} {x : Rul} (h : d[r]? = some x) (hl : 0 < x.kids.length) : 0 ≤ x.kids.headD 0 ∧ x.kids.headD 0 < r :=
  good_kid hG h (j := 0) (head_at hl)
theorem stB_deep {d : Des} (hG : Good' d) {b : Nat} : ∀ (r : Nat), r < d.length → ∀ f, r < f → stB d f r b = stB d (r + 1) r b := by
  intro r
  induction r using Nat.strongRecOn with
  | _ r ih =>
    intro hr f hf
    obtain ⟨g, rfl⟩ : ∃ g, f = g + 1 := ⟨f - 1, by omega⟩
    obtain ⟨x, hx⟩ : ∃ x, d[r]? = some x := ⟨_, List.getElem?_eq_getElem hr⟩
    rw [stB_at hx, stB_at hx]
    by_cases h69 : x.kind = 6 ∨ x.kind = 9
    · have hkl : 0 < x.kids.length := by
        have hk := good_at hG hx
        unfold KindOk at hk
        rcases h69 with h | h
        · simp only [h] at hk
          simp only [show ¬ (6 : Int) = 1 by decide, show ¬ (6 : Int) = 2 by decide, show ¬ (6 : Int) = 3 by decide, show ¬ (6 : Int) = 4 by decide, show ¬ (6 : Int) = 5 by decide, show ¬ (6 : Int) = 7 by decide, show ¬ (6 : Int) = 8 by decide, show ¬ (6 : Int) = 9 by decide, show ¬ (6 : Int) = 10 by decide, false_and, false_or, or_false, true_and] at hk
          have := hk.1.kids (by omega); have := hk.2.1; omega
        · simp only [h] at hk
          simp only [show ¬ (9 : Int) = 1 by decide, show ¬ (9 : Int) = 2 by decide, show ¬ (9 : Int) = 3 by decide, show ¬ (9 : Int) = 4 by decide, show ¬ (9 : Int) = 5 by decide, show ¬ (9 : Int) = 7 by decide, show ¬ (9 : Int) = 8 by decide, show ¬ (9 : Int) = 6 by decide, show ¬ (9 : Int) = 10 by decide, false_and, false_or, or_false, true_and, or_true] at hk
          have := hk.kids (by omega); omega
      have hk := head_kid hG hx hkl
      have e1 := ih (x.kids.headD 0).toNat (by omega) (by omega) g (by omega)
      have e2 := ih (x.kids.headD 0).toNat (by omega) (by omega) r (by omega)
      rw [e1, e2]
    · rw [if_neg h69, if_neg h69]
/-- What the kind of a rule of a valid description says of its fields. -/
theorem good_fields {d : Des} (hG : Good' d) {r : Nat} {x : Rul} (h : d[r]? = some x) :
    (x.kind = 2 → 0 < x.bytes.length) ∧ (x.kind = 6 ∨ x.kind = 9 ∨ x.kind = 8 ∨ x.kind = 4 ∨ x.kind = 5 ∨ x.kind = 7 → 0 < x.kids.length) ∧ (x.kind = 7 → TagsOk d x) := by
  have hk := good_at hG h
  unfold KindOk at hk
  refine ⟨fun e => ?_, fun e => ?_, fun e => ?_⟩
  · rcases hk with hk | hk | hk | hk | hk | hk | hk | hk | hk
    all_goals first | omega | (have := hk.2.2.1; omega)
  · rcases hk with hk | hk | hk | hk | hk | hk | hk | hk | hk
    all_goals first
      | omega
      | (have := hk.2.1.kids (by omega); have := hk.2.2.1; omega)
      | (have := hk.2.2.1; omega)
      | (have := hk.2.1.kids (by omega); omega)
      | (have := hk.2.kids (by omega); omega)
  · rcases hk with hk | hk | hk | hk | hk | hk | hk | hk | hk
    all_goals first | omega | exact hk.2.2
/-- The integer of a choice, and the bytes of its tags. -/
theorem tag_bytes {d : Des} (hG : Good' d) {r : Nat} {x : Rul} (h : d[r]? = some x) (h7 : x.kind = 7) : ∃ y, d[(x.kids.headD 0).toNat]? = some y ∧ 0 ≤ x.kids.headD 0 ∧ (x.kids.headD 0).toNat < d.length ∧ ∀ (i : Nat) t, x.tags[i]? = some t → 0 < (encI y t).length := by
  obtain ⟨_, hkl, ht⟩ := good_fields hG h
  have hk0 := head_kid hG h (hkl (.inr (.inr (.inr (.inr (.inr h7))))))
  have hr := (List.getElem?_eq_some_iff.1 h).1
  obtain ⟨y, hy⟩ : ∃ y, d[(x.kids.headD 0).toNat]? = some y := ⟨_, List.getElem?_eq_getElem (by omega)⟩
  refine ⟨y, hy, hk0.1, by omega, fun i t hi => ?_⟩
  have htt := (ht h7).2.2.2 i t hi
  have hlim : lim d (x.kids.headD 0) = if 0 ≤ x.kids.headD 0 ∧ y.kind = 1 ∧ 1 ≤ y.size ∧ y.size ≤ 4 then pow8 y.size - 1 else -1 := by unfold lim; rw [hy]
  by_cases hc : 0 ≤ x.kids.headD 0 ∧ y.kind = 1 ∧ 1 ≤ y.size ∧ y.size ≤ 4
  · rw [if_pos hc] at hlim
    have hf : Fit t y.size := ⟨hc.2.2.1, hc.2.2.2, htt.1, by omega⟩
    have hbl : 0 < (be t y.size).length := by unfold be; split <;> (try split) <;> (try split) <;> simp
    unfold encI
    split
    · rw [List.length_reverse, encBE_yes hf]; exact hbl
    · rw [encBE_yes hf]; exact hbl
  · rw [if_neg hc] at hlim; omega
theorem boolsR_congr {n : Nat} {u v : Nat → Bool} (h : ∀ j, j < n → u j = v j) : boolsR n u = boolsR n v := by
  unfold boolsR
  exact List.map_congr_left fun j hj => by rw [h j (List.mem_range.1 hj)]
theorem bools_congr {n : Nat} {u v : Nat → Bool} (h : ∀ j, j < n → u j = v j) : bools n u = bools n v := by rw [bools_map, bools_map, boolsR_congr h]
end Go.Proofs.Ytcifgbmmnkilfaa
