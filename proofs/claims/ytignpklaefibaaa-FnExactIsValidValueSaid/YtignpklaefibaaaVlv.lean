/- Which values a rule has: both sides. -/
import Derived.Test.YtignpklaefibaaaItm
import Derived.Test.YtignpklaefibaaaMin
namespace Go.Proofs.Ytignpklaefibaaa
set_option linter.unusedSimpArgs false
set_option linter.unusedVariables false
open Go.RowKit
/-- The fields of a value are those of a rule (the law's words). -/
def OwnV (d : Des) (x : Rul) (v : Tre) : Prop :=
  if x.kind = 1 then (0 ≤ v.number ∧ v.number ≤ pow8 x.size - 1) ∧ v.bytes.length = 0 ∧ v.items.length = 0
  else if x.kind = 2 then v.number = 0 ∧ v.bytes.length = 0 ∧ v.items.length = 0
  else if x.kind = 3 then v.number = 0 ∧ (v.bytes.length : Int) = x.size ∧ v.items.length = 0
  else if x.kind = 4 then v.number = 0 ∧ (v.bytes.length : Int) ≤ mn 400 (lim d (x.kids.headD 0)) ∧ v.items.length = 0
  else if x.kind = 10 then v.number = 0 ∧ v.bytes.length ≤ 400 ∧ v.items.length = 0
  else if x.kind = 5 then v.number = 0 ∧ v.bytes.length = 0 ∧ (v.items.length : Int) ≤ mn 40 (lim d (x.kids.headD 0))
  else if x.kind = 6 then v.number = 0 ∧ v.bytes.length = 0 ∧ v.items.length = x.kids.length
  else if x.kind = 7 then v.bytes.length = 0 ∧ v.items.length = 1 ∧ 0 ≤ itemR x v.number 0
  else if x.kind = 8 then v.number = 0 ∧ v.bytes.length = 0 ∧ v.items.length ≤ 1
  else v.number = 0 ∧ v.bytes.length = 0 ∧ v.items.length = 1
noncomputable instance (d : Des) (x : Rul) (v : Tre) : Decidable (OwnV d x v) := Classical.propDecidable _
/-- The same, but a choice's number is only one of its integer. -/
def FitV (d : Des) (x : Rul) (v : Tre) : Prop :=
  if x.kind = 7 then v.bytes.length = 0 ∧ v.items.length = 1 ∧ 0 ≤ v.number ∧ v.number ≤ lim d (x.kids.headD 0) else OwnV d x v
noncomputable instance (d : Des) (x : Rul) (v : Tre) : Decidable (FitV d x v) := Classical.propDecidable _
theorem itemR_choice {d : Des} {x : Rul} (ht : TagsOk d x) (k7 : x.kind = 7) {n i : Int} (h : 0 ≤ itemR x n i) : 0 ≤ n ∧ n ≤ lim d (x.kids.headD 0) := by
  unfold itemR at h
  rw [if_neg (by omega), if_neg (by omega), if_pos k7] at h
  by_cases hl : tagIx x.tags n < x.tags.length
  · have := ht.2.2.2 _ _ (tagIx_at hl)
    exact ⟨this.1, this.2.1⟩
  · rw [getD_none (by have := ht.1; omega)] at h
    omega
theorem own_fit {d : Des} {x : Rul} {v : Tre} (hk : KindOk d x) : OwnV d x v ↔ FitV d x v ∧ (x.kind = 7 → 0 ≤ itemR x v.number 0) := by
  by_cases k7 : x.kind = 7
  · have ht := (item_fields hk).2.1 k7
    unfold FitV OwnV
    simp only [k7, if_true, true_implies, show ¬ (7 : Int) = 1 by decide, show ¬ (7 : Int) = 2 by decide, show ¬ (7 : Int) = 3 by decide, show ¬ (7 : Int) = 4 by decide, show ¬ (7 : Int) = 5 by decide, show ¬ (7 : Int) = 6 by decide, show ¬ (7 : Int) = 10 by decide, if_false]
    exact ⟨fun h => ⟨⟨h.1, h.2.1, itemR_choice ht k7 h.2.2⟩, h.2.2⟩, fun h => ⟨h.1.1, h.1.2.1, h.2⟩⟩
  · unfold FitV
    rw [if_neg k7]
    exact ⟨fun h => ⟨h, fun e => absurd e k7⟩, fun h => h.1⟩
/-- An item of a value whose fields fit has a rule. -/
theorem own_item {d : Des} {x : Rul} {v : Tre} (hG : Good' d) {r : Nat} (hx : d[r]? = some x) (h : OwnV d x v) {i : Nat} (hi : i < v.items.length) : 0 ≤ itemR x v.number i ∧ itemR x v.number i < r := by
  have hk := kind_at hG hx
  have hf := item_fields hk
  suffices hs : itemR x v.number i ≠ -1 by
    rcases itemR_lt hG hx v.number i with e | e
    · exact absurd e hs
    · exact e
  have key : ∀ k : Nat, k < x.kids.length → (x.kids[k]?).getD (-1) ≠ -1 := fun k hkl => by
    have hz : x.kids[k]? = some _ := List.getElem?_eq_getElem hkl
    have := kids_at hG hx hz
    rw [getD_some hz]; omega
  unfold OwnV at h
  by_cases k5 : x.kind = 5
  · unfold itemR
    rw [if_pos k5]
    exact key 1 (by have := hf.1 k5; omega)
  by_cases k6 : x.kind = 6
  · simp only [k6, if_true, show ¬ (6 : Int) = 1 by decide, show ¬ (6 : Int) = 2 by decide, show ¬ (6 : Int) = 3 by decide, show ¬ (6 : Int) = 4 by decide, show ¬ (6 : Int) = 5 by decide, show ¬ (6 : Int) = 10 by decide, if_false] at h
    unfold itemR
    rw [if_neg k5, if_pos k6]
    exact key _ (by omega)
  by_cases k7 : x.kind = 7
  · simp only [k7, if_true, show ¬ (7 : Int) = 1 by decide, show ¬ (7 : Int) = 2 by decide, show ¬ (7 : Int) = 3 by decide, show ¬ (7 : Int) = 4 by decide, show ¬ (7 : Int) = 5 by decide, show ¬ (7 : Int) = 6 by decide, show ¬ (7 : Int) = 10 by decide, if_false] at h
    have h0 := h.2.2
    unfold itemR at h0 ⊢
    rw [if_neg k5, if_neg k6, if_pos k7] at h0 ⊢
    omega
  by_cases k8 : x.kind = 8 ∨ x.kind = 9
  · unfold itemR
    rw [if_neg k5, if_neg k6, if_neg k7, if_pos k8]
    exact key 0 (by have := hf.2.2.1 k8; omega)
  · exfalso
    have hkk : x.kind = 1 ∨ x.kind = 2 ∨ x.kind = 3 ∨ x.kind = 4 ∨ x.kind = 10 := by
      unfold KindOk at hk
      rcases hk with hk | hk | hk | hk | hk | hk | hk | hk | hk
      all_goals omega
    rcases hkk with e | e | e | e | e
    all_goals
      simp only [e, if_true, show ¬ (2 : Int) = 1 by decide, show ¬ (3 : Int) = 1 by decide, show ¬ (3 : Int) = 2 by decide, show ¬ (4 : Int) = 1 by decide, show ¬ (4 : Int) = 2 by decide, show ¬ (4 : Int) = 3 by decide, show ¬ (10 : Int) = 1 by decide, show ¬ (10 : Int) = 2 by decide, show ¬ (10 : Int) = 3 by decide, show ¬ (10 : Int) = 4 by decide, if_false] at h
      omega
/-- A value is one of a rule. -/
inductive Vld (d : Des) : Nat → Tre → Prop
  | mk {r : Nat} {x : Rul} {v : Tre} (hx : d[r]? = some x) (ho : OwnV d x v) (hi : ∀ (i : Nat) y, v.items[i]? = some y → Vld d (itemR x v.number i).toNat y) : Vld d r v
theorem vld_iff {d : Des} {r : Nat} {x : Rul} {v : Tre} (hx : d[r]? = some x) : Vld d r v ↔ OwnV d x v ∧ ∀ (i : Nat) y, v.items[i]? = some y → Vld d (itemR x v.number i).toNat y := by
  refine ⟨fun h => ?_, fun h => .mk hx h.1 h.2⟩
  cases h with
  | mk hx' ho hi =>
    rw [hx] at hx'
    injection hx' with e
    subst e
    exact ⟨ho, hi⟩
noncomputable instance (d : Des) (r : Nat) (v : Tre) : Decidable (Vld d r v) := Classical.propDecidable _
end Go.Proofs.Ytignpklaefibaaa
