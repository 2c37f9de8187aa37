/- Valid rules, valid descriptions: the reference's side. -/
import Derived.Test.YtnbjncafoahclaaDoorKnd
namespace Go.Proofs.YtnbjncafoahclaaDoor
set_option linter.unusedSimpArgs false
set_option linter.unusedVariables false
open Go.RowKit
/-- A rule stands at its place as it has to. -/
def RuleOk (d : Des) (n : Nat) (r : Rul) : Prop := (∀ (k : Nat) x, k < n → d[k]? = some x → ¬ x.name = r.name) ∧ (∀ (k : Nat) z, r.kids[k]? = some z → 0 ≤ z ∧ z < n) ∧ IsNm r.name ∧ KindOk d r
def RuleAt (d : Des) (i : Int) : Prop := 0 ≤ i ∧ ∃ r, d[i.toNat]? = some r ∧ RuleOk d i.toNat r
noncomputable instance (d : Des) (i : Int) : Decidable (RuleAt d i) := Classical.propDecidable _
theorem ruleAt_iff {d : Des} {i : Int} {r : Rul} (h0 : 0 ≤ i) (h : d[i.toNat]? = some r) : RuleAt d i ↔ RuleOk d i.toNat r :=
  ⟨fun ⟨_, r', h1, h2⟩ => by rw [h] at h1; injection h1 with h1; subst h1; exact h2, fun h2 => ⟨h0, r, h, h2⟩⟩
/-- A description that is valid. -/
def Good' (d : Des) : Prop := 1 ≤ d.length ∧ d.length ≤ 24 ∧ ∀ j : Nat, j < d.length → RuleAt d j
noncomputable instance (d : Des) : Decidable (Good' d) := Classical.propDecidable _
end Go.Proofs.YtnbjncafoahclaaDoor
