/- hexValue, l2Digit: the value of a hexadecimal digit, or -1. -/
import Derived.Test.YtafmancgcnlbhaaBase
namespace Go.Proofs.Ytafmancgcnlbhaa
open Go.RowKit

def hexV (c : UInt8) : Int := if 48 ≤ c.toNat ∧ c.toNat ≤ 57 then (c.toNat : Int) - 48 else if 97 ≤ c.toNat ∧ c.toNat ≤ 102 then (c.toNat : Int) - 87 else -1
theorem hexV_bd (c : UInt8) : -1 ≤ hexV c ∧ hexV c ≤ 15 := by
  unfold hexV; split
  · omega
  · split <;> omega
theorem hexValue_any (c : UInt8) (w : World) : Calls Try.prog 34 #[u8v c] w fun e w' => e = .returned (.int .i64 (hexV c)) ∧ w = w' := by
  have hb : c.toNat < 256 := c.toNat_lt
  by_cases h1 : 48 ≤ c.toNat <;> by_cases h2 : c.toNat ≤ 57 <;> by_cases h3 : 97 ≤ c.toNat <;> by_cases h4 : c.toNat ≤ 102
  all_goals first
    | (exfalso; omega)
    | (have e : hexV c = if 48 ≤ c.toNat ∧ c.toNat ≤ 57 then (c.toNat : Int) - 48 else if 97 ≤ c.toNat ∧ c.toNat ≤ 102 then (c.toNat : Int) - 87 else -1 := rfl
       simp only [h1, h2, h3, h4, and_true, and_false, true_and, if_true, if_false] at e
       rw [e]; clear e
       go_enter Try.func34, Try.ntmps34
       go_wp2
       go_ret
       exact ⟨ret_i (by omega), rfl⟩)
theorem l2Digit_any (c : UInt8) (w : World) : Calls Try.prog 32 #[u8v c] w fun e w' => e = .returned (.int .i64 (hexV c)) ∧ w = w' := by
  have hb : c.toNat < 256 := c.toNat_lt
  by_cases h1 : 48 ≤ c.toNat <;> by_cases h2 : c.toNat ≤ 57 <;> by_cases h3 : 97 ≤ c.toNat <;> by_cases h4 : c.toNat ≤ 102
  all_goals first
    | (exfalso; omega)
    | (have e : hexV c = if 48 ≤ c.toNat ∧ c.toNat ≤ 57 then (c.toNat : Int) - 48 else if 97 ≤ c.toNat ∧ c.toNat ≤ 102 then (c.toNat : Int) - 87 else -1 := rfl
       simp only [h1, h2, h3, h4, and_true, and_false, true_and, if_true, if_false] at e
       rw [e]; clear e
       go_enter Try.func32, Try.ntmps32
       go_wp2
       go_ret
       exact ⟨ret_i (by omega), rfl⟩)
end Go.Proofs.Ytafmancgcnlbhaa
