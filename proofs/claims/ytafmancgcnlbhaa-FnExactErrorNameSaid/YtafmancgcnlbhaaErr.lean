/- ErrorName of both packages: the name of a code. -/
import Derived.Test.YtafmancgcnlbhaaBase
namespace Go.Proofs.Ytafmancgcnlbhaa
open Go.RowKit

/-- The names of the codes 0 to 8. -/
def errNames : List ByteArray := [⟨#[111, 107]⟩, ⟨#[115, 104, 111, 114, 116]⟩, ⟨#[99, 111, 110, 115, 116]⟩, ⟨#[116, 97, 103]⟩, ⟨#[102, 108, 97, 103]⟩, ⟨#[115, 117, 109]⟩, ⟨#[99, 111, 117, 110, 116]⟩, ⟨#[116, 114, 97, 105, 108, 105, 110, 103]⟩, ⟨#[114, 117, 108, 101]⟩]
def errName (c : Int) : ByteArray := if 0 ≤ c ∧ c ≤ 8 then errNames.getD c.toNat ⟨#[]⟩ else ⟨#[]⟩
theorem errName_out {c : Int} (h : ¬ (0 ≤ c ∧ c ≤ 8)) : errName c = ⟨#[]⟩ := if_neg h
theorem below_allocs {w : World} (o : Obj) : Below w.heap.size w (w.alloc o) := (Below.refl _ _).alloc (Nat.le_refl _) o

set_option maxHeartbeats 1000000 in
theorem impl_ErrorName (w : World) (c : Int) (hc : I64 c) :
    Calls Try.prog 11 #[.int .i64 c] w fun e w' => e = .returned (.string (errName c)) ∧ Below w.heap.size w w' := by
  by_cases h : 0 ≤ c ∧ c ≤ 8
  · have hs : c = 0 ∨ c = 1 ∨ c = 2 ∨ c = 3 ∨ c = 4 ∨ c = 5 ∨ c = 6 ∨ c = 7 ∨ c = 8 := by omega
    rcases hs with rfl | rfl | rfl | rfl | rfl | rfl | rfl | rfl | rfl
    all_goals
      go_enter Try.func11, Try.ntmps11
      go_wp2_with fail
      refine (inRange_any _ _ _ _).mono ?_
      rintro e w' ⟨rfl, rfl⟩
      rw [inR_t (by omega)]
      go_wp2
      go_ret
      exact ⟨rfl, below_allocs _⟩
  · rw [errName_out h]
    go_enter Try.func11, Try.ntmps11
    go_wp2_with fail
    refine (inRange_any _ _ _ _).mono ?_
    rintro e w' ⟨rfl, rfl⟩
    rw [inR_f (by omega)]
    go_wp2
    go_ret
    exact ⟨rfl, Below.refl _ _⟩
set_option maxHeartbeats 1000000 in
theorem spec_ErrorName (w : World) (c : Int) (hc : I64 c) :
    Calls Try.prog 10 #[.int .i64 c] w fun e w' => e = .returned (.string (errName c)) ∧ Below w.heap.size w w' := by
  by_cases h : 0 ≤ c ∧ c ≤ 8
  · have hs : c = 0 ∨ c = 1 ∨ c = 2 ∨ c = 3 ∨ c = 4 ∨ c = 5 ∨ c = 6 ∨ c = 7 ∨ c = 8 := by omega
    rcases hs with rfl | rfl | rfl | rfl | rfl | rfl | rfl | rfl | rfl
    all_goals
      go_enter Try.func10, Try.ntmps10
      go_wp2_with fail
      refine (l1In_any _ _ _ _).mono ?_
      rintro e w' ⟨rfl, rfl⟩
      rw [inR_t (by omega)]
      go_wp2
      go_ret
      exact ⟨rfl, below_allocs _⟩
  · rw [errName_out h]
    go_enter Try.func10, Try.ntmps10
    go_wp2_with fail
    refine (l1In_any _ _ _ _).mono ?_
    rintro e w' ⟨rfl, rfl⟩
    rw [inR_f (by omega)]
    go_wp2
    go_ret
    exact ⟨rfl, below_allocs _⟩
end Go.Proofs.Ytafmancgcnlbhaa
