/- The decimal digits of a number, one by one from the right: plain laws. -/
import Derived.Lib.ItoaNum
namespace Go.Proofs.YtnbjncafoahclaaDoor
set_option linter.unusedSimpArgs false
set_option linter.unusedVariables false
/-- The digits of what is left. -/
def digPre (x : Int) : List UInt8 := if x = 0 then [] else Lib.decDigits x.natAbs
theorem tdiv_abs (x : Int) : (x.tdiv 10).natAbs = x.natAbs / 10 := by
  rw [Int.natAbs_tdiv]; rfl
theorem tmod_abs (x : Int) : (x.tmod 10).natAbs = x.natAbs % 10 := by
  rw [Int.natAbs_tmod]; rfl
theorem digPre_step (x : Int) (hx : x ≠ 0) : digPre x = digPre (x.tdiv 10) ++ [UInt8.ofNat (48 + x.natAbs % 10)] := by
  have h1 := tdiv_abs x
  have hn : x.natAbs ≠ 0 := by omega
  unfold digPre
  rw [if_neg hx, Lib.decDigits]
  by_cases h : x.natAbs < 10
  · have h0 : x.tdiv 10 = 0 := by
      have : (x.tdiv 10).natAbs = 0 := by rw [h1]; omega
      omega
    rw [dif_pos h, if_pos h0, Nat.mod_eq_of_lt h]; rfl
  · have h0 : x.tdiv 10 ≠ 0 := by
      intro e
      rw [e] at h1
      simp only [Int.natAbs_zero] at h1
      omega
    rw [dif_neg h, if_neg h0, h1]
theorem itoa_zero : Lib.itoa 0 = [48] := by
  unfold Lib.itoa
  rw [if_neg (by decide), Lib.decDigits, dif_pos (by decide)]; rfl
theorem itoa_neg (n : Int) (h : n < 0) : Lib.itoa n = 45 :: digPre n := by
  unfold Lib.itoa digPre
  rw [if_pos h, if_neg (by omega)]
theorem itoa_pos (n : Int) (h : 0 < n) : Lib.itoa n = digPre n := by
  unfold Lib.itoa digPre
  rw [if_neg (by omega), if_neg (by omega), show n.toNat = n.natAbs by omega]
theorem digs_len : ∀ (k u : Nat), u < 10 ^ (k + 1) → (Lib.decDigits u).length ≤ k + 1
  | 0, u, h => by rw [Lib.decDigits, dif_pos (by simpa using h)]; simp
  | k + 1, u, h => by
    rw [Lib.decDigits]
    split
    · simp
    · rw [List.length_append]
      have := digs_len k (u / 10) (by rw [Nat.pow_succ] at h; omega)
      simp only [List.length_cons, List.length_nil]; omega
theorem itoa_len (n : Int) (h1 : -9223372036854775808 ≤ n) (h2 : n ≤ 9223372036854775807) : (Lib.itoa n).length ≤ 20 := by
  unfold Lib.itoa
  split
  · have := digs_len 18 n.natAbs (by omega)
    simp only [List.length_cons]; omega
  · have := digs_len 18 n.toNat (by omega)
    omega
end Go.Proofs.YtnbjncafoahclaaDoor
