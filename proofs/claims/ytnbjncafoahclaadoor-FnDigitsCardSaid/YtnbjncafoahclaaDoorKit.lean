/- Opening the arguments of a law: a byte, an integer, a slice of bytes or of integers. -/
import Derived.Test.YtnbjncafoahclaaDoorMem
import Derived.ProofKit
import Derived.OpenShut
namespace Go.Proofs.YtnbjncafoahclaaDoor
set_option linter.unusedSimpArgs false
set_option linter.unusedVariables false
open Go.ChangeShapes Go.WideShapes Go.RowKit

theorem u8_of_wf {n : Int} (h : (Lit.int .u8 n).wf = true) : ∃ c : UInt8, n = (c.toNat : Int) := by
  have := bounds_u8 h
  refine ⟨UInt8.ofNat n.toNat, ?_⟩
  simp; omega
theorem u8s_of_wf : ∀ (zs : List Int), (∀ n ∈ zs, (Lit.int .u8 n).wf = true) → ∃ bs : List UInt8, zs = bs.map (fun c => (c.toNat : Int))
  | [], _ => ⟨[], rfl⟩
  | z :: zs, h => by
    obtain ⟨c, rfl⟩ := u8_of_wf (h z (by simp))
    obtain ⟨bs, rfl⟩ := u8s_of_wf zs (fun n hn => h n (by simp [hn]))
    exact ⟨c :: bs, rfl⟩

section
variable {H : Type} {enc : TypeId × Value → H} {P : Program} {w : World} {base b0 : Nat} {spare : Nat → Bool} {held : Bool} {r : Reach}
theorem addr_plain {x : Addr} {b : Value} (h : w.cell? (x.add 0) = some b) : x = ⟨x.block, x.off, none⟩ := by
  obtain ⟨bl, off, spot⟩ := x
  have : spot = none := by
    simp only [Addr.add, if_true, World.cell?] at h
    cases spot with
    | none => rfl
    | some s => split at h <;> simp at h
  subst this; rfl
theorem add_lit (b o j : Nat) : (⟨b, o, none⟩ : Addr).add j = ⟨b, o + j, none⟩ := by unfold Addr.add; split <;> simp_all
/-- The first len cells of a slice of integers that came in, at its address. -/
theorem rd_ints {k : IntKind} {x : Addr} {len cap : Nat} {zs : List Int} (hl : len ≤ cap) (hz : zs.length = len ∨ zs.length = cap)
    (hc : ∀ i, i < zs.length → w.cell? (x.add i) = some (.int k (zs.getD i 0))) : Rd w 1 (some x) len ((zs.take len).map (Value.int k)) := by
  refine ⟨by simp; omega, fun hn => ?_⟩
  have h0 := hc 0 (by omega)
  have hx := addr_plain h0
  refine ⟨x.block, x.off, by rw [← hx], fun j u hu => ?_⟩
  have hj : j < len := by
    rcases Nat.lt_or_ge j len with h | h
    · exact h
    · rw [List.getElem?_eq_none (by simp; omega)] at hu; cases hu
  have hjz : j < zs.length := by omega
  have h1 := hc j hjz
  rw [hx, add_lit] at h1
  rw [List.getElem?_map, List.getElem?_take, if_pos hj, List.getElem?_eq_getElem hjz] at hu
  rw [h1, ← hu]; simp [List.getD_eq_getElem?_getD, hjz]

theorem open_bytes {t e : TypeId} {v : Value} {d : DataW H} {p : List MemPlace} (ht : P.underlying t = some (.slice e)) (he : P.underlying e = some (.int .u8)) (hc : P.cellsOf e = 1)
    (hv : Value.okWide P w r b0 t v) (h : DataW.Trod enc P w base spare held t v d p) :
    ∃ (A : Option Addr) (n c : Nat) (bs : List UInt8), v = .slice A n c ∧ RdB w A n bs ∧ n ≤ c ∧ c ≤ maxLen := by
  obtain ⟨a, len, cap, rfl⟩ := okWide_slice ht hv
  obtain ⟨fuel, hf⟩ := h
  rcases open_ints ht he hc hf with ⟨hcs, _⟩ | ⟨x, l, c, zs, hcs, _, hl, hm, hz, _, hcell, hwz⟩
  · simp [Value.cells] at hcs
    obtain ⟨rfl, rfl, rfl⟩ := hcs
    exact ⟨_, _, _, [], rfl, Rd.nil _ _ _, Nat.le_refl _, Nat.zero_le _⟩
  · simp [Value.cells] at hcs
    obtain ⟨rfl, rfl, rfl⟩ := hcs
    have hR := rd_ints (w := w) (k := .u8) hl (by split at hz <;> simp [hz]) hcell
    obtain ⟨bs, hbs⟩ := u8s_of_wf (zs.take len) (fun n hn => hwz n (List.mem_of_mem_take hn))
    refine ⟨_, _, _, bs, rfl, ?_, hl, hm⟩
    rw [hbs, List.map_map] at hR
    exact hR
theorem open_intS {t e : TypeId} {v : Value} {d : DataW H} {p : List MemPlace} (ht : P.underlying t = some (.slice e)) (he : P.underlying e = some (.int .i64)) (hc : P.cellsOf e = 1)
    (hv : Value.okWide P w r b0 t v) (h : DataW.Trod enc P w base spare held t v d p) :
    ∃ (A : Option Addr) (n c : Nat) (zs : List Int), v = .slice A n c ∧ RdI w A n zs ∧ n ≤ c ∧ c ≤ maxLen ∧ ∀ z ∈ zs, -9223372036854775808 ≤ z ∧ z ≤ 9223372036854775807 := by
  obtain ⟨a, len, cap, rfl⟩ := okWide_slice ht hv
  obtain ⟨fuel, hf⟩ := h
  rcases open_ints ht he hc hf with ⟨hcs, _⟩ | ⟨x, l, c, zs, hcs, _, hl, hm, hz, _, hcell, hwz⟩
  · simp [Value.cells] at hcs
    obtain ⟨rfl, rfl, rfl⟩ := hcs
    exact ⟨_, _, _, [], rfl, Rd.nil _ _ _, Nat.le_refl _, Nat.zero_le _, by simp⟩
  · simp [Value.cells] at hcs
    obtain ⟨rfl, rfl, rfl⟩ := hcs
    exact ⟨_, _, _, zs.take len, rfl, rd_ints (w := w) (k := .i64) hl (by split at hz <;> simp [hz]) hcell, hl, hm, fun z hz => bounds_i64 (hwz z (List.mem_of_mem_take hz))⟩
end
end Go.Proofs.YtnbjncafoahclaaDoor
