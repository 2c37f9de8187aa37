/- Slices of integers, as the laws handle them: what came in, what is the law's own, the four helpers. -/
import Derived.Test.YtkkmmfgncdfcfaaInts
namespace Go.Proofs.Ytkkmmfgncdfcfaa
open Go.RowKit

def RawI (w : World) (v : Value) (bs : List Int) : Prop := ∃ A n c, v = .slice A n c ∧ RdI w A n bs ∧ n ≤ c ∧ c ≤ maxLen
abbrev LgI (bs : List Int) : Prop := bs.length ≤ 4194304
def OkI (w : World) (lo hi : Nat) (v : Value) (bs : List Int) : Prop := ∃ A n c, v = .slice A n c ∧ OwnIn w lo hi 3 1 (.slice A n c) n (bs.map i64v)
def MkI (w : World) (lo hi : Nat) (v : Value) (k k' : Int) : Prop := ∃ n : Nat, k' = k + n ∧ n ≤ 4194304 ∧ OkI w lo hi v (marksI k n)
theorem RawI.len {w : World} {A : Option Addr} {n c : Nat} {bs : List Int} (h : RawI w (.slice A n c) bs) : bs.length = n := by
  obtain ⟨A', n', c', e, hr, _⟩ := h
  injection e with _ e2 _
  rw [hr.len, e2]
theorem RawI.below {w w' : World} {v : Value} {bs : List Int} (h : RawI w v bs) (hb : Below w.heap.size w w') : RawI w' v bs := by
  obtain ⟨A, n, c, e, hr, hc⟩ := h; exact ⟨A, n, c, e, hr.below hb, hc⟩
theorem OkI.raw {w : World} {lo hi : Nat} {v : Value} {bs : List Int} (h : OkI w lo hi v bs) : RawI w v bs := by
  obtain ⟨A, n, c, e, hr⟩ := h
  obtain ⟨A', c', e', h1, h2, h3⟩ := own_form hr.1
  injection e' with e1 e2 e3; subst e1; subst e3
  exact ⟨A, n, c, e, Rd.of_own hr.1, h1, h2⟩
theorem OkI.stays (lo hi : Nat) (v : Value) (bs : List Int) : Stays lo hi (fun w => OkI w lo hi v bs) := by
  rintro w w' hs ⟨A, n, c, e, hr⟩; exact ⟨A, n, c, e, OwnIn.stays lo hi _ _ _ _ _ w w' hs hr⟩
theorem MkI.stays (lo hi : Nat) (v : Value) (k k' : Int) : Stays lo hi (fun w => MkI w lo hi v k k') := by
  rintro w w' hs ⟨n, e, hn, hr⟩; exact ⟨n, e, hn, OkI.stays lo hi _ _ w w' hs hr⟩
theorem OkI.of {w w' : World} {A : Option Addr} {n c : Nat} {bs : List Int} (h : OwnI w' w.heap.size (.slice A n c) n bs) : OkI w' w.heap.size w'.heap.size (.slice A n c) bs := ⟨A, n, c, rfl, OwnIn.of h⟩

theorem OkI.wider {w : World} {lo hi lo' hi' : Nat} {v : Value} {bs : List Int} (h : OkI w lo hi v bs) (h1 : lo' ≤ lo) (h2 : hi ≤ hi') : OkI w lo' hi' v bs := by
  obtain ⟨A, n, c, e, hr⟩ := h; exact ⟨A, n, c, e, hr.wider h1 h2⟩
theorem okI_empty (w : World) (e : TypeId) (he : e = 3) : OkI (w.alloc (.cells #[] e)) w.heap.size (w.heap.size + 1) (.slice (some ⟨w.heap.size, 0, none⟩) 0 0) [] := by
  subst he
  exact ⟨_, _, _, rfl, World.ownsRow_made w #[] 0 (Nat.le_refl _) (Nat.zero_le _) rfl, fun k hk => by simp [Value.ownBlock] at hk; omega⟩
theorem I_to (w : World) (v : Value) (bs : List Int) (h : RawI w v bs) (hl : LgI bs) :
    Calls Try.prog 58 #[v] w fun e w' => ∃ v', e = .returned v' ∧ OkI w' w.heap.size w'.heap.size v' bs ∧ Below w.heap.size w w' := by
  obtain ⟨A, n, c, rfl, hr, _⟩ := h
  refine (toIntS_any A n c bs w hr (by have := hr.len; unfold LgI at hl; omega)).mono ?_
  rintro e w' ⟨rfl, h1, h2⟩
  exact ⟨_, rfl, OkI.of h1, h2⟩
theorem I_eq (w : World) (a b : Value) (bs : List Int) (ha : RawI w a bs) (hb : RawI w b bs) (hl : LgI bs) :
    Calls Try.prog 60 #[a, b] w fun e w' => e = .returned (.bool true) ∧ Below w.heap.size w w' := by
  obtain ⟨A, n, c, rfl, hr, _⟩ := ha
  obtain ⟨B, m, d, rfl, hr', _⟩ := hb
  refine (eqIntS_same A B n m c d bs w hr hr' (by have := hr.len; unfold LgI at hl; omega)).mono ?_
  rintro e w' ⟨rfl, h2⟩
  exact ⟨rfl, h2.below _⟩
end Go.Proofs.Ytkkmmfgncdfcfaa
