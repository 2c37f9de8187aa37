/- Slices of bytes, as the laws handle them: what came in, what is the law's own, the four helpers. -/
import Derived.Test.YtafmancgcnlbhaaBytes
namespace Go.Proofs.Ytafmancgcnlbhaa
open Go.RowKit

def RawB (w : World) (v : Value) (bs : List UInt8) : Prop := ∃ A n c, v = .slice A n c ∧ RdB w A n bs ∧ n ≤ c ∧ c ≤ maxLen
abbrev LgB (bs : List UInt8) : Prop := bs.length ≤ 4194304
def OkB (w : World) (lo hi : Nat) (v : Value) (bs : List UInt8) : Prop := ∃ A n c, v = .slice A n c ∧ OwnIn w lo hi 5 1 (.slice A n c) n (bs.map u8v)
def MkB (w : World) (lo hi : Nat) (v : Value) (k k' : Int) : Prop := ∃ n : Nat, k' = k + n ∧ n ≤ 4194304 ∧ OkB w lo hi v (marksB k n)
theorem RawB.len {w : World} {A : Option Addr} {n c : Nat} {bs : List UInt8} (h : RawB w (.slice A n c) bs) : bs.length = n := by
  obtain ⟨A', n', c', e, hr, _⟩ := h
  injection e with _ e2 _
  rw [hr.len, e2]
theorem RawB.below {w w' : World} {v : Value} {bs : List UInt8} (h : RawB w v bs) (hb : Below w.heap.size w w') : RawB w' v bs := by
  obtain ⟨A, n, c, e, hr, hc⟩ := h; exact ⟨A, n, c, e, hr.below hb, hc⟩
theorem OkB.raw {w : World} {lo hi : Nat} {v : Value} {bs : List UInt8} (h : OkB w lo hi v bs) : RawB w v bs := by
  obtain ⟨A, n, c, e, hr⟩ := h
  obtain ⟨A', c', e', h1, h2, h3⟩ := own_form hr.1
  injection e' with e1 e2 e3; subst e1; subst e3
  exact ⟨A, n, c, e, Rd.of_own hr.1, h1, h2⟩
theorem OkB.stays (lo hi : Nat) (v : Value) (bs : List UInt8) : Stays lo hi (fun w => OkB w lo hi v bs) := by
  rintro w w' hs ⟨A, n, c, e, hr⟩; exact ⟨A, n, c, e, OwnIn.stays lo hi _ _ _ _ _ w w' hs hr⟩
theorem MkB.stays (lo hi : Nat) (v : Value) (k k' : Int) : Stays lo hi (fun w => MkB w lo hi v k k') := by
  rintro w w' hs ⟨n, e, hn, hr⟩; exact ⟨n, e, hn, OkB.stays lo hi _ _ w w' hs hr⟩
theorem OkB.of {w w' : World} {A : Option Addr} {n c : Nat} {bs : List UInt8} (h : OwnB w' w.heap.size (.slice A n c) n bs) : OkB w' w.heap.size w'.heap.size (.slice A n c) bs := ⟨A, n, c, rfl, OwnIn.of h⟩

theorem OkB.wider {w : World} {lo hi lo' hi' : Nat} {v : Value} {bs : List UInt8} (h : OkB w lo hi v bs) (h1 : lo' ≤ lo) (h2 : hi ≤ hi') : OkB w lo' hi' v bs := by
  obtain ⟨A, n, c, e, hr⟩ := h; exact ⟨A, n, c, e, hr.wider h1 h2⟩
theorem okB_empty (w : World) (e : TypeId) (he : e = 5) : OkB (w.alloc (.cells #[] e)) w.heap.size (w.heap.size + 1) (.slice (some ⟨w.heap.size, 0, none⟩) 0 0) [] := by
  subst he
  exact ⟨_, _, _, rfl, World.ownsRow_made w #[] 0 (Nat.le_refl _) (Nat.zero_le _) rfl, fun k hk => by simp [Value.ownBlock] at hk; omega⟩
theorem B_to (w : World) (v : Value) (bs : List UInt8) (h : RawB w v bs) (hl : LgB bs) :
    Calls Try.prog 15 #[v] w fun e w' => ∃ v', e = .returned v' ∧ OkB w' w.heap.size w'.heap.size v' bs ∧ Below w.heap.size w w' := by
  obtain ⟨A, n, c, rfl, hr, _⟩ := h
  refine (toByteS_any A n c bs w hr (by have := hr.len; unfold LgB at hl; omega)).mono ?_
  rintro e w' ⟨rfl, h1, h2⟩
  exact ⟨_, rfl, OkB.of h1, h2⟩
theorem B_eq (w : World) (a b : Value) (bs : List UInt8) (ha : RawB w a bs) (hb : RawB w b bs) (hl : LgB bs) :
    Calls Try.prog 17 #[a, b] w fun e w' => e = .returned (.bool true) ∧ Below w.heap.size w w' := by
  obtain ⟨A, n, c, rfl, hr, _⟩ := ha
  obtain ⟨B, m, d, rfl, hr', _⟩ := hb
  refine (eqByteS_same A B n m c d bs w hr hr' (by have := hr.len; unfold LgB at hl; omega)).mono ?_
  rintro e w' ⟨rfl, h2⟩
  exact ⟨rfl, h2.below _⟩
theorem B_mark (w : World) (lo hi : Nat) (v : Value) (bs : List UInt8) (k : Int) (h : OkB w lo hi v bs) (hl : LgB bs) (hk0 : 0 ≤ k) (hk1 : k ≤ 4611686018427387904) :
    Calls Try.prog 18 #[v, .int .i64 k] w fun e w' => ∃ k', e = .returned (.int .i64 k') ∧ k ≤ k' ∧ k' ≤ k + 4194304 ∧ MkB w' lo hi v k k' ∧ Chg lo hi w w' := by
  obtain ⟨A, n, c, rfl, hr, hk⟩ := h
  have hn : n ≤ 4194304 := by have := OwnB.len hr; unfold LgB at hl; omega
  refine (markByteS_own A n c lo bs k w hr hn hk0 hk1).mono ?_
  rintro e w' ⟨rfl, h1, h2⟩
  refine ⟨_, rfl, by omega, by omega, ⟨n, rfl, hn, _, _, _, rfl, h1, hk⟩, ?_⟩
  cases hb : Value.ownBlock (.slice A n c) with
  | none => rw [hb] at h2; exact ⟨h2.os, h2.tape, h2.output, h2.size, fun b hb' _ => h2.block b hb' (by simp)⟩
  | some g => rw [hb] at h2; exact Chg.of_grown h2 (hr.lt g hb).1 (hk g hb)
theorem B_held (w : World) (lo hi : Nat) (v : Value) (k k' : Int) (h : MkB w lo hi v k k') (hk0 : 0 ≤ k) (hk1 : k ≤ 4611686018427387904) :
    Calls Try.prog 19 #[v, .int .i64 k] w fun e w' => e = .returned (.int .i64 k') ∧ Below w.heap.size w w' := by
  obtain ⟨n, rfl, hn, A, m, c, rfl, hr⟩ := h
  have hm : n = m := by have := OwnB.len hr.1; rw [marksB_len] at this; exact this
  subst hm
  refine (heldByteS_marks A n c k w (Rd.of_own hr.1) hn hk0 hk1).mono ?_
  rintro e w' ⟨rfl, h2⟩
  exact ⟨rfl, h2.below _⟩
end Go.Proofs.Ytafmancgcnlbhaa
