/- Gathered texts. -/
import Derived.Test.YtnecoghfhcimeaaGat0
import Derived.Test.YtnecoghfhcimeaaGat1
import Derived.Test.YtnecoghfhcimeaaGat2
import Derived.Test.YtnecoghfhcimeaaGat3
import Derived.Test.YtnecoghfhcimeaaGat4
import Derived.Test.YtnecoghfhcimeaaGat5
/- What the machine does: plain. -/
namespace Go.Proofs.Ytnecoghfhcimeaa
set_option linter.unusedSimpArgs false
set_option linter.unusedVariables false
open Go.RowKit
def mFail (m : Mch) (c : Int) : Mch := { m with state := 2, code := c }
def mNext (m : Mch) : Mch := { m with pc := w64 (m.pc + 1) }
def mBegin (m : Mch) (l : Int) : Mch := if l = 0 then mNext m else { m with started := true, left := l }
def mPush (m : Mch) (n nx : Int) : Mch := if 60 ≤ m.stack.length then mFail m 8 else { m with stack := m.stack ++ [n], pc := nx }
def mTop (m : Mch) : Int := (m.stack[m.stack.length - 1]?).getD 0
def mDrop (m : Mch) : Mch := { m with stack := m.stack.take (m.stack.length - 1) }
def mLoop (m : Mch) (a : Int) : Mch :=
  if m.stack.length = 0 then mFail m 8
  else if mTop m = 0 then { mDrop m with pc := a }
  else { m with stack := m.stack.set (m.stack.length - 1) (w64 (mTop m - 1)), pc := w64 (m.pc + 1) }
def mBack (m : Mch) : Mch := if m.stack.length = 0 then mFail m 8 else { mDrop m with pc := mTop m }
def mPerf (m : Mch) (i : Ins) : Mch :=
  if i.op = 1 then mBegin { m with register := 0 } i.a
  else if i.op = 3 then mBegin m i.a
  else if i.op = 4 then mBegin m m.register
  else if i.op = 2 ∨ i.op = 13 ∨ i.op = 16 then mBegin m 1
  else if i.op = 5 then (if i.a < m.register then mFail m 6 else mNext m)
  else if i.op = 6 then mPush m m.register (w64 (m.pc + 1))
  else if i.op = 7 then mLoop m i.a
  else if i.op = 8 then { m with pc := i.a }
  else if i.op = 9 then mPush m (w64 (m.pc + 1)) i.a
  else if i.op = 10 then mBack m
  else if i.op = 11 then (if m.register = i.a then { m with pc := i.b } else mNext m)
  else if i.op = 12 then mFail m i.a
  else if i.op = 14 then (if 30 ≤ m.sums.length then mFail m 8 else { mNext m with sums := m.sums ++ [0] })
  else if i.op = 15 then (if m.sums.length = 0 then mFail m 8 else mBegin m 1)
  else if i.op = 17 then { m with state := 1 }
  else m
abbrev MRun (m : Mch) : Prop := m.state = 0 ∧ m.started = false
def mAt (p : Prg) (m : Mch) : Ins := (p.code[m.pc.toNat]?).getD ⟨0, 0, 0⟩
def mRes (p : Prg) : Nat → Mch → Mch
  | 0, m => if MRun m then mFail m 8 else m
  | n + 1, m => if MRun m then (if Idx p m.pc then mRes p n (mPerf m (mAt p m)) else mFail m 8) else m
def mIt (p : Prg) (m : Mch) : Nat → Mch
  | 0 => m
  | j + 1 => mPerf (mIt p m j) (mAt p (mIt p m j))
def mAdv (p : Prg) (fits : Bool) (m : Mch) : Mch :=
  if m.state ≠ 0 then m else if fits = false ∨ (m.started = true ∧ ¬ Idx p m.pc) then mFail m 8 else mRes p 100001 m
def mSkip (m : Mch) : Mch := if m.left = 0 then { m with started := false, pc := w64 (m.pc + 1) } else m
def mCount (m : Mch) (b : Int) : Mch := { m with sums := m.sums.map fun z => (w64 (z + b)).tmod 256, read := w64 (m.read + 1), left := w64 (m.left - 1) }
def mRead (m : Mch) (i : Ins) (b : Int) : Mch :=
  if i.op = 1 then mSkip { m with register := if i.b = 1 then w64 (m.register + b * 2 ^ (8 * (i.a - m.left - 1)).toNat) else w64 (w64 (256 * m.register) + b) }
  else if i.op = 13 then (if 1 < b then mFail m 4 else if m.left ≠ 0 then m else { m with started := false, pc := if b = 0 then i.a else w64 (m.pc + 1) })
  else if i.op = 16 then (if m.escaped = false ∧ b = i.a then mSkip m else { m with escaped := !m.escaped && decide (b = 92), left := 1 })
  else if i.op = 2 then (if b ≠ i.a then mFail m 2 else mSkip m)
  else mSkip m
def mTake (m : Mch) (i : Ins) (b : Int) : Mch :=
  if i.op = 15 then (if (m.sums[m.sums.length - 1]?).getD 0 ≠ b then mFail m 5 else mRead (mCount { m with sums := m.sums.take (m.sums.length - 1) } b) i b)
  else mRead (mCount m b) i b
def mByte (p : Prg) (m : Mch) (b : Int) : Mch :=
  if ((mAt p m).op = 1 ∧ ¬ InR m.left 1 (mAt p m).a) ∨ ((mAt p m).op = 15 ∧ m.sums.length = 0) then mFail m 8 else mTake m (mAt p m) b
def mFeed (p : Prg) (fits : Bool) (m : Mch) (b : Int) : Mch :=
  if (mAdv p fits m).state = 1 then mFail (mAdv p fits m) 7 else if (mAdv p fits m).state ≠ 0 then mAdv p fits m else mByte p (mAdv p fits m) b
def mFin (m : Mch) : Int := if m.state = 1 then 0 else if m.state = 0 then 1 else m.code
def m0 : Mch := ⟨0, 0, [], [], 0, false, false, 0, 0, 0⟩
theorem mRes_it {p : Prg} {m : Mch} {n j : Nat} (hj : j < n) (h : mRes p n m = mRes p (n - j) (mIt p m j)) (hr : MRun (mIt p m j)) (hi : Idx p (mIt p m j).pc) : mRes p n m = mRes p (n - (j + 1)) (mIt p m (j + 1)) := by
  rw [h, show n - j = n - (j + 1) + 1 by omega, mRes, if_pos hr, if_pos hi]
  rfl
theorem mRes_stop {p : Prg} {m : Mch} {n j : Nat} (h : mRes p n m = mRes p (n - j) (mIt p m j)) (hr : ¬ MRun (mIt p m j)) : mRes p n m = mIt p m j := by
  rw [h]
  cases n - j with
  | zero => rw [mRes, if_neg hr]
  | succ k => rw [mRes, if_neg hr]
theorem mRes_out {p : Prg} {m : Mch} {n j : Nat} (h : mRes p n m = mRes p (n - j) (mIt p m j)) (hr : MRun (mIt p m j)) (hi : ¬ Idx p (mIt p m j).pc ∨ j = n) : mRes p n m = mFail (mIt p m j) 8 := by
  rw [h]
  rcases hi with hi | rfl
  · cases n - j with
    | zero => rw [mRes, if_pos hr]
    | succ k => rw [mRes, if_pos hr, if_neg hi]
  · rw [Nat.sub_self, mRes, if_pos hr]
theorem ite_pred {α : Type} {P : α → Prop} {c : Prop} [Decidable c] {a b : α} (ha : c → P a) (hb : ¬ c → P b) : P (if c then a else b) := by
  by_cases h : c
  · rw [if_pos h]; exact ha h
  · rw [if_neg h]; exact hb h
def MLen (m : Mch) : Prop := m.stack.length ≤ 1048576 ∧ m.sums.length ≤ 1048576
theorem mFail_len {m : Mch} {c : Int} (h : MLen m) : MLen (mFail m c) := h
theorem mBegin_len {m : Mch} {c : Int} (h : MLen m) : MLen (mBegin m c) := by unfold mBegin; split <;> exact h
theorem mPush_len {m : Mch} {c d : Int} (h : MLen m) : MLen (mPush m c d) := by
  unfold mPush; split
  · exact h
  · exact ⟨by simp only [List.length_append, List.length_singleton]; omega, h.2⟩
theorem mDrop_len {m : Mch} {a : Int} (h : MLen m) : MLen { mDrop m with pc := a } := ⟨by have := h.1; simp only [mDrop, List.length_take]; omega, h.2⟩
theorem mLoop_len {m : Mch} {a : Int} (h : MLen m) : MLen (mLoop m a) := by
  unfold mLoop; split
  · exact h
  split
  · exact mDrop_len h
  · exact ⟨by simp only [List.length_set]; exact h.1, h.2⟩
theorem mBack_len {m : Mch} (h : MLen m) : MLen (mBack m) := by
  unfold mBack; split
  · exact h
  · exact mDrop_len h
theorem mPerf_len {m : Mch} {i : Ins} (h : MLen m) : MLen (mPerf m i) := by
  unfold mPerf
  refine ite_pred (fun _ => mBegin_len (m := { m with register := 0 }) h) fun _ => ?_
  refine ite_pred (fun _ => mBegin_len h) fun _ => ?_
  refine ite_pred (fun _ => mBegin_len h) fun _ => ?_
  refine ite_pred (fun _ => mBegin_len h) fun _ => ?_
  refine ite_pred (fun _ => ite_pred (fun _ => h) fun _ => h) fun _ => ?_
  refine ite_pred (fun _ => mPush_len h) fun _ => ?_
  refine ite_pred (fun _ => mLoop_len h) fun _ => ?_
  refine ite_pred (fun _ => h) fun _ => ?_
  refine ite_pred (fun _ => mPush_len h) fun _ => ?_
  refine ite_pred (fun _ => mBack_len h) fun _ => ?_
  refine ite_pred (fun _ => ite_pred (fun _ => h) fun _ => h) fun _ => ?_
  refine ite_pred (fun _ => h) fun _ => ?_
  refine ite_pred (fun _ => ite_pred (fun _ => h) fun _ => ⟨h.1, by simp only [mNext, List.length_append, List.length_singleton]; omega⟩) fun _ => ?_
  refine ite_pred (fun _ => ite_pred (fun _ => h) fun _ => mBegin_len h) fun _ => ?_
  exact ite_pred (fun _ => h) fun _ => h
theorem mRes_len {p : Prg} : ∀ (n : Nat) {m : Mch}, MLen m → MLen (mRes p n m)
  | 0, m, h => by unfold mRes; split <;> exact h
  | n + 1, m, h => by
    unfold mRes
    split
    · split
      · exact mRes_len n (mPerf_len h)
      · exact h
    · exact h
theorem mIt_len {p : Prg} {m : Mch} (h : MLen m) : ∀ j, MLen (mIt p m j)
  | 0 => h
  | j + 1 => mPerf_len (mIt_len h j)
theorem mAdv_len {p : Prg} {f : Bool} {m : Mch} (h : MLen m) : MLen (mAdv p f m) := by
  unfold mAdv
  split
  · exact h
  split
  · exact h
  · exact mRes_len _ h
theorem mSkip_len {m : Mch} (h : MLen m) : MLen (mSkip m) := by unfold mSkip; split <;> exact h
theorem mCount_len {m : Mch} {b : Int} (h : MLen m) : MLen (mCount m b) := ⟨h.1, by simp only [mCount, List.length_map]; exact h.2⟩
theorem mRead_len {m : Mch} {i : Ins} {b : Int} (h : MLen m) : MLen (mRead m i b) := by
  unfold mRead
  split
  · exact mSkip_len (m := { m with register := _ }) h
  split
  · split
    · exact h
    split <;> exact h
  split
  · split
    · exact mSkip_len h
    · exact h
  split
  · split
    · exact h
    · exact mSkip_len h
  · exact mSkip_len h
theorem mTake_len {m : Mch} {i : Ins} {b : Int} (h : MLen m) : MLen (mTake m i b) := by
  unfold mTake
  split
  · split
    · exact h
    · exact mRead_len (mCount_len (m := { m with sums := _ }) ⟨h.1, by have := h.2; simp only [List.length_take]; omega⟩)
  · exact mRead_len (mCount_len h)
theorem mByte_len {p : Prg} {m : Mch} {b : Int} (h : MLen m) : MLen (mByte p m b) := by
  unfold mByte
  split
  · exact h
  · exact mTake_len h
theorem mFeed_len {p : Prg} {f : Bool} {m : Mch} {b : Int} (h : MLen m) : MLen (mFeed p f m b) := by
  unfold mFeed
  split
  · exact mFail_len (mAdv_len h)
  split
  · exact mAdv_len h
  · exact mByte_len (mAdv_len h)
def MIdx (p : Prg) (m : Mch) : Prop := m.started = true → Idx p m.pc
theorem mBegin_idx {p : Prg} {m : Mch} {l : Int} (h : m.started = false) (hi : Idx p m.pc) : MIdx p (mBegin m l) := by
  unfold mBegin
  split
  · intro h'; simp only [mNext] at h'; rw [h] at h'; cases h'
  · exact fun _ => hi
theorem not_idx {p : Prg} {m : Mch} (h : m.started = false) : MIdx p m := fun h' => by rw [h] at h'; cases h'
theorem mPush_started {m : Mch} {n nx : Int} : (mPush m n nx).started = m.started := by unfold mPush; split <;> rfl
theorem mLoop_started {m : Mch} {n : Int} : (mLoop m n).started = m.started := by unfold mLoop; split; rfl; split <;> rfl
theorem mBack_started {m : Mch} : (mBack m).started = m.started := by unfold mBack; split <;> rfl
theorem mPerf_idx {p : Prg} {m : Mch} {i : Ins} (h : m.started = false) (hi : Idx p m.pc) : MIdx p (mPerf m i) := by
  unfold mPerf
  refine ite_pred (fun _ => mBegin_idx (m := { m with register := 0 }) h hi) fun _ => ?_
  refine ite_pred (fun _ => mBegin_idx h hi) fun _ => ?_
  refine ite_pred (fun _ => mBegin_idx h hi) fun _ => ?_
  refine ite_pred (fun _ => mBegin_idx h hi) fun _ => ?_
  refine ite_pred (fun _ => ite_pred (fun _ => not_idx h) fun _ => not_idx h) fun _ => ?_
  refine ite_pred (fun _ => not_idx (mPush_started.trans h)) fun _ => ?_
  refine ite_pred (fun _ => not_idx (mLoop_started.trans h)) fun _ => ?_
  refine ite_pred (fun _ => not_idx h) fun _ => ?_
  refine ite_pred (fun _ => not_idx (mPush_started.trans h)) fun _ => ?_
  refine ite_pred (fun _ => not_idx (mBack_started.trans h)) fun _ => ?_
  refine ite_pred (fun _ => ite_pred (fun _ => not_idx h) fun _ => not_idx h) fun _ => ?_
  refine ite_pred (fun _ => not_idx h) fun _ => ?_
  refine ite_pred (fun _ => ite_pred (fun _ => not_idx h) fun _ => not_idx h) fun _ => ?_
  refine ite_pred (fun _ => ite_pred (fun _ => not_idx h) fun _ => mBegin_idx h hi) fun _ => ?_
  exact ite_pred (fun _ => not_idx h) fun _ => not_idx h
theorem mRes_idx {p : Prg} : ∀ (n : Nat) {m : Mch}, MIdx p m → (mRes p n m).state = 0 → (mRes p n m).started = true ∧ Idx p (mRes p n m).pc
  | 0, m, h, h0 => by
    unfold mRes at h0 ⊢
    split at h0
    · cases h0
    · rename_i hr
      rw [if_neg hr]
      have hs : m.started = true := by
        cases hb : m.started with
        | true => rfl
        | false => exact absurd ⟨h0, hb⟩ hr
      exact ⟨hs, h hs⟩
  | n + 1, m, h, h0 => by
    unfold mRes at h0 ⊢
    by_cases hr : MRun m
    · rw [if_pos hr] at h0 ⊢
      by_cases hi : Idx p m.pc
      · rw [if_pos hi] at h0 ⊢
        exact mRes_idx n (mPerf_idx hr.2 hi) h0
      · rw [if_neg hi] at h0; cases h0
    · rw [if_neg hr] at h0 ⊢
      have hs : m.started = true := by
        cases hb : m.started with
        | true => rfl
        | false => exact absurd ⟨h0, hb⟩ hr
      exact ⟨hs, h hs⟩
theorem mAdv_idx {p : Prg} {f : Bool} {m : Mch} (h0 : (mAdv p f m).state = 0) : f = true ∧ (mAdv p f m).started = true ∧ Idx p (mAdv p f m).pc := by
  unfold mAdv at h0 ⊢
  by_cases hs : m.state ≠ 0
  · rw [if_pos hs] at h0; exact absurd h0 hs
  · rw [if_neg hs] at h0 ⊢
    by_cases hf : f = false ∨ (m.started = true ∧ ¬ Idx p m.pc)
    · rw [if_pos hf] at h0; cases h0
    · rw [if_neg hf] at h0 ⊢
      refine ⟨?_, mRes_idx _ (fun hs => ?_) h0⟩
      · cases f with
        | true => rfl
        | false => exact absurd (.inl rfl) hf
      · exact Classical.byContradiction fun hi => hf (.inr ⟨hs, hi⟩)
end Go.Proofs.Ytnecoghfhcimeaa
/- The machine's own methods, but for those that take a byte. -/
namespace Go.Proofs.Ytnecoghfhcimeaa
set_option linter.unusedSimpArgs false
set_option linter.unusedVariables false
open Go.RowKit
open AV (Mem Keeps)
set_option maxRecDepth 100000
def mO (m : Mch) : List Ob := [⟨74, 0, [.int m.pc, .int m.register, .own 1, .own 2, .int m.left, .bool m.started, .bool m.escaped, .int m.state, .int m.code, .int m.read]⟩, ⟨3, 1, (m.stack.map RV.int).map .ro⟩, ⟨3, 1, (m.sums.map RV.int).map .ro⟩]
theorem onlysr (p : Nat → Prop) : ∀ rs : List RV, AV.onlys p (rs.map .ro)
  | [] => by simp [AV.onlys]
  | r :: rs => by simp only [List.map_cons, AV.onlys, AV.only]; exact ⟨trivial, onlysr p rs⟩
theorem mO_free (m : Mch) : FreeO 3 (mO m) := by
  simp only [mO, FreeO]
  exact ⟨by simp [AV.onlys, AV.only], onlysr _ _, onlysr _ _, trivial⟩
theorem mO_app {m m' : Mch} {more : List Ob} (h : m = m') : mO m ++ more = mO m' ++ more := by rw [h]
theorem Runs.endP {P : Program} {C : Ctx} {fn : Func} {gs : Nat → Nat} {env : Env} {σ σ' more : List Ob} {t : Nat} (hp : look env t = .pin 0 0 (gs 0)) (hσ : σ = σ' ++ more) (hl : 0 < σ'.length) (hc : FreeO σ'.length σ') (hr : fn.results = #[]) :
    Runs P C [] (EndsA P C fn gs [0] σ' (.tup [])) ⟨env, σ⟩ :=
  Runs.shed (E' := [(t, .pin 0 0 (gs 0))]) ⟨hp, trivial⟩ hσ ⟨by simpa only [AV.only] using hl, trivial⟩ hc (Runs.end_ (endsA0 (fun i hi => by simp at hi; subst hi; exact ⟨t, 0, by simp [look]⟩) hr rfl))
theorem mO_end {P : Program} {C : Ctx} {fn : Func} {gs : Nat → Nat} {env : Env} {σ more : List Ob} {m : Mch} {t : Nat} (hp : look env t = .pin 0 0 (gs 0)) (hσ : σ = mO m ++ more) (hr : fn.results = #[]) : Runs P C [] (EndsA P C fn gs [0] (mO m) (.tup [])) ⟨env, σ⟩ :=
  Runs.endP hp hσ (by simp [mO]) (mO_free m) hr
theorem mO_ret {P : Program} {C : Ctx} {fn : Func} {gs : Nat → Nat} {env : Env} {σ more : List Ob} {m : Mch} {k : List Item} {t : Nat} (hp : look env t = .pin 0 0 (gs 0)) (hσ : σ = mO m ++ more) (hr : fn.results = #[]) : Runs P C (.code .ret :: k) (EndsA P C fn gs [0] (mO m) (.tup [])) ⟨env, σ⟩ :=
  Runs.shed (E' := [(t, .pin 0 0 (gs 0))]) ⟨hp, trivial⟩ hσ ⟨by simp [AV.only, mO], trivial⟩ (mO_free m) (Runs.ret (endsA0 (fun i hi => by simp at hi; subst hi; exact ⟨t, 0, by simp [look]⟩) hr rfl))
theorem failWith_am (m : Mch) (c : Int) : AM Try.prog 144 (mO m) [0] [.obj 0 0, .int c] (mO (mFail m c)) (.tup []) := by
  refine am_enter Try.func144 rfl _ Try.ntmps144 (by simp) (by simp) fun C gs hn => ?_
  repeat' (first
 | refine RunsL.step tabOk hn rfl ?_
 | refine RunsL.nil ?_
 | refine Runs.toRegion 30 rfl ?_
 | (refine RunsL.pe hn rfl rfl rfl ?_; first
 | refine ⟨_, pu_nilCheckP rfl, ?_⟩)
 | (refine Runs.ctls 30 rfl ?_; first | ((first | refine Runs.cond_yes rfl ?_ ?_ | refine Runs.cond_nno rfl ?_ ?_); · first | omega | rfl | assumption | (simp only [List.length_map]; omega)) | ((first | refine Runs.cond_no rfl ?_ ?_ | refine Runs.cond_nyes rfl ?_ ?_); · first | omega | rfl | assumption | (simp only [List.length_map]; omega)) )
 | refine op_storeF rfl rfl rfl rfl (Nat.le_of_ble_eq_true rfl) ?_
    )
  · refine Runs.ctls 30 rfl ?_
    first | refine mO_end (t := 0) (more := []) rfl ?_ rfl | refine mO_ret (t := 0) (more := []) rfl ?_ rfl
    rfl
theorem begin_am (m : Mch) (l : Int) : AM Try.prog 186 (mO m) [0] [.obj 0 0, .int l] (mO (mBegin m l)) (.tup []) := by
  refine am_enter Try.func186 rfl _ Try.ntmps186 (by simp) (by simp) fun C gs hn => ?_
  repeat' (first
 | refine RunsL.step tabOk hn rfl ?_
 | refine RunsL.nil ?_
 | refine Runs.toRegion 30 rfl ?_
 | (refine RunsL.pe hn rfl rfl rfl ?_; first
 | refine ⟨_, pu_nilCheckP rfl, ?_⟩
 | refine ⟨_, pu_addW rfl rfl, ?_⟩)
 | (refine Runs.ctls 30 rfl ?_; first | ((first | refine Runs.cond_yes rfl ?_ ?_ | refine Runs.cond_nno rfl ?_ ?_); · first | omega | rfl | assumption | (simp only [List.length_map]; omega)) | ((first | refine Runs.cond_no rfl ?_ ?_ | refine Runs.cond_nyes rfl ?_ ?_); · first | omega | rfl | assumption | (simp only [List.length_map]; omega)) | refine Runs.cond_dec rfl (fun h => ?_) (fun h => ?_) )
 | refine op_storeF rfl rfl rfl rfl (Nat.le_of_ble_eq_true rfl) ?_
    )
  · refine Runs.ctls 30 rfl ?_
    first | refine mO_end (t := 0) (more := []) rfl ?_ rfl | refine mO_ret (t := 0) (more := []) rfl ?_ rfl
    unfold mBegin; rw [if_pos (by assumption)]; rfl
  · refine Runs.ctls 30 rfl ?_
    first | refine mO_end (t := 0) (more := []) rfl ?_ rfl | refine mO_ret (t := 0) (more := []) rfl ?_ rfl
    unfold mBegin; rw [if_neg (by assumption)]; rfl
theorem push_am (m : Mch) (a b : Int)(hm : MLen m) : AM Try.prog 187 (mO m) [0] [.obj 0 0, .int a, .int b] (mO (mPush m a b)) (.tup []) := by
  refine am_enter Try.func187 rfl _ Try.ntmps187 (by simp) (by simp) fun C gs hn => ?_
  have hl : ((m.stack.map RV.int).map AV.ro).length = m.stack.length * 1 := by simp
  have h1 := hm.1
  repeat' (first
 | refine op_callP 3 (failWith_am m 8) rfl (by simp [AV.onlys, AV.only]) (by simp [AV.only, AV.onlys]) rfl rfl rfl (mO_free _) (mO_free _) rfl (by first | exact trivial | exact ⟨rfl, trivial⟩ | exact ⟨rfl, rfl, trivial⟩ | exact ⟨rfl, rfl, rfl, trivial⟩ | exact ⟨rfl, rfl, rfl, rfl, trivial⟩) (fun t h => by injection h with h; subst h; exact tl hn rfl) ?_
 | refine RunsL.junk 0 2 rfl (op_append (n := m.stack.length) (i := 1) rfl rfl rfl rfl rfl rfl (by simp) (FreeI.at_ (i := 1) ⟨by simp [AV.onlys, AV.only], onlysr _ _, onlysr _ _, trivial⟩) (by simp; omega) (by simp; omega) (tl hn rfl) ?_)
 | refine RunsL.step tabOk hn rfl ?_
 | refine RunsL.nil ?_
 | refine Runs.toRegion 30 rfl ?_
 | (refine RunsL.pe hn rfl rfl rfl ?_; first
 | refine ⟨_, pu_nilCheckP rfl, ?_⟩
 | refine ⟨_, pu_len_own (n := m.stack.length) rfl rfl hl, ?_⟩
      )
 | (refine Runs.ctls 30 rfl ?_; first | ((first | refine Runs.cond_yes rfl ?_ ?_ | refine Runs.cond_nno rfl ?_ ?_); · first | omega | rfl | assumption | (simp only [List.length_map]; omega)) | ((first | refine Runs.cond_no rfl ?_ ?_ | refine Runs.cond_nyes rfl ?_ ?_); · first | omega | rfl | assumption | (simp only [List.length_map]; omega)) | refine Runs.cond_dec rfl (fun h => ?_) (fun h => ?_) )
 | refine op_storeF rfl rfl rfl rfl (Nat.le_of_ble_eq_true rfl) ?_
 | (refine RunsL.pe hn rfl rfl rfl ?_; first
 | refine ⟨_, pu_build rfl rfl rfl rfl rfl rfl, ?_⟩))
  · refine Runs.ctls 30 rfl ?_
    first | refine mO_end (t := 0) (more := []) rfl ?_ rfl | refine mO_ret (t := 0) (more := []) rfl ?_ rfl
    exact mO_app (by unfold mPush; rw [if_pos (by omega)])
  · refine Runs.ctls 30 rfl ?_
    first | refine mO_end (t := 0) (more := []) rfl ?_ rfl | refine mO_ret (t := 0) (more := []) rfl ?_ rfl
    skip
    rw [show mPush m a b = { m with stack := m.stack ++ [a], pc := b } from by unfold mPush; rw [if_neg (by omega)]]
    unfold mO
    rw [List.map_append (f := RV.int)]
    rfl
theorem top_no (m : Mch) (h0 : m.stack.length = 0) : AM Try.prog 196 (mO m) [0] [.obj 0 0] (mO (mFail m 8)) (.tup [.ro (.c (.pointer none)), .bool false]) := by
  refine am_enter Try.func196 rfl _ Try.ntmps196 (by simp) (by simp) fun C gs hn => ?_
  have hl : ((m.stack.map RV.int).map AV.ro).length = m.stack.length * 1 := by simp
  repeat' (first
 | refine op_callP 3 (failWith_am m 8) rfl (by simp [AV.onlys, AV.only]) (by simp [AV.only, AV.onlys]) rfl rfl rfl (mO_free _) (mO_free _) rfl (by first | exact trivial | exact ⟨rfl, trivial⟩ | exact ⟨rfl, rfl, trivial⟩ | exact ⟨rfl, rfl, rfl, trivial⟩ | exact ⟨rfl, rfl, rfl, rfl, trivial⟩) (fun t h => by injection h with h; subst h; exact tl hn rfl) ?_
 | refine RunsL.step tabOk hn rfl ?_
 | refine RunsL.nil ?_
 | refine Runs.toRegion 30 rfl ?_
 | ((first | refine RunsL.pe hn rfl rfl rfl ?_ | refine RunsD.pe rfl rfl ?_); first
 | refine ⟨_, pu_nilCheckP rfl, ?_⟩
 | refine ⟨_, pu_len_own (n := m.stack.length) rfl rfl hl, ?_⟩)
 | (refine Runs.ctls 30 rfl ?_; first | ((first | refine Runs.cond_yes rfl ?_ ?_ | refine Runs.cond_nno rfl ?_ ?_); · first | omega | rfl | assumption | (simp only [List.length_map]; omega)) | ((first | refine Runs.cond_no rfl ?_ ?_ | refine Runs.cond_nyes rfl ?_ ?_); · first | omega | rfl | assumption | (simp only [List.length_map]; omega)) | refine Runs.ret (ends_ro hm rfl rfl ?_) | exact Runs.ret (ends_cellR hm rfl rfl rfl (Nat.le_of_ble_eq_true rfl) rfl rfl))
 | ((first | refine RunsL.pe hn rfl rfl rfl ?_ | refine RunsD.pe rfl rfl ?_); first
 | refine ⟨_, pu_add rfl rfl (by omega), ?_⟩
 | refine ⟨_, pu_indexAddr_map rfl rfl (by omega) (by assumption), ?_⟩
 | refine ⟨_, pu_sub rfl rfl (by omega), ?_⟩
 | refine ⟨_, pu_pick_b rfl rfl rfl, ?_⟩
 | refine ⟨_, pu_mul rfl rfl (by omega), ?_⟩
 | refine ⟨_, pu_build rfl rfl rfl rfl rfl rfl, ?_⟩))
  refine Runs.ctls 30 rfl ?_
  exact Runs.ret (endsA2 (fun i hi => by simp at hi; subst hi; exact ⟨0, 0, rfl⟩) rfl rfl rfl (List.append_nil _))
theorem mTop_at {m : Mch} (h : m.stack.length ≠ 0) : m.stack[m.stack.length - 1]? = some (mTop m) := by
  obtain ⟨z, hz⟩ : ∃ z, m.stack[m.stack.length - 1]? = some z := ⟨_, List.getElem?_eq_getElem (by omega)⟩
  unfold mTop
  rw [hz]
  rfl
theorem top_yes (m : Mch) (h0 : m.stack.length ≠ 0) (hb : m.stack.length ≤ 1048576) : AM Try.prog 196 (mO m) [0] [.obj 0 0] (mO m) (.tup [.obj 1 (m.stack.length - 1), .bool true]) := by
  refine am_enter Try.func196 rfl _ Try.ntmps196 (by simp) (by simp) fun C gs hn => ?_
  have hl : ((m.stack.map RV.int).map AV.ro).length = m.stack.length * 1 := by simp
  repeat' (first
 | refine RunsL.step tabOk hn rfl ?_
 | refine RunsL.nil ?_
 | refine Runs.toRegion 30 rfl ?_
 | ((first | refine RunsL.pe hn rfl rfl rfl ?_ | refine RunsD.pe rfl rfl ?_); first
 | refine ⟨_, pu_nilCheckP rfl, ?_⟩
 | refine ⟨_, pu_len_own (n := m.stack.length) rfl rfl hl, ?_⟩
 | refine ⟨_, pu_indexAddr_own (n := m.stack.length) (sz := 1) rfl rfl rfl rfl hl (by omega) (by omega), ?_⟩
 | refine ⟨_, pu_sub rfl rfl (by omega), ?_⟩)
 | (refine Runs.ctls 30 rfl ?_; first | ((first | refine Runs.cond_yes rfl ?_ ?_ | refine Runs.cond_nno rfl ?_ ?_); · first | omega | rfl | assumption | (simp only [List.length_map]; omega)) | ((first | refine Runs.cond_no rfl ?_ ?_ | refine Runs.cond_nyes rfl ?_ ?_); · first | omega | rfl | assumption | (simp only [List.length_map]; omega)) | refine Runs.ret (ends_ro hm rfl rfl ?_) | exact Runs.ret (ends_cellR hm rfl rfl rfl (Nat.le_of_ble_eq_true rfl) rfl rfl))
 | refine RunsD.step tabOk hn rfl rfl ?_
 | refine RunsD.nil ?_
 | refine Runs.toDraw 30 mixed hn rfl (by kernel_rfl) rfl ?_
 | ((first | refine RunsL.pe hn rfl rfl rfl ?_ | refine RunsD.pe rfl rfl ?_); first
 | refine ⟨_, pu_add rfl rfl (by omega), ?_⟩
 | refine ⟨_, pu_indexAddr_map rfl rfl (by omega) (by assumption), ?_⟩
 | refine ⟨_, pu_sub rfl rfl (by omega), ?_⟩
 | refine ⟨_, pu_pick_b rfl rfl rfl, ?_⟩
 | refine ⟨_, pu_mul rfl rfl (by omega), ?_⟩
 | refine ⟨_, pu_build rfl rfl rfl rfl rfl rfl, ?_⟩))
  refine Runs.ctls 30 rfl ?_
  refine Runs.ret (endsA2 (fun i hi => by simp at hi; subst hi; exact ⟨0, 0, rfl⟩) rfl ?_ rfl rfl)
  show AV.obj 1 (m.stack.length - 1) = AV.obj 1 (((m.stack.length : Int) - 1).toNat * 1)
  rw [show ((m.stack.length : Int) - 1).toNat * 1 = m.stack.length - 1 by omega]
theorem loop_am (m : Mch) (i : Ins)(hm : MLen m) : AM Try.prog 188 (mO m) [0] [.obj 0 0, .ro (.agg (insR i))] (mO (mLoop m i.a)) (.tup []) := by
  refine am_enter Try.func188 rfl _ Try.ntmps188 (by simp) (by simp) fun C gs hn => ?_
  have hl : ((m.stack.map RV.int).map AV.ro).length = m.stack.length * 1 := by simp
  have hb := hm.1
  by_cases h0 : m.stack.length = 0
  · have hT := top_no m h0
    repeat' (first
 | refine op_callP (d := some 8) 3 (hT) rfl (by simp [AV.onlys, AV.only]) (by simp [AV.only, AV.onlys]) rfl rfl rfl (mO_free _) (mO_free _) rfl (by first | exact trivial | exact ⟨rfl, trivial⟩ | exact ⟨rfl, rfl, trivial⟩ | exact ⟨rfl, rfl, rfl, trivial⟩ | exact ⟨rfl, rfl, rfl, rfl, trivial⟩) (fun t h => by injection h with h; subst h; exact tl hn rfl) ?_
 | refine RunsL.step tabOk hn rfl ?_
 | refine RunsL.nil ?_
 | refine Runs.toRegion 30 rfl ?_
 | ((first | refine RunsL.pe hn rfl rfl rfl ?_ | refine RunsD.pe rfl rfl ?_); first
 | refine ⟨_, pu_nilCheckP rfl, ?_⟩)
 | (refine Runs.ctls 30 rfl ?_; first | refine Runs.cond_t rfl ?_ | refine Runs.cond_f rfl ?_ | ((first | refine Runs.cond_yes rfl ?_ ?_ | refine Runs.cond_nno rfl ?_ ?_); · first | omega | rfl | assumption | (simp only [List.length_map]; omega)) | ((first | refine Runs.cond_no rfl ?_ ?_ | refine Runs.cond_nyes rfl ?_ ?_); · first | omega | rfl | assumption | (simp only [List.length_map]; omega)) | refine Runs.cond_dec rfl (fun h => ?_) (fun h => ?_) )
 | refine op_box rfl (tl hn rfl) ?_
 | refine op_storeF rfl rfl rfl rfl (Nat.le_of_ble_eq_true rfl) ?_
 | ((first | refine RunsL.pe hn rfl rfl rfl ?_ | refine RunsD.pe rfl rfl ?_); first
 | refine ⟨_, pu_add rfl rfl (by omega), ?_⟩
 | refine ⟨_, pu_indexAddr_map rfl rfl (by omega) (by assumption), ?_⟩
 | refine ⟨_, pu_sub rfl rfl (by omega), ?_⟩
 | refine ⟨_, pu_pick_b rfl rfl rfl, ?_⟩
 | refine ⟨_, pu_mul rfl rfl (by omega), ?_⟩
 | refine ⟨_, pu_build rfl rfl rfl rfl rfl rfl, ?_⟩))
    refine Runs.ctls 30 rfl ?_
    refine mO_end (t := 0) (more := [⟨59, 0, (insR i).map .ro⟩]) rfl ?_ rfl
    exact mO_app (by unfold mLoop; rw [if_pos h0])
  · have hT := top_yes m h0 hb
    have hz := mTop_at h0
    have hz' : ((m.stack.map RV.int).map AV.ro)[m.stack.length - 1]? = some (.ro (.int (mTop m))) := by simp [hz]
    repeat' (first
 | refine op_callP (d := some 8) 3 (hT) rfl (by simp [AV.onlys, AV.only]) (by simp [AV.only, AV.onlys]) rfl rfl rfl (mO_free _) (mO_free _) rfl (by first | exact trivial | exact ⟨rfl, trivial⟩ | exact ⟨rfl, rfl, trivial⟩ | exact ⟨rfl, rfl, rfl, trivial⟩ | exact ⟨rfl, rfl, rfl, rfl, trivial⟩) (fun t h => by injection h with h; subst h; exact tl hn rfl) ?_
 | refine Runs.toDrawT (id := 6) 30 [0] [1, 2, 3, 4, 5, 6, 7, 8, 9, 10] 11 [] mixed hn rfl (by kernel_rfl) rfl (.cons rfl .nil) (by decide) (by decide) (by decide) ?_
 | refine RunsL.junk 0 2 rfl (op_cut (i := 1) (n := m.stack.length) (q := (m.stack.length : Int) - 1) rfl rfl rfl rfl hl (by omega) (by omega) (by omega) (by repeat' (first | exact trivial | exact onlysr _ _ | exact (by decide : (2 : Nat) ≠ 1) | refine And.intro ?_ ?_)) (fun j v hj => onlys_mem (onlysr _ _) j v hj) (tl hn rfl) ?_)
 | refine op_storeF rfl rfl rfl rfl (by simp; omega) ?_
 | refine RunsT.nil ?_
 | refine RunsT.step tabOk rfl rfl (fun _ => rfl) (by decide) ?_
 | refine RunsT.pur (fun _ => pu_nilCheckP rfl) (by decide) rfl rfl ?_
 | refine RunsT.pur (fun _ => pu_nilCheckO rfl) (by decide) rfl rfl ?_
 | refine RunsT.pur (fun _ => pu_load_obj rfl rfl hz') (by decide) rfl rfl ?_
 | refine RunsT.pur (fun _ => pu_len_own (n := m.stack.length) rfl rfl hl) (by decide) rfl rfl ?_
 | refine RunsT.pur (fun _ => pu_sub rfl rfl (by omega)) (by decide) rfl rfl ?_
 | refine RunsT.pur (fun _ => pu_subW rfl rfl) (by decide) rfl rfl ?_
 | refine RunsT.pur (fun _ => pu_addW rfl rfl) (by decide) rfl rfl ?_
 | refine RunsL.step tabOk hn rfl ?_
 | refine RunsL.nil ?_
 | refine Runs.toRegion 30 rfl ?_
 | ((first | refine RunsL.pe hn rfl rfl rfl ?_ | refine RunsD.pe rfl rfl ?_); first
 | refine ⟨_, pu_nilCheckP rfl, ?_⟩
 | refine ⟨_, pu_nilCheckO rfl, ?_⟩
 | refine ⟨_, pu_load_obj rfl rfl hz', ?_⟩
 | refine ⟨_, pu_len_own (n := m.stack.length) rfl rfl hl, ?_⟩
 | refine ⟨_, pu_sub rfl rfl (by omega), ?_⟩
 | refine ⟨_, pu_subW rfl rfl, ?_⟩
 | refine ⟨_, pu_addW rfl rfl, ?_⟩)
 | (refine Runs.ctls 30 rfl ?_; first | refine Runs.cond_t rfl ?_ | refine Runs.cond_f rfl ?_ | ((first | refine Runs.cond_yes rfl ?_ ?_ | refine Runs.cond_nno rfl ?_ ?_); · first | omega | rfl | assumption | (simp only [List.length_map]; omega)) | ((first | refine Runs.cond_no rfl ?_ ?_ | refine Runs.cond_nyes rfl ?_ ?_); · first | omega | rfl | assumption | (simp only [List.length_map]; omega)) | refine Runs.cond_dec rfl (fun h => ?_) (fun h => ?_) )
 | refine op_box rfl (tl hn rfl) ?_
 | refine op_storeF rfl rfl rfl rfl (Nat.le_of_ble_eq_true rfl) ?_
 | ((first | refine RunsL.pe hn rfl rfl rfl ?_ | refine RunsD.pe rfl rfl ?_); first
 | refine ⟨_, pu_add rfl rfl (by omega), ?_⟩
 | refine ⟨_, pu_indexAddr_map rfl rfl (by omega) (by assumption), ?_⟩
 | refine ⟨_, pu_sub rfl rfl (by omega), ?_⟩
 | refine ⟨_, pu_pick_b rfl rfl rfl, ?_⟩
 | refine ⟨_, pu_mul rfl rfl (by omega), ?_⟩
 | refine ⟨_, pu_build rfl rfl rfl rfl rfl rfl, ?_⟩))
    · refine Runs.ctls 30 rfl ?_
      refine mO_end (t := 0) (more := [⟨59, 0, (insR i).map .ro⟩]) rfl ?_ rfl
      have e1 : ((m.stack.map RV.int).map AV.ro).take (((m.stack.length : Int) - 1).toNat * 1) = ((m.stack.take (m.stack.length - 1)).map RV.int).map AV.ro := by
        rw [show ((m.stack.length : Int) - 1).toNat * 1 = m.stack.length - 1 by omega, List.map_take, List.map_take]
      rw [show mLoop m i.a = { mDrop m with pc := i.a } from by unfold mLoop; rw [if_neg h0, if_pos (by assumption)]]
      unfold mO mDrop
      simp only []
      rw [← e1]
      rfl
    · refine Runs.ctls 30 rfl ?_
      refine mO_end (t := 0) (more := [⟨59, 0, (insR i).map .ro⟩]) rfl ?_ rfl
      rw [show mLoop m i.a = { m with stack := m.stack.set (m.stack.length - 1) (w64 (mTop m - 1)), pc := w64 (m.pc + 1) } from by unfold mLoop; rw [if_neg h0, if_neg (by assumption)]]
      unfold mO
      simp only []
      rw [List.map_set, List.map_set]
      rfl
theorem back_am (m : Mch) (hm : MLen m) : AM Try.prog 189 (mO m) [0] [.obj 0 0] (mO (mBack m)) (.tup []) := by
  refine am_enter Try.func189 rfl _ Try.ntmps189 (by simp) (by simp) fun C gs hn => ?_
  have hl : ((m.stack.map RV.int).map AV.ro).length = m.stack.length * 1 := by simp
  have hb := hm.1
  by_cases h0 : m.stack.length = 0
  · have hT := top_no m h0
    repeat' (first
 | refine op_callP (d := some 6) 3 (hT) rfl (by simp [AV.onlys, AV.only]) (by simp [AV.only, AV.onlys]) rfl rfl rfl (mO_free _) (mO_free _) rfl (by first | exact trivial | exact ⟨rfl, trivial⟩ | exact ⟨rfl, rfl, trivial⟩ | exact ⟨rfl, rfl, rfl, trivial⟩ | exact ⟨rfl, rfl, rfl, rfl, trivial⟩) (fun t h => by injection h with h; subst h; exact tl hn rfl) ?_
 | refine RunsL.step tabOk hn rfl ?_
 | refine RunsL.nil ?_
 | refine Runs.toRegion 30 rfl ?_
 | ((first | refine RunsL.pe hn rfl rfl rfl ?_ | refine RunsD.pe rfl rfl ?_); first
 | refine ⟨_, pu_nilCheckP rfl, ?_⟩)
 | (refine Runs.ctls 30 rfl ?_; first | refine Runs.cond_t rfl ?_ | refine Runs.cond_f rfl ?_ | ((first | refine Runs.cond_yes rfl ?_ ?_ | refine Runs.cond_nno rfl ?_ ?_); · first | omega | rfl | assumption | (simp only [List.length_map]; omega)) | ((first | refine Runs.cond_no rfl ?_ ?_ | refine Runs.cond_nyes rfl ?_ ?_); · first | omega | rfl | assumption | (simp only [List.length_map]; omega)) )
 | refine op_storeF rfl rfl rfl rfl (Nat.le_of_ble_eq_true rfl) ?_
 | ((first | refine RunsL.pe hn rfl rfl rfl ?_ | refine RunsD.pe rfl rfl ?_); first
 | refine ⟨_, pu_add rfl rfl (by omega), ?_⟩
 | refine ⟨_, pu_indexAddr_map rfl rfl (by omega) (by assumption), ?_⟩
 | refine ⟨_, pu_sub rfl rfl (by omega), ?_⟩
 | refine ⟨_, pu_pick_b rfl rfl rfl, ?_⟩
 | refine ⟨_, pu_mul rfl rfl (by omega), ?_⟩
 | refine ⟨_, pu_build rfl rfl rfl rfl rfl rfl, ?_⟩))
    refine Runs.ctls 30 rfl ?_
    refine mO_end (t := 0) (more := []) rfl ?_ rfl
    exact mO_app (by unfold mBack; rw [if_pos h0])
  · have hT := top_yes m h0 hb
    have hz := mTop_at h0
    have hz' : ((m.stack.map RV.int).map AV.ro)[m.stack.length - 1]? = some (.ro (.int (mTop m))) := by simp [hz]
    repeat' (first
 | refine op_callP (d := some 6) 3 (hT) rfl (by simp [AV.onlys, AV.only]) (by simp [AV.only, AV.onlys]) rfl rfl rfl (mO_free _) (mO_free _) rfl (by first | exact trivial | exact ⟨rfl, trivial⟩ | exact ⟨rfl, rfl, trivial⟩ | exact ⟨rfl, rfl, rfl, trivial⟩ | exact ⟨rfl, rfl, rfl, rfl, trivial⟩) (fun t h => by injection h with h; subst h; exact tl hn rfl) ?_
 | refine Runs.toDrawT (id := 3) 30 [0] [1, 2, 3, 4, 5, 6, 7, 8, 9, 10] 11 [] mixed hn rfl (by kernel_rfl) rfl (.cons rfl .nil) (by decide) (by decide) (by decide) ?_
 | refine RunsL.junk 0 2 rfl (op_cut (i := 1) (n := m.stack.length) (q := (m.stack.length : Int) - 1) rfl rfl rfl rfl hl (by omega) (by omega) (by omega) (by repeat' (first | exact trivial | exact onlysr _ _ | exact (by decide : (2 : Nat) ≠ 1) | refine And.intro ?_ ?_)) (fun j v hj => onlys_mem (onlysr _ _) j v hj) (tl hn rfl) ?_)
 | refine RunsT.nil ?_
 | refine RunsT.step tabOk rfl rfl (fun _ => rfl) (by decide) ?_
 | refine RunsT.pur (fun _ => pu_nilCheckP rfl) (by decide) rfl rfl ?_
 | refine RunsT.pur (fun _ => pu_nilCheckO rfl) (by decide) rfl rfl ?_
 | refine RunsT.pur (fun _ => pu_load_obj rfl rfl hz') (by decide) rfl rfl ?_
 | refine RunsT.pur (fun _ => pu_len_own (n := m.stack.length) rfl rfl hl) (by decide) rfl rfl ?_
 | refine RunsT.pur (fun _ => pu_sub rfl rfl (by omega)) (by decide) rfl rfl ?_
 | refine RunsL.step tabOk hn rfl ?_
 | refine RunsL.nil ?_
 | refine Runs.toRegion 30 rfl ?_
 | ((first | refine RunsL.pe hn rfl rfl rfl ?_ | refine RunsD.pe rfl rfl ?_); first
 | refine ⟨_, pu_nilCheckP rfl, ?_⟩
 | refine ⟨_, pu_nilCheckO rfl, ?_⟩
 | refine ⟨_, pu_load_obj rfl rfl hz', ?_⟩
 | refine ⟨_, pu_len_own (n := m.stack.length) rfl rfl hl, ?_⟩
 | refine ⟨_, pu_sub rfl rfl (by omega), ?_⟩)
 | (refine Runs.ctls 30 rfl ?_; first | refine Runs.cond_t rfl ?_ | refine Runs.cond_f rfl ?_ | ((first | refine Runs.cond_yes rfl ?_ ?_ | refine Runs.cond_nno rfl ?_ ?_); · first | omega | rfl | assumption | (simp only [List.length_map]; omega)) | ((first | refine Runs.cond_no rfl ?_ ?_ | refine Runs.cond_nyes rfl ?_ ?_); · first | omega | rfl | assumption | (simp only [List.length_map]; omega)) )
 | refine op_storeF rfl rfl rfl rfl (Nat.le_of_ble_eq_true rfl) ?_
 | ((first | refine RunsL.pe hn rfl rfl rfl ?_ | refine RunsD.pe rfl rfl ?_); first
 | refine ⟨_, pu_add rfl rfl (by omega), ?_⟩
 | refine ⟨_, pu_indexAddr_map rfl rfl (by omega) (by assumption), ?_⟩
 | refine ⟨_, pu_sub rfl rfl (by omega), ?_⟩
 | refine ⟨_, pu_pick_b rfl rfl rfl, ?_⟩
 | refine ⟨_, pu_mul rfl rfl (by omega), ?_⟩
 | refine ⟨_, pu_build rfl rfl rfl rfl rfl rfl, ?_⟩))
    refine Runs.ctls 30 rfl ?_
    refine mO_end (t := 0) (more := []) rfl ?_ rfl
    have e1 : ((m.stack.map RV.int).map AV.ro).take (((m.stack.length : Int) - 1).toNat * 1) = ((m.stack.take (m.stack.length - 1)).map RV.int).map AV.ro := by
      rw [show ((m.stack.length : Int) - 1).toNat * 1 = m.stack.length - 1 by omega, List.map_take, List.map_take]
    rw [show mBack m = { mDrop m with pc := mTop m } from by unfold mBack; rw [if_neg h0]]
    unfold mO mDrop
    simp only []
    rw [← e1]
    rfl
end Go.Proofs.Ytnecoghfhcimeaa
/- The machine performs an instruction. -/
namespace Go.Proofs.Ytnecoghfhcimeaa
set_option linter.unusedSimpArgs false
set_option linter.unusedVariables false
open Go.RowKit
open AV (Mem Keeps)
set_option maxRecDepth 100000
set_option maxHeartbeats 8000000 in
theorem perform_am (m : Mch) (i : Ins)(hm : MLen m) : AM Try.prog 168 (mO m) [0] [.obj 0 0, .ro (.agg (insR i))] (mO (mPerf m i)) (.tup []) := by
  refine am_enter Try.func168 rfl _ Try.ntmps168 (by simp) (by simp) fun C gs hn => ?_
  have hl : ((m.sums.map RV.int).map AV.ro).length = m.sums.length * 1 := by simp
  have hb := hm.2
  have e14 : i.op = 14 → mPerf m i = (if 30 ≤ m.sums.length then mFail m 8 else { mNext m with sums := m.sums ++ [0] }) := fun h => by simp [mPerf, h]
  have e15 : i.op = 15 → mPerf m i = (if m.sums.length = 0 then mFail m 8 else mBegin m 1) := fun h => by simp [mPerf, h]
  repeat' (first
 | refine Runs.toDrawT (id := 18) 30 [] [0, 1, 2, 3, 4, 5, 6, 7, 8, 9] 10 [] mixed hn rfl (by kernel_rfl) rfl .nil (by decide) (by decide) (by decide) ?_
 | refine Runs.toDrawT (id := 24) 30 [] [0, 1, 2, 3, 4, 5, 6, 7] 8 [] mixed hn rfl (by kernel_rfl) rfl .nil (by decide) (by decide) (by decide) ?_
 | refine op_callP (d := some 14) 3 (begin_am { m with register := 0 } i.a) rfl (by simp [AV.onlys, AV.only]) (by simp [AV.only, AV.onlys]) rfl rfl rfl (mO_free _) (mO_free _) rfl (by first | exact trivial | exact ⟨rfl, trivial⟩ | exact ⟨rfl, rfl, trivial⟩ | exact ⟨rfl, rfl, rfl, trivial⟩ | exact ⟨rfl, rfl, rfl, rfl, trivial⟩) (fun t h => by injection h with h; subst h; exact tl hn rfl) ?_
 | refine op_callP (d := some 20) 3 (begin_am m i.a) rfl (by simp [AV.onlys, AV.only]) (by simp [AV.only, AV.onlys]) rfl rfl rfl (mO_free _) (mO_free _) rfl (by first | exact trivial | exact ⟨rfl, trivial⟩ | exact ⟨rfl, rfl, trivial⟩ | exact ⟨rfl, rfl, rfl, trivial⟩ | exact ⟨rfl, rfl, rfl, rfl, trivial⟩) (fun t h => by injection h with h; subst h; exact tl hn rfl) ?_
 | refine op_callP (d := some 28) 3 (begin_am m m.register) rfl (by simp [AV.onlys, AV.only]) (by simp [AV.only, AV.onlys]) rfl rfl rfl (mO_free _) (mO_free _) rfl (by first | exact trivial | exact ⟨rfl, trivial⟩ | exact ⟨rfl, rfl, trivial⟩ | exact ⟨rfl, rfl, rfl, trivial⟩ | exact ⟨rfl, rfl, rfl, rfl, trivial⟩) (fun t h => by injection h with h; subst h; exact tl hn rfl) ?_
 | refine op_callP 3 (begin_am m 1) rfl (by simp [AV.onlys, AV.only]) (by simp [AV.only, AV.onlys]) rfl rfl rfl (mO_free _) (mO_free _) rfl (by first | exact trivial | exact ⟨rfl, trivial⟩ | exact ⟨rfl, rfl, trivial⟩ | exact ⟨rfl, rfl, rfl, trivial⟩ | exact ⟨rfl, rfl, rfl, rfl, trivial⟩) (fun t h => by injection h with h; subst h; exact tl hn rfl) ?_
 | refine op_callP 3 (failWith_am m _) rfl (by simp [AV.onlys, AV.only]) (by simp [AV.only, AV.onlys]) rfl rfl rfl (mO_free _) (mO_free _) rfl (by first | exact trivial | exact ⟨rfl, trivial⟩ | exact ⟨rfl, rfl, trivial⟩ | exact ⟨rfl, rfl, rfl, trivial⟩ | exact ⟨rfl, rfl, rfl, rfl, trivial⟩) (fun t h => by injection h with h; subst h; exact tl hn rfl) ?_
 | refine op_callP 3 (push_am m _ _ hm) rfl (by simp [AV.onlys, AV.only]) (by simp [AV.only, AV.onlys]) rfl rfl rfl (mO_free _) (mO_free _) rfl (by first | exact trivial | exact ⟨rfl, trivial⟩ | exact ⟨rfl, rfl, trivial⟩ | exact ⟨rfl, rfl, rfl, trivial⟩ | exact ⟨rfl, rfl, rfl, rfl, trivial⟩) (fun t h => by injection h with h; subst h; exact tl hn rfl) ?_
 | refine op_callP 3 (loop_am m i hm) rfl (by simp [AV.onlys, AV.only]) (by simp [AV.only, AV.onlys]) rfl rfl rfl (mO_free _) (mO_free _) rfl (by first | exact trivial | exact ⟨rfl, trivial⟩ | exact ⟨rfl, rfl, trivial⟩ | exact ⟨rfl, rfl, rfl, trivial⟩ | exact ⟨rfl, rfl, rfl, rfl, trivial⟩) (fun t h => by injection h with h; subst h; exact tl hn rfl) ?_
 | refine op_callP 3 (back_am m hm) rfl (by simp [AV.onlys, AV.only]) (by simp [AV.only, AV.onlys]) rfl rfl rfl (mO_free _) (mO_free _) rfl (by first | exact trivial | exact ⟨rfl, trivial⟩ | exact ⟨rfl, rfl, trivial⟩ | exact ⟨rfl, rfl, rfl, trivial⟩ | exact ⟨rfl, rfl, rfl, rfl, trivial⟩) (fun t h => by injection h with h; subst h; exact tl hn rfl) ?_
 | refine RunsL.junk 0 3 rfl (op_append (n := m.sums.length) (i := 2) rfl rfl rfl rfl rfl rfl (by simp) (FreeI.at_ (i := 2) (by repeat' (first | exact trivial | exact onlysr _ _ | exact (by decide : (1 : Nat) ≠ 2) | refine And.intro ?_ ?_))) (by simp; omega) (by simp; omega) (tl hn rfl) ?_)
 | refine RunsT.nil ?_
 | refine RunsT.step tabOk rfl rfl (fun _ => rfl) (by decide) ?_
 | refine RunsT.pur (fun _ => pu_nilCheckP rfl) (by decide) rfl rfl ?_
 | refine RunsT.pur (fun _ => pu_len_own (n := m.sums.length) rfl rfl hl) (by decide) rfl rfl ?_
 | refine RunsT.pur (fun _ => pu_addW rfl rfl) (by decide) rfl rfl ?_
 | refine RunsL.step tabOk hn rfl ?_
 | refine RunsL.nil ?_
 | refine Runs.toRegion 30 rfl ?_
 | ((first | refine RunsL.pe hn rfl rfl rfl ?_ | refine RunsD.pe rfl rfl ?_); first
 | refine ⟨_, pu_nilCheckP rfl, ?_⟩
 | refine ⟨_, pu_len_own (n := m.sums.length) rfl rfl hl, ?_⟩
 | refine ⟨_, pu_addW rfl rfl, ?_⟩
 | refine ⟨_, pu_buildS rfl, ?_⟩)
 | (refine Runs.ctls 30 rfl ?_; first | refine Runs.cond_t rfl ?_ | ((first | refine Runs.cond_yes rfl ?_ ?_ | refine Runs.cond_nno rfl ?_ ?_); · first | omega | rfl | assumption | (simp only [List.length_map]; omega)) | ((first | refine Runs.cond_no rfl ?_ ?_ | refine Runs.cond_nyes rfl ?_ ?_); · first | omega | rfl | assumption | (simp only [List.length_map]; omega)) | refine Runs.cond_dec rfl (fun h => ?_) (fun h => ?_) )
 | refine op_box rfl (tl hn rfl) ?_
 | refine op_storeF rfl rfl rfl rfl (Nat.le_of_ble_eq_true rfl) ?_
 | refine RunsD.step tabOk hn rfl rfl ?_
 | refine RunsD.nil ?_
 | refine Runs.toDraw 30 mixed hn rfl (by kernel_rfl) rfl ?_
 | ((first | refine RunsL.pe hn rfl rfl rfl ?_ | refine RunsD.pe rfl rfl ?_); first
 | refine ⟨_, pu_add rfl rfl (by omega), ?_⟩
 | refine ⟨_, pu_indexAddr_map rfl rfl (by omega) (by assumption), ?_⟩
 | refine ⟨_, pu_sub rfl rfl (by omega), ?_⟩
 | refine ⟨_, pu_pick_b rfl rfl rfl, ?_⟩
 | refine ⟨_, pu_mul rfl rfl (by omega), ?_⟩
 | refine ⟨_, pu_build rfl rfl rfl rfl rfl rfl, ?_⟩))
  all_goals refine Runs.ctls 30 rfl ?_
  all_goals first
    | refine mO_end (t := 0) (more := [⟨59, 0, (insR i).map .ro⟩]) rfl ?_ rfl
    | refine mO_ret (t := 0) (more := [⟨59, 0, (insR i).map .ro⟩]) rfl ?_ rfl
  all_goals first
    | (refine mO_app ?_; simp [mPerf, *]; done)
    | (refine (show _ = mO (mNext m) ++ _ from rfl).trans (mO_app ?_); simp [mPerf, *]; done)
    | (refine (show _ = mO { m with pc := i.a } ++ _ from rfl).trans (mO_app ?_); simp [mPerf, *]; done)
    | (refine (show _ = mO { m with pc := i.b } ++ _ from rfl).trans (mO_app ?_); simp [mPerf, *]; done)
    | (refine (show _ = mO { m with state := 1 } ++ _ from rfl).trans (mO_app ?_); simp [mPerf, *]; done)
    | (refine (show _ = mO m ++ _ from rfl).trans (mO_app ?_); simp [mPerf, *]; done)
    | (refine mO_app ?_; rw [e14 (by assumption), if_pos (by omega)])
    | (refine mO_app ?_; rw [e15 (by assumption), if_pos (by omega)])
    | (refine mO_app ?_; rw [e15 (by assumption), if_neg (by omega)])
    | (rw [e14 (by assumption), if_neg (by omega)]; unfold mO mNext; simp only []; rw [List.map_append (f := RV.int)]; rfl)
end Go.Proofs.Ytnecoghfhcimeaa
/- The machine goes on until it needs a byte. -/
namespace Go.Proofs.Ytnecoghfhcimeaa
set_option linter.unusedSimpArgs false
set_option linter.unusedVariables false
open Go.RowKit
open AV (Mem Keeps)
set_option maxRecDepth 100000
theorem finish_am (m : Mch) (nx : Int) : AM Try.prog 190 (mO m) [0] [.obj 0 0, .int nx] (mO { m with started := false, pc := nx }) (.tup []) := by
  refine am_enter Try.func190 rfl _ Try.ntmps190 (by simp) (by simp) fun C gs hn => ?_
  repeat' (first
 | refine RunsL.step tabOk hn rfl ?_
 | refine RunsL.nil ?_
 | refine Runs.toRegion 30 rfl ?_
 | (refine RunsL.pe hn rfl rfl rfl ?_; first
 | refine ⟨_, pu_nilCheckP rfl, ?_⟩)
 | (refine Runs.ctls 30 rfl ?_; first | ((first | refine Runs.cond_yes rfl ?_ ?_ | refine Runs.cond_nno rfl ?_ ?_); · first | omega | rfl | assumption | (simp only [List.length_map]; omega)) | ((first | refine Runs.cond_no rfl ?_ ?_ | refine Runs.cond_nyes rfl ?_ ?_); · first | omega | rfl | assumption | (simp only [List.length_map]; omega)) )
 | refine op_storeF rfl rfl rfl rfl (Nat.le_of_ble_eq_true rfl) ?_
    )
  refine Runs.ctls 30 rfl ?_
  refine mO_end (t := 0) (more := []) rfl ?_ rfl
  rfl
set_option maxHeartbeats 8000000 in
theorem advance_am (p : Prg) (f : Bool) (m : Mch) (hm : MLen m) (hc : p.code.length ≤ 4194304) : AM Try.prog 143 (mO m) [0] [.obj 0 0, .ro (prgR p), .bool f] (mO (mAdv p f m)) (.tup []) := by
  refine am_enter Try.func143 rfl _ Try.ntmps143 (by simp) (by simp) fun C gs hn => ?_
  have hlc : (p.code.map insR).length = p.code.length := List.length_map ..
  by_cases hs : m.state = 0
  · by_cases hf : f = false ∨ (m.started = true ∧ ¬ Idx p m.pc)
    · repeat' (first
 | refine op_callP 3 (failWith_am m 8) rfl (by simp [AV.onlys, AV.only]) (by simp [AV.only, AV.onlys]) rfl rfl rfl (mO_free _) (mO_free _) rfl (by first | exact trivial | exact ⟨rfl, trivial⟩ | exact ⟨rfl, rfl, trivial⟩ | exact ⟨rfl, rfl, rfl, trivial⟩ | exact ⟨rfl, rfl, rfl, rfl, trivial⟩) (fun t h => by injection h with h; subst h; exact tl hn rfl) ?_
 | refine RunsL.step tabOk hn rfl ?_
 | refine RunsL.nil ?_
 | refine Runs.toRegion 30 rfl ?_
 | ((first | refine RunsL.pe hn rfl rfl rfl ?_ | refine RunsD.pe rfl rfl ?_); first
 | refine ⟨_, pu_nilCheckP rfl, ?_⟩
 | refine ⟨_, pu_callR (isIndex_ac p _) rfl, ?_⟩)
 | (refine Runs.ctls 30 rfl ?_; first | refine Runs.cond_t rfl ?_ | refine Runs.cond_f rfl ?_ | ((first | refine Runs.cond_yes rfl ?_ ?_ | refine Runs.cond_nno rfl ?_ ?_); · first | omega | rfl | assumption | (simp only [List.length_map]; omega)) | ((first | refine Runs.cond_no rfl ?_ ?_ | refine Runs.cond_nyes rfl ?_ ?_); · first | omega | rfl | assumption | (simp only [List.length_map]; omega)) | refine Runs.cond_ndec rfl (fun h => ?_) (fun h => ?_) | refine Runs.cond_nb rfl (fun h => ?_) (fun h => ?_) )
 | refine op_box rfl (tl hn rfl) ?_
 | refine RunsD.step tabOk hn rfl rfl ?_
 | refine RunsD.nil ?_
 | refine Runs.toDraw 30 mixed hn rfl (by kernel_rfl) rfl ?_
 | ((first | refine RunsL.pe hn rfl rfl rfl ?_ | refine RunsD.pe rfl rfl ?_); first
 | refine ⟨_, pu_add rfl rfl (by omega), ?_⟩
 | refine ⟨_, pu_indexAddr_map rfl rfl (by omega) (by assumption), ?_⟩
 | refine ⟨_, pu_sub rfl rfl (by omega), ?_⟩
 | refine ⟨_, pu_pick_b rfl rfl rfl, ?_⟩
 | refine ⟨_, pu_mul rfl rfl (by omega), ?_⟩
 | refine ⟨_, pu_build rfl rfl rfl rfl rfl rfl, ?_⟩)
 | ((first | refine RunsL.guard_dec rfl rfl rfl ?_ ?_ | refine RunsL.guard_ndec rfl rfl rfl ?_ ?_ | refine RunsL.guard_nb rfl rfl rfl ?_ ?_ | refine RunsL.guard_b rfl rfl rfl ?_ ?_ | refine RunsD.guard_dec rfl rfl rfl ?_ ?_ | refine RunsD.guard_ndec rfl rfl rfl ?_ ?_ | refine RunsD.guard_nb rfl rfl rfl ?_ ?_ | refine RunsD.guard_b rfl rfl rfl ?_ ?_) <;> intro h <;> try (exfalso; first | omega | contradiction | (simp only [List.length_map] at h; omega))))
      all_goals first
        | (exfalso; simp_all; done)
        | (refine Runs.ctls 30 rfl ?_
           refine mO_ret (t := 0) (more := [⟨62, 0, [.ro (inssR p.code), .ro (intsR p.entries)]⟩]) rfl ?_ rfl
           exact mO_app (by unfold mAdv; rw [if_neg (by simp [hs]), if_pos hf]))
    · obtain ⟨N, hN, hA⟩ : ∃ N : Nat, N = 100001 ∧ mAdv p f m = mRes p N m := ⟨_, rfl, by unfold mAdv; rw [if_neg (by simp [hs]), if_neg hf]⟩
      rw [hA]
      clear hA
      repeat' (first
 | refine op_callP 3 (failWith_am m 8) rfl (by simp [AV.onlys, AV.only]) (by simp [AV.only, AV.onlys]) rfl rfl rfl (mO_free _) (mO_free _) rfl (by first | exact trivial | exact ⟨rfl, trivial⟩ | exact ⟨rfl, rfl, trivial⟩ | exact ⟨rfl, rfl, rfl, trivial⟩ | exact ⟨rfl, rfl, rfl, rfl, trivial⟩) (fun t h => by injection h with h; subst h; exact tl hn rfl) ?_
 | refine RunsL.step tabOk hn rfl ?_
 | refine RunsL.nil ?_
 | refine Runs.toRegion 30 rfl ?_
 | ((first | refine RunsL.pe hn rfl rfl rfl ?_ | refine RunsD.pe rfl rfl ?_); first
 | refine ⟨_, pu_nilCheckP rfl, ?_⟩
 | refine ⟨_, pu_callR (isIndex_ac p _) rfl, ?_⟩)
 | (refine Runs.ctls 30 rfl ?_; first | refine Runs.cond_t rfl ?_ | refine Runs.cond_f rfl ?_ | ((first | refine Runs.cond_yes rfl ?_ ?_ | refine Runs.cond_nno rfl ?_ ?_); · first | omega | rfl | assumption | (simp only [List.length_map]; omega)) | ((first | refine Runs.cond_no rfl ?_ ?_ | refine Runs.cond_nyes rfl ?_ ?_); · first | omega | rfl | assumption | (simp only [List.length_map]; omega)) | refine Runs.cond_ndec rfl (fun h => ?_) (fun h => ?_) | refine Runs.cond_nb rfl (fun h => ?_) (fun h => ?_) )
 | refine op_box rfl (tl hn rfl) ?_
 | refine RunsD.step tabOk hn rfl rfl ?_
 | refine RunsD.nil ?_
 | refine Runs.toDraw 30 mixed hn rfl (by kernel_rfl) rfl ?_
 | ((first | refine RunsL.pe hn rfl rfl rfl ?_ | refine RunsD.pe rfl rfl ?_); first
 | refine ⟨_, pu_add rfl rfl (by omega), ?_⟩
 | refine ⟨_, pu_indexAddr_map rfl rfl (by omega) (by assumption), ?_⟩
 | refine ⟨_, pu_sub rfl rfl (by omega), ?_⟩
 | refine ⟨_, pu_pick_b rfl rfl rfl, ?_⟩
 | refine ⟨_, pu_mul rfl rfl (by omega), ?_⟩
 | refine ⟨_, pu_build rfl rfl rfl rfl rfl rfl, ?_⟩)
 | ((first | refine RunsL.guard_dec rfl rfl rfl ?_ ?_ | refine RunsL.guard_ndec rfl rfl rfl ?_ ?_ | refine RunsL.guard_nb rfl rfl rfl ?_ ?_ | refine RunsL.guard_b rfl rfl rfl ?_ ?_ | refine RunsD.guard_dec rfl rfl rfl ?_ ?_ | refine RunsD.guard_ndec rfl rfl rfl ?_ ?_ | refine RunsD.guard_nb rfl rfl rfl ?_ ?_ | refine RunsD.guard_b rfl rfl rfl ?_ ?_) <;> intro h <;> try (exfalso; first | omega | contradiction | (simp only [List.length_map] at h; omega))))
      all_goals first
        | (exfalso; simp_all; done)
        | skip
      all_goals
        refine Runs.loopN 30 rfl (fun j => [(0, .pin 0 0 (gs 0)), (4, .obj 3 0), (6, .int (j : Int))]) (fun j => mO (mIt p m j) ++ [⟨62, 0, [.ro (inssR p.code), .ro (intsR p.entries)]⟩]) (fun j => mRes p N m = mRes p (N - j) (mIt p m j)) N 0 (Nat.zero_le _) (by rw [Nat.sub_zero]; rfl) ⟨rfl, rfl, rfl, trivial⟩ rfl fun j hj hQ next => ?_
        have hL := mIt_len (p := p) hm j
        have hstep := @mRes_it p m N j
        have hstop := mRes_stop hQ
        have hout := mRes_out hQ
        have hnx : mIt p m (j + 1) = mPerf (mIt p m j) (mAt p (mIt p m j)) := rfl
        generalize hq : mIt p m j = q at hQ hL hstep hstop hout hnx ⊢
        clear hq
        by_cases hr : MRun q
        · obtain ⟨hr1, hr2⟩ := id hr
          by_cases hi : Idx p q.pc
          · obtain ⟨x, hx⟩ : ∃ x, p.code[q.pc.toNat]? = some x := ⟨_, List.getElem?_eq_getElem (by unfold Idx at hi; omega)⟩
            have hxa : mAt p q = x := by unfold mAt; rw [hx]; rfl
            have hi' := hi
            unfold Idx at hi'
            by_cases hlt : j < N
            · repeat' (first
 | refine Runs.toDrawT (id := 9) 30 [] [0, 1, 2, 3, 4, 5, 6, 7, 8] 9 [] mixed hn rfl (by kernel_rfl) rfl .nil (by decide) (by decide) (by decide) ?_
 | refine op_callP 3 (failWith_am q 8) rfl (by simp [AV.onlys, AV.only]) (by simp [AV.only, AV.onlys]) rfl rfl rfl (mO_free _) (mO_free _) rfl (by first | exact trivial | exact ⟨rfl, trivial⟩ | exact ⟨rfl, rfl, trivial⟩ | exact ⟨rfl, rfl, rfl, trivial⟩ | exact ⟨rfl, rfl, rfl, rfl, trivial⟩) (fun t h => by injection h with h; subst h; exact tl hn rfl) ?_
 | refine op_callP 3 (perform_am q x hL) rfl (by simp [AV.onlys, AV.only]) (by simp [AV.only, AV.onlys]) rfl rfl rfl (mO_free _) (mO_free _) rfl (by first | exact trivial | exact ⟨rfl, trivial⟩ | exact ⟨rfl, rfl, trivial⟩ | exact ⟨rfl, rfl, rfl, trivial⟩ | exact ⟨rfl, rfl, rfl, rfl, trivial⟩) (fun t h => by injection h with h; subst h; exact tl hn rfl) ?_
 | refine RunsT.nil ?_
 | refine RunsT.step tabOk rfl rfl (fun _ => rfl) (by decide) ?_
 | refine RunsT.pur (fun _ => pu_nilCheckP rfl) (by decide) rfl rfl ?_
 | refine RunsT.pur (fun _ => pu_callR (isIndex_ac p _) rfl) (by decide) rfl rfl ?_
 | refine RunsT.pur (fun _ => pu_add rfl rfl (by omega)) (by decide) rfl rfl ?_
 | refine RunsT.pur (fun _ => pu_indexAddr_map rfl rfl (by omega) (by assumption)) (by decide) rfl rfl ?_
 | refine RunsL.step tabOk hn rfl ?_
 | refine RunsL.nil ?_
 | refine Runs.toRegion 30 rfl ?_
 | ((first | refine RunsL.pe hn rfl rfl rfl ?_ | refine RunsD.pe rfl rfl ?_); first
 | refine ⟨_, pu_nilCheckP rfl, ?_⟩
 | refine ⟨_, pu_callR (isIndex_ac p _) rfl, ?_⟩)
 | (refine Runs.ctls 30 rfl ?_; first | refine Runs.cond_t rfl ?_ | refine Runs.cond_f rfl ?_ | ((first | refine Runs.cond_yes rfl ?_ ?_ | refine Runs.cond_nno rfl ?_ ?_); · first | omega | rfl | assumption | (simp only [List.length_map]; omega)) | ((first | refine Runs.cond_no rfl ?_ ?_ | refine Runs.cond_nyes rfl ?_ ?_); · first | omega | rfl | assumption | (simp only [List.length_map]; omega)) | refine Runs.cond_ndec rfl (fun h => ?_) (fun h => ?_) | refine Runs.cond_nb rfl (fun h => ?_) (fun h => ?_) )
 | refine op_box rfl (tl hn rfl) ?_
 | refine RunsD.step tabOk hn rfl rfl ?_
 | refine RunsD.nil ?_
 | refine Runs.toDraw 30 mixed hn rfl (by kernel_rfl) rfl ?_
 | ((first | refine RunsL.pe hn rfl rfl rfl ?_ | refine RunsD.pe rfl rfl ?_); first
 | refine ⟨_, pu_add rfl rfl (by omega), ?_⟩
 | refine ⟨_, pu_indexAddr_map rfl rfl (by omega) (by assumption), ?_⟩
 | refine ⟨_, pu_sub rfl rfl (by omega), ?_⟩
 | refine ⟨_, pu_pick_b rfl rfl rfl, ?_⟩
 | refine ⟨_, pu_mul rfl rfl (by omega), ?_⟩
 | refine ⟨_, pu_build rfl rfl rfl rfl rfl rfl, ?_⟩)
 | ((first | refine RunsL.guard_dec rfl rfl rfl ?_ ?_ | refine RunsL.guard_ndec rfl rfl rfl ?_ ?_ | refine RunsL.guard_nb rfl rfl rfl ?_ ?_ | refine RunsL.guard_b rfl rfl rfl ?_ ?_ | refine RunsD.guard_dec rfl rfl rfl ?_ ?_ | refine RunsD.guard_ndec rfl rfl rfl ?_ ?_ | refine RunsD.guard_nb rfl rfl rfl ?_ ?_ | refine RunsD.guard_b rfl rfl rfl ?_ ?_) <;> intro h <;> try (exfalso; first | omega | contradiction | (simp only [List.length_map] at h; omega))))
              all_goals first
                | (exfalso; first | omega | simp_all; done)
                | (refine next _ _ ⟨rfl, rfl, rfl, trivial⟩ hlt (hstep hlt hQ hr hi) ?_
                   rw [hnx, hxa]
                   rfl)
            · repeat' (first
 | refine op_callP 3 (failWith_am q 8) rfl (by simp [AV.onlys, AV.only]) (by simp [AV.only, AV.onlys]) rfl rfl rfl (mO_free _) (mO_free _) rfl (by first | exact trivial | exact ⟨rfl, trivial⟩ | exact ⟨rfl, rfl, trivial⟩ | exact ⟨rfl, rfl, rfl, trivial⟩ | exact ⟨rfl, rfl, rfl, rfl, trivial⟩) (fun t h => by injection h with h; subst h; exact tl hn rfl) ?_
 | refine RunsL.step tabOk hn rfl ?_
 | refine RunsL.nil ?_
 | refine Runs.toRegion 30 rfl ?_
 | ((first | refine RunsL.pe hn rfl rfl rfl ?_ | refine RunsD.pe rfl rfl ?_); first
 | refine ⟨_, pu_nilCheckP rfl, ?_⟩
 | refine ⟨_, pu_callR (isIndex_ac p _) rfl, ?_⟩)
 | (refine Runs.ctls 30 rfl ?_; first | refine Runs.cond_t rfl ?_ | refine Runs.cond_f rfl ?_ | ((first | refine Runs.cond_yes rfl ?_ ?_ | refine Runs.cond_nno rfl ?_ ?_); · first | omega | rfl | assumption | (simp only [List.length_map]; omega)) | ((first | refine Runs.cond_no rfl ?_ ?_ | refine Runs.cond_nyes rfl ?_ ?_); · first | omega | rfl | assumption | (simp only [List.length_map]; omega)) | refine Runs.cond_ndec rfl (fun h => ?_) (fun h => ?_) | refine Runs.cond_nb rfl (fun h => ?_) (fun h => ?_) )
 | refine op_box rfl (tl hn rfl) ?_
 | refine RunsD.step tabOk hn rfl rfl ?_
 | refine RunsD.nil ?_
 | refine Runs.toDraw 30 mixed hn rfl (by kernel_rfl) rfl ?_
 | ((first | refine RunsL.pe hn rfl rfl rfl ?_ | refine RunsD.pe rfl rfl ?_); first
 | refine ⟨_, pu_add rfl rfl (by omega), ?_⟩
 | refine ⟨_, pu_indexAddr_map rfl rfl (by omega) (by assumption), ?_⟩
 | refine ⟨_, pu_sub rfl rfl (by omega), ?_⟩
 | refine ⟨_, pu_pick_b rfl rfl rfl, ?_⟩
 | refine ⟨_, pu_mul rfl rfl (by omega), ?_⟩
 | refine ⟨_, pu_build rfl rfl rfl rfl rfl rfl, ?_⟩)
 | ((first | refine RunsL.guard_dec rfl rfl rfl ?_ ?_ | refine RunsL.guard_ndec rfl rfl rfl ?_ ?_ | refine RunsL.guard_nb rfl rfl rfl ?_ ?_ | refine RunsL.guard_b rfl rfl rfl ?_ ?_ | refine RunsD.guard_dec rfl rfl rfl ?_ ?_ | refine RunsD.guard_ndec rfl rfl rfl ?_ ?_ | refine RunsD.guard_nb rfl rfl rfl ?_ ?_ | refine RunsD.guard_b rfl rfl rfl ?_ ?_) <;> intro h <;> try (exfalso; first | omega | contradiction | (simp only [List.length_map] at h; omega))))
              all_goals first
                | (exfalso; first | omega | simp_all; done)
                | (refine Runs.ctls 30 rfl ?_
                   refine mO_ret (t := 0) (more := [⟨62, 0, [.ro (inssR p.code), .ro (intsR p.entries)]⟩]) rfl ?_ rfl
                   exact mO_app (hout hr (.inr (by omega))).symm)
          · repeat' (first
 | refine op_callP 3 (failWith_am q 8) rfl (by simp [AV.onlys, AV.only]) (by simp [AV.only, AV.onlys]) rfl rfl rfl (mO_free _) (mO_free _) rfl (by first | exact trivial | exact ⟨rfl, trivial⟩ | exact ⟨rfl, rfl, trivial⟩ | exact ⟨rfl, rfl, rfl, trivial⟩ | exact ⟨rfl, rfl, rfl, rfl, trivial⟩) (fun t h => by injection h with h; subst h; exact tl hn rfl) ?_
 | refine RunsL.step tabOk hn rfl ?_
 | refine RunsL.nil ?_
 | refine Runs.toRegion 30 rfl ?_
 | ((first | refine RunsL.pe hn rfl rfl rfl ?_ | refine RunsD.pe rfl rfl ?_); first
 | refine ⟨_, pu_nilCheckP rfl, ?_⟩
 | refine ⟨_, pu_callR (isIndex_ac p _) rfl, ?_⟩)
 | (refine Runs.ctls 30 rfl ?_; first | refine Runs.cond_t rfl ?_ | refine Runs.cond_f rfl ?_ | ((first | refine Runs.cond_yes rfl ?_ ?_ | refine Runs.cond_nno rfl ?_ ?_); · first | omega | rfl | assumption | (simp only [List.length_map]; omega)) | ((first | refine Runs.cond_no rfl ?_ ?_ | refine Runs.cond_nyes rfl ?_ ?_); · first | omega | rfl | assumption | (simp only [List.length_map]; omega)) | refine Runs.cond_ndec rfl (fun h => ?_) (fun h => ?_) | refine Runs.cond_nb rfl (fun h => ?_) (fun h => ?_) )
 | refine op_box rfl (tl hn rfl) ?_
 | refine RunsD.step tabOk hn rfl rfl ?_
 | refine RunsD.nil ?_
 | refine Runs.toDraw 30 mixed hn rfl (by kernel_rfl) rfl ?_
 | ((first | refine RunsL.pe hn rfl rfl rfl ?_ | refine RunsD.pe rfl rfl ?_); first
 | refine ⟨_, pu_add rfl rfl (by omega), ?_⟩
 | refine ⟨_, pu_indexAddr_map rfl rfl (by omega) (by assumption), ?_⟩
 | refine ⟨_, pu_sub rfl rfl (by omega), ?_⟩
 | refine ⟨_, pu_pick_b rfl rfl rfl, ?_⟩
 | refine ⟨_, pu_mul rfl rfl (by omega), ?_⟩
 | refine ⟨_, pu_build rfl rfl rfl rfl rfl rfl, ?_⟩)
 | ((first | refine RunsL.guard_dec rfl rfl rfl ?_ ?_ | refine RunsL.guard_ndec rfl rfl rfl ?_ ?_ | refine RunsL.guard_nb rfl rfl rfl ?_ ?_ | refine RunsL.guard_b rfl rfl rfl ?_ ?_ | refine RunsD.guard_dec rfl rfl rfl ?_ ?_ | refine RunsD.guard_ndec rfl rfl rfl ?_ ?_ | refine RunsD.guard_nb rfl rfl rfl ?_ ?_ | refine RunsD.guard_b rfl rfl rfl ?_ ?_) <;> intro h <;> try (exfalso; first | omega | contradiction | (simp only [List.length_map] at h; omega))))
            all_goals first
              | (exfalso; first | omega | simp_all; done)
              | (refine Runs.ctls 30 rfl ?_
                 refine mO_ret (t := 0) (more := [⟨62, 0, [.ro (inssR p.code), .ro (intsR p.entries)]⟩]) rfl ?_ rfl
                 exact mO_app (hout hr (.inl hi)).symm)
        · have hst := hstop hr
          clear hstep hstop hout hQ hnx
          repeat' (first
 | refine op_callP 3 (failWith_am q 8) rfl (by simp [AV.onlys, AV.only]) (by simp [AV.only, AV.onlys]) rfl rfl rfl (mO_free _) (mO_free _) rfl (by first | exact trivial | exact ⟨rfl, trivial⟩ | exact ⟨rfl, rfl, trivial⟩ | exact ⟨rfl, rfl, rfl, trivial⟩ | exact ⟨rfl, rfl, rfl, rfl, trivial⟩) (fun t h => by injection h with h; subst h; exact tl hn rfl) ?_
 | refine RunsL.step tabOk hn rfl ?_
 | refine RunsL.nil ?_
 | refine Runs.toRegion 30 rfl ?_
 | ((first | refine RunsL.pe hn rfl rfl rfl ?_ | refine RunsD.pe rfl rfl ?_); first
 | refine ⟨_, pu_nilCheckP rfl, ?_⟩
 | refine ⟨_, pu_callR (isIndex_ac p _) rfl, ?_⟩)
 | (refine Runs.ctls 30 rfl ?_; first | refine Runs.cond_t rfl ?_ | refine Runs.cond_f rfl ?_ | ((first | refine Runs.cond_yes rfl ?_ ?_ | refine Runs.cond_nno rfl ?_ ?_); · first | omega | rfl | assumption | (simp only [List.length_map]; omega)) | ((first | refine Runs.cond_no rfl ?_ ?_ | refine Runs.cond_nyes rfl ?_ ?_); · first | omega | rfl | assumption | (simp only [List.length_map]; omega)) | refine Runs.cond_ndec rfl (fun h => ?_) (fun h => ?_) | refine Runs.cond_nb rfl (fun h => ?_) (fun h => ?_) )
 | refine op_box rfl (tl hn rfl) ?_
 | refine RunsD.step tabOk hn rfl rfl ?_
 | refine RunsD.nil ?_
 | refine Runs.toDraw 30 mixed hn rfl (by kernel_rfl) rfl ?_
 | ((first | refine RunsL.pe hn rfl rfl rfl ?_ | refine RunsD.pe rfl rfl ?_); first
 | refine ⟨_, pu_add rfl rfl (by omega), ?_⟩
 | refine ⟨_, pu_indexAddr_map rfl rfl (by omega) (by assumption), ?_⟩
 | refine ⟨_, pu_sub rfl rfl (by omega), ?_⟩
 | refine ⟨_, pu_pick_b rfl rfl rfl, ?_⟩
 | refine ⟨_, pu_mul rfl rfl (by omega), ?_⟩
 | refine ⟨_, pu_build rfl rfl rfl rfl rfl rfl, ?_⟩)
 | ((first | refine RunsL.guard_dec rfl rfl rfl ?_ ?_ | refine RunsL.guard_ndec rfl rfl rfl ?_ ?_ | refine RunsL.guard_nb rfl rfl rfl ?_ ?_ | refine RunsL.guard_b rfl rfl rfl ?_ ?_ | refine RunsD.guard_dec rfl rfl rfl ?_ ?_ | refine RunsD.guard_ndec rfl rfl rfl ?_ ?_ | refine RunsD.guard_nb rfl rfl rfl ?_ ?_ | refine RunsD.guard_b rfl rfl rfl ?_ ?_) <;> intro h <;> try (exfalso; first | omega | contradiction | (simp only [List.length_map] at h; omega))))
          all_goals first
            | exact absurd ⟨by assumption, by assumption⟩ hr
            | (refine Runs.ctls 30 rfl ?_
               refine mO_end (t := 0) (more := [⟨62, 0, [.ro (inssR p.code), .ro (intsR p.entries)]⟩]) rfl ?_ rfl
               exact mO_app hst.symm)
  · repeat' (first
 | refine RunsL.step tabOk hn rfl ?_
 | refine RunsL.nil ?_
 | refine Runs.toRegion 30 rfl ?_
 | ((first | refine RunsL.pe hn rfl rfl rfl ?_ | refine RunsD.pe rfl rfl ?_); first
 | refine ⟨_, pu_nilCheckP rfl, ?_⟩)
 | (refine Runs.ctls 30 rfl ?_; first | refine Runs.cond_t rfl ?_ | refine Runs.cond_f rfl ?_ | ((first | refine Runs.cond_yes rfl ?_ ?_ | refine Runs.cond_nno rfl ?_ ?_); · first | omega | rfl | assumption | (simp only [List.length_map]; omega)) | ((first | refine Runs.cond_no rfl ?_ ?_ | refine Runs.cond_nyes rfl ?_ ?_); · first | omega | rfl | assumption | (simp only [List.length_map]; omega)) | refine Runs.cond_ndec rfl (fun h => ?_) (fun h => ?_) | refine Runs.cond_nb rfl (fun h => ?_) (fun h => ?_) )
 | refine op_box rfl (tl hn rfl) ?_
 | refine RunsD.step tabOk hn rfl rfl ?_
 | refine RunsD.nil ?_
 | refine Runs.toDraw 30 mixed hn rfl (by kernel_rfl) rfl ?_
 | ((first | refine RunsL.pe hn rfl rfl rfl ?_ | refine RunsD.pe rfl rfl ?_); first
 | refine ⟨_, pu_add rfl rfl (by omega), ?_⟩
 | refine ⟨_, pu_indexAddr_map rfl rfl (by omega) (by assumption), ?_⟩
 | refine ⟨_, pu_sub rfl rfl (by omega), ?_⟩
 | refine ⟨_, pu_pick_b rfl rfl rfl, ?_⟩
 | refine ⟨_, pu_mul rfl rfl (by omega), ?_⟩
 | refine ⟨_, pu_build rfl rfl rfl rfl rfl rfl, ?_⟩)
 | ((first | refine RunsL.guard_dec rfl rfl rfl ?_ ?_ | refine RunsL.guard_ndec rfl rfl rfl ?_ ?_ | refine RunsL.guard_nb rfl rfl rfl ?_ ?_ | refine RunsL.guard_b rfl rfl rfl ?_ ?_ | refine RunsD.guard_dec rfl rfl rfl ?_ ?_ | refine RunsD.guard_ndec rfl rfl rfl ?_ ?_ | refine RunsD.guard_nb rfl rfl rfl ?_ ?_ | refine RunsD.guard_b rfl rfl rfl ?_ ?_) <;> intro h <;> try (exfalso; first | omega | contradiction | (simp only [List.length_map] at h; omega))))
    refine Runs.ctls 30 rfl ?_
    refine mO_ret (t := 0) (more := [⟨62, 0, [.ro (inssR p.code), .ro (intsR p.entries)]⟩]) rfl ?_ rfl
    exact mO_app (by unfold mAdv; rw [if_pos hs])
end Go.Proofs.Ytnecoghfhcimeaa
/- The machine reads a byte: the parts. -/
namespace Go.Proofs.Ytnecoghfhcimeaa
set_option linter.unusedSimpArgs false
set_option linter.unusedVariables false
open Go.RowKit
open AV (Mem Keeps)
set_option maxRecDepth 100000
section
variable {P : Program} {C : Ctx} {env : Env} {σ : List Ob} {t : Nat} {ty : TypeId} {pos : String} {after : Array Edge} {gd : Option (Nat × Bool)}
theorem pu_rem256 {xt yt : TypeId} {x y : Operand} {p : Int} (hx : ev env x = .int p) (hy : ev env y = .int 256) : Pur P C ⟨some t, .binOp .rem xt x y yt, ty, pos, after, gd⟩ env σ (.int (p.tmod 256)) :=
  pu_bin hx hy (fun w => by
    have h1 := Int.tmod_lt_of_pos p (show (0 : Int) < 256 by omega)
    have h2 := Int.lt_tmod_of_pos p (show (0 : Int) < 256 by omega)
    have h4 : IntKind.i64.wrap (p.tmod 256) = p.tmod 256 := by simp [IntKind.wrap, IntKind.bits, IntKind.signed]; omega
    simp [go_sem, Op.intDiv, h4])
theorem pu_shl8 {xt yt : TypeId} {x y : Operand} {b s : Int} (hx : ev env x = .int b) (hy : ev env y = .ro (.c (.int .i64 (8 * s)))) (h : 0 ≤ s ∧ s ≤ 3) (hb : 0 ≤ b ∧ b ≤ 255) : Pur P C ⟨some t, .binOp .shl xt x y yt, ty, pos, after, gd⟩ env σ (.int (b * 2 ^ (8 * s).toNat)) := by
  have hs : s = 0 ∨ s = 1 ∨ s = 2 ∨ s = 3 := by omega
  rcases hs with rfl | rfl | rfl | rfl
  all_goals exact pu_bin hx hy (fun w => by simp [go_sem, IntKind.wrap, IntKind.bits, IntKind.signed, Int.shiftLeft_eq]; omega)
end
set_option maxHeartbeats 4000000 in
theorem readSkip_am (m : Mch)  : AM Try.prog 177 (mO m) [0] [.obj 0 0] (mO (mSkip m)) (.tup []) := by
  refine am_enter Try.func177 rfl _ Try.ntmps177 (by simp) (by simp) fun C gs hn => ?_
  repeat' (first
 | refine op_callP 3 (finish_am m _) rfl (by simp [AV.onlys, AV.only]) (by simp [AV.only, AV.onlys]) rfl rfl rfl (mO_free _) (mO_free _) rfl (by first | exact trivial | exact ⟨rfl, trivial⟩ | exact ⟨rfl, rfl, trivial⟩ | exact ⟨rfl, rfl, rfl, trivial⟩ | exact ⟨rfl, rfl, rfl, rfl, trivial⟩) (fun t h => by injection h with h; subst h; exact tl hn rfl) ?_
 | refine RunsL.step tabOk hn rfl ?_
 | refine RunsL.nil ?_
 | refine Runs.toRegion 30 rfl ?_
 | (refine RunsL.pe hn rfl rfl rfl ?_; first
 | refine ⟨_, pu_nilCheckP rfl, ?_⟩
 | refine ⟨_, pu_addW rfl rfl, ?_⟩)
 | (refine Runs.ctls 30 rfl ?_; first | ((first | refine Runs.cond_yes rfl ?_ ?_ | refine Runs.cond_nno rfl ?_ ?_); · first | omega | rfl | assumption | (simp only [List.length_map]; omega)) | ((first | refine Runs.cond_no rfl ?_ ?_ | refine Runs.cond_nyes rfl ?_ ?_); · first | omega | rfl | assumption | (simp only [List.length_map]; omega)) | refine Runs.cond_dec rfl (fun h => ?_) (fun h => ?_) )
    )
  · refine Runs.ctls 30 rfl ?_
    refine mO_end (t := 0) (more := []) rfl ?_ rfl
    exact mO_app (by unfold mSkip; rw [if_pos (by assumption)])
  · refine Runs.ctls 30 rfl ?_
    refine mO_end (t := 0) (more := []) rfl ?_ rfl
    rw [show mSkip m = m from by unfold mSkip; rw [if_neg (by assumption)]]
    rfl
set_option maxHeartbeats 4000000 in
theorem readFlag_am (m : Mch) (i : Ins) (b : Int) : AM Try.prog 173 (mO m) [0] [.obj 0 0, .ro (.agg (insR i)), .int b] (mO (if 1 < b then mFail m 4 else if m.left ≠ 0 then m else { m with started := false, pc := if b = 0 then i.a else w64 (m.pc + 1) })) (.tup []) := by
  refine am_enter Try.func173 rfl _ Try.ntmps173 (by simp) (by simp) fun C gs hn => ?_
  repeat' (first
 | refine op_callP 3 (failWith_am m 4) rfl (by simp [AV.onlys, AV.only]) (by simp [AV.only, AV.onlys]) rfl rfl rfl (mO_free _) (mO_free _) rfl (by first | exact trivial | exact ⟨rfl, trivial⟩ | exact ⟨rfl, rfl, trivial⟩ | exact ⟨rfl, rfl, rfl, trivial⟩ | exact ⟨rfl, rfl, rfl, rfl, trivial⟩) (fun t h => by injection h with h; subst h; exact tl hn rfl) ?_
 | refine op_callP 3 (finish_am m _) rfl (by simp [AV.onlys, AV.only]) (by simp [AV.only, AV.onlys]) rfl rfl rfl (mO_free _) (mO_free _) rfl (by first | exact trivial | exact ⟨rfl, trivial⟩ | exact ⟨rfl, rfl, trivial⟩ | exact ⟨rfl, rfl, rfl, trivial⟩ | exact ⟨rfl, rfl, rfl, rfl, trivial⟩) (fun t h => by injection h with h; subst h; exact tl hn rfl) ?_
 | refine RunsL.step tabOk hn rfl ?_
 | refine RunsL.nil ?_
 | refine Runs.toRegion 30 rfl ?_
 | (refine RunsL.pe hn rfl rfl rfl ?_; first
 | refine ⟨_, pu_nilCheckP rfl, ?_⟩
 | refine ⟨_, pu_addW rfl rfl, ?_⟩)
 | (refine Runs.ctls 30 rfl ?_; first | ((first | refine Runs.cond_yes rfl ?_ ?_ | refine Runs.cond_nno rfl ?_ ?_); · first | omega | rfl | assumption | (simp only [List.length_map]; omega)) | ((first | refine Runs.cond_no rfl ?_ ?_ | refine Runs.cond_nyes rfl ?_ ?_); · first | omega | rfl | assumption | (simp only [List.length_map]; omega)) | refine Runs.cond_dec rfl (fun h => ?_) (fun h => ?_) | refine Runs.cond_ndec rfl (fun h => ?_) (fun h => ?_) )
 | refine op_box rfl (tl hn rfl) ?_
    )
  all_goals refine Runs.ctls 30 rfl ?_
  all_goals first
    | refine mO_end (t := 0) (more := [⟨59, 0, (insR i).map .ro⟩]) rfl ?_ rfl
    | refine mO_ret (t := 0) (more := [⟨59, 0, (insR i).map .ro⟩]) rfl ?_ rfl
  all_goals first
    | (refine mO_app ?_; simp [*]; done)
    | (refine (show _ = mO m ++ _ from rfl).trans (mO_app ?_); simp [*]; done)
set_option maxHeartbeats 4000000 in
theorem readUntil_am (m : Mch) (i : Ins) (b : Int) : AM Try.prog 175 (mO m) [0] [.obj 0 0, .ro (.agg (insR i)), .int b] (mO (if m.escaped = false ∧ b = i.a then mSkip m else { m with escaped := !m.escaped && decide (b = 92), left := 1 })) (.tup []) := by
  refine am_enter Try.func175 rfl _ Try.ntmps175 (by simp) (by simp) fun C gs hn => ?_
  repeat' (first
 | refine op_callP 3 (readSkip_am m) rfl (by simp [AV.onlys, AV.only]) (by simp [AV.only, AV.onlys]) rfl rfl rfl (mO_free _) (mO_free _) rfl (by first | exact trivial | exact ⟨rfl, trivial⟩ | exact ⟨rfl, rfl, trivial⟩ | exact ⟨rfl, rfl, rfl, trivial⟩ | exact ⟨rfl, rfl, rfl, rfl, trivial⟩) (fun t h => by injection h with h; subst h; exact tl hn rfl) ?_
 | refine RunsL.step tabOk hn rfl ?_
 | refine RunsL.nil ?_
 | refine Runs.toRegion 30 rfl ?_
 | (refine RunsL.pe hn rfl rfl rfl ?_; first
 | refine ⟨_, pu_nilCheckP rfl, ?_⟩)
 | (refine Runs.ctls 30 rfl ?_; first | refine Runs.cond_f rfl ?_ | ((first | refine Runs.cond_yes rfl ?_ ?_ | refine Runs.cond_nno rfl ?_ ?_); · first | omega | rfl | assumption | (simp only [List.length_map]; omega)) | ((first | refine Runs.cond_no rfl ?_ ?_ | refine Runs.cond_nyes rfl ?_ ?_); · first | omega | rfl | assumption | (simp only [List.length_map]; omega)) | refine Runs.cond_dec rfl (fun h => ?_) (fun h => ?_) )
 | refine op_box rfl (tl hn rfl) ?_
 | refine op_storeF rfl rfl rfl rfl (Nat.le_of_ble_eq_true rfl) ?_
 | ((first | refine RunsL.guard_dec rfl rfl rfl ?_ ?_ | refine RunsL.guard_ndec rfl rfl rfl ?_ ?_ | refine RunsL.guard_nb rfl rfl rfl ?_ ?_ | refine RunsL.guard_b rfl rfl rfl ?_ ?_) <;> intro h <;> try (exfalso; first | omega | contradiction | (simp only [List.length_map] at h; omega))))
  all_goals refine Runs.ctls 30 rfl ?_
  all_goals first
    | refine mO_end (t := 0) (more := [⟨59, 0, (insR i).map .ro⟩]) rfl ?_ rfl
    | refine mO_ret (t := 0) (more := [⟨59, 0, (insR i).map .ro⟩]) rfl ?_ rfl
  all_goals first
    | (refine mO_app ?_; simp [*]; done)
    | (exfalso; simp_all; done)
    | (refine (show _ = mO { m with escaped := decide (b = 92), left := 1 } ++ _ from rfl).trans (mO_app ?_); simp [*]; done)
    | (refine (show _ = mO { m with escaped := false, left := 1 } ++ _ from rfl).trans (mO_app ?_); simp [*]; done)
set_option maxHeartbeats 4000000 in
theorem readInteger_am (m : Mch) (i : Ins) (b : Int) (hs : i.b = 1 → 0 ≤ i.a - m.left - 1 ∧ i.a - m.left - 1 ≤ 3 ∧ 0 ≤ i.a ∧ i.a ≤ 4) (hb : 0 ≤ b ∧ b ≤ 255) : AM Try.prog 171 (mO m) [0] [.obj 0 0, .ro (.agg (insR i)), .int b] (mO (mSkip { m with register := if i.b = 1 then w64 (m.register + b * 2 ^ (8 * (i.a - m.left - 1)).toNat) else w64 (w64 (256 * m.register) + b) })) (.tup []) := by
  refine am_enter Try.func171 rfl _ Try.ntmps171 (by simp) (by simp) fun C gs hn => ?_
  by_cases h1 : i.b = 1
  · obtain ⟨s1, s2, s3, s4⟩ := hs h1
    repeat' (first
 | refine Runs.toDrawT (id := 2) 30 [] [0, 1, 2, 3, 4, 5, 6, 7, 8, 9, 10, 11, 12, 13, 14, 15, 16, 17] 18 [] mixed hn rfl (by kernel_rfl) rfl .nil (by decide) (by decide) (by decide) ?_
 | refine op_callP 3 (readSkip_am { m with register := w64 (m.register + b * 2 ^ (8 * (i.a - m.left - 1)).toNat) }) rfl (by simp [AV.onlys, AV.only]) (by simp [AV.only, AV.onlys]) rfl rfl rfl (mO_free _) (mO_free _) rfl (by first | exact trivial | exact ⟨rfl, trivial⟩ | exact ⟨rfl, rfl, trivial⟩ | exact ⟨rfl, rfl, rfl, trivial⟩ | exact ⟨rfl, rfl, rfl, rfl, trivial⟩) (fun t h => by injection h with h; subst h; exact tl hn rfl) ?_
 | refine RunsT.nil ?_
 | refine RunsT.step tabOk rfl rfl (fun _ => rfl) (by decide) ?_
 | refine RunsT.pur (fun _ => pu_nilCheckP rfl) (by decide) rfl rfl ?_
 | refine RunsT.pur (fun _ => pu_shl8 rfl rfl ⟨by omega, by omega⟩ hb) (by decide) rfl rfl ?_
 | refine RunsT.pur (fun _ => pu_sub rfl rfl (by omega)) (by decide) rfl rfl ?_
 | refine RunsT.pur (fun _ => pu_mul rfl rfl (by omega)) (by decide) rfl rfl ?_
 | refine RunsT.pur (fun _ => pu_addW (t := 24) rfl rfl) (by decide) rfl rfl ?_
 | refine RunsL.step tabOk hn rfl ?_
 | refine RunsL.nil ?_
 | refine Runs.toRegion 30 rfl ?_
 | ((first | refine RunsL.pe hn rfl rfl rfl ?_ | refine RunsD.pe rfl rfl ?_); first
 | refine ⟨_, pu_nilCheckP rfl, ?_⟩
 | refine ⟨_, pu_shl8 rfl rfl ⟨by omega, by omega⟩ hb, ?_⟩
 | refine ⟨_, pu_sub rfl rfl (by omega), ?_⟩
 | refine ⟨_, pu_mul rfl rfl (by omega), ?_⟩
 | refine ⟨_, pu_addW (t := 24) rfl rfl, ?_⟩)
 | (refine Runs.ctls 30 rfl ?_; first | ((first | refine Runs.cond_yes rfl ?_ ?_ | refine Runs.cond_nno rfl ?_ ?_); · first | omega | rfl | assumption | (simp only [List.length_map]; omega)) | ((first | refine Runs.cond_no rfl ?_ ?_ | refine Runs.cond_nyes rfl ?_ ?_); · first | omega | rfl | assumption | (simp only [List.length_map]; omega)) )
 | refine op_box rfl (tl hn rfl) ?_
 | refine op_storeF rfl rfl rfl rfl (Nat.le_of_ble_eq_true rfl) ?_
 | ((first | refine RunsL.pe hn rfl rfl rfl ?_ | refine RunsD.pe rfl rfl ?_); first
 | refine ⟨_, pu_add rfl rfl (by omega), ?_⟩
 | refine ⟨_, pu_indexAddr_map rfl rfl (by omega) (by assumption), ?_⟩
 | refine ⟨_, pu_sub rfl rfl (by omega), ?_⟩
 | refine ⟨_, pu_pick_b rfl rfl rfl, ?_⟩
 | refine ⟨_, pu_mul rfl rfl (by omega), ?_⟩
 | refine ⟨_, pu_build rfl rfl rfl rfl rfl rfl, ?_⟩))
    refine Runs.ctls 30 rfl ?_
    refine mO_end (t := 0) (more := [⟨59, 0, (insR i).map .ro⟩]) rfl ?_ rfl
    exact mO_app (by rw [if_pos h1])
  · repeat' (first
 | refine op_callP 3 (readSkip_am { m with register := w64 (w64 (256 * m.register) + b) }) rfl (by simp [AV.onlys, AV.only]) (by simp [AV.only, AV.onlys]) rfl rfl rfl (mO_free _) (mO_free _) rfl (by first | exact trivial | exact ⟨rfl, trivial⟩ | exact ⟨rfl, rfl, trivial⟩ | exact ⟨rfl, rfl, rfl, trivial⟩ | exact ⟨rfl, rfl, rfl, rfl, trivial⟩) (fun t h => by injection h with h; subst h; exact tl hn rfl) ?_
 | refine RunsL.step tabOk hn rfl ?_
 | refine RunsL.nil ?_
 | refine Runs.toRegion 30 rfl ?_
 | ((first | refine RunsL.pe hn rfl rfl rfl ?_ | refine RunsD.pe rfl rfl ?_); first
 | refine ⟨_, pu_nilCheckP rfl, ?_⟩
 | refine ⟨_, pu_mulW rfl rfl, ?_⟩
 | refine ⟨_, pu_addW (t := 34) rfl rfl, ?_⟩)
 | (refine Runs.ctls 30 rfl ?_; first | ((first | refine Runs.cond_yes rfl ?_ ?_ | refine Runs.cond_nno rfl ?_ ?_); · first | omega | rfl | assumption | (simp only [List.length_map]; omega)) | ((first | refine Runs.cond_no rfl ?_ ?_ | refine Runs.cond_nyes rfl ?_ ?_); · first | omega | rfl | assumption | (simp only [List.length_map]; omega)) )
 | refine op_box rfl (tl hn rfl) ?_
 | refine op_storeF rfl rfl rfl rfl (Nat.le_of_ble_eq_true rfl) ?_
 | ((first | refine RunsL.pe hn rfl rfl rfl ?_ | refine RunsD.pe rfl rfl ?_); first
 | refine ⟨_, pu_add rfl rfl (by omega), ?_⟩
 | refine ⟨_, pu_indexAddr_map rfl rfl (by omega) (by assumption), ?_⟩
 | refine ⟨_, pu_sub rfl rfl (by omega), ?_⟩
 | refine ⟨_, pu_pick_b rfl rfl rfl, ?_⟩
 | refine ⟨_, pu_mul rfl rfl (by omega), ?_⟩
 | refine ⟨_, pu_build rfl rfl rfl rfl rfl rfl, ?_⟩))
    refine Runs.ctls 30 rfl ?_
    refine mO_end (t := 0) (more := [⟨59, 0, (insR i).map .ro⟩]) rfl ?_ rfl
    exact mO_app (by rw [if_neg h1])
end Go.Proofs.Ytnecoghfhcimeaa
/- The machine counts a byte. -/
namespace Go.Proofs.Ytnecoghfhcimeaa
set_option linter.unusedSimpArgs false
set_option linter.unusedVariables false
open Go.RowKit
open AV (Mem Keeps)
set_option maxRecDepth 100000
def cntF (b z : Int) : Int := (w64 (z + b)).tmod 256
def cntS (b : Int) (s : List Int) (j : Nat) : List Int := (s.take j).map (cntF b) ++ s.drop j
theorem cntS_len (b : Int) (s : List Int) (j : Nat) : (cntS b s j).length = s.length := by
  unfold cntS
  rw [List.length_append, List.length_map, List.length_take, List.length_drop]
  omega
theorem cntS_at {b : Int} {s : List Int} {j : Nat} {z : Int} (h : s[j]? = some z) : (cntS b s j)[j]? = some z := by
  have hj := (List.getElem?_eq_some_iff.1 h).1
  unfold cntS
  rw [List.getElem?_append_right (by rw [List.length_map, List.length_take]; omega), List.length_map, List.length_take, List.getElem?_drop]
  rw [show j + (j - min j s.length) = j by omega, h]
theorem cntS_next {b : Int} {s : List Int} {j : Nat} {z : Int} (h : s[j]? = some z) : (cntS b s j).set j (cntF b z) = cntS b s (j + 1) := by
  have hj := (List.getElem?_eq_some_iff.1 h).1
  have hlen : ((s.take j).map (cntF b)).length = j := by rw [List.length_map, List.length_take]; omega
  have hd : s.drop j = z :: s.drop (j + 1) := by
    rw [List.drop_eq_getElem_cons hj]
    have := (List.getElem?_eq_some_iff.1 h).2
    rw [this]
  unfold cntS
  rw [List.set_append_right _ _ (by omega), hlen, Nat.sub_self, hd, List.set_cons_zero, List.take_add_one, h, List.map_append, List.append_assoc]
  rfl
set_option maxHeartbeats 4000000 in
theorem count_am (m : Mch) (b : Int) (hm : MLen m) : AM Try.prog 169 (mO m) [0] [.obj 0 0, .int b] (mO (mCount m b)) (.tup []) := by
  refine am_enter Try.func169 rfl _ Try.ntmps169 (by simp) (by simp) fun C gs hn => ?_
  have hb := hm.2
  have hl : ((m.sums.map RV.int).map AV.ro).length = m.sums.length * 1 := by simp
  repeat' (first
 | refine RunsL.step tabOk hn rfl ?_
 | refine RunsL.nil ?_
 | refine Runs.toRegion 30 rfl ?_
 | ((first | refine RunsL.pe hn rfl rfl rfl ?_ | refine RunsD.pe rfl rfl ?_); first
 | refine ⟨_, pu_nilCheckP rfl, ?_⟩
 | refine ⟨_, pu_len_own (n := m.sums.length) rfl rfl hl, ?_⟩)
 | (refine Runs.ctls 30 rfl ?_; first | ((first | refine Runs.cond_yes rfl ?_ ?_ | refine Runs.cond_nno rfl ?_ ?_); · first | omega | rfl | assumption | (simp only [List.length_map]; omega)) | ((first | refine Runs.cond_no rfl ?_ ?_ | refine Runs.cond_nyes rfl ?_ ?_); · first | omega | rfl | assumption | (simp only [List.length_map]; omega)) )
 | refine op_storeF rfl rfl rfl rfl (Nat.le_of_ble_eq_true rfl) ?_
 | ((first | refine RunsL.pe hn rfl rfl rfl ?_ | refine RunsD.pe rfl rfl ?_); first
 | refine ⟨_, pu_add rfl rfl (by omega), ?_⟩
 | refine ⟨_, pu_indexAddr_map rfl rfl (by omega) (by assumption), ?_⟩
 | refine ⟨_, pu_sub rfl rfl (by omega), ?_⟩
 | refine ⟨_, pu_pick_b rfl rfl rfl, ?_⟩
 | refine ⟨_, pu_mul rfl rfl (by omega), ?_⟩
 | refine ⟨_, pu_build rfl rfl rfl rfl rfl rfl, ?_⟩))
  refine Runs.loopN 30 rfl (fun j => [(0, .pin 0 0 (gs 0)), (1, .int b), (9, .int (m.sums.length : Int)), (10, .int (j : Int))]) (fun j => mO { m with sums := cntS b m.sums j }) (fun _ => True) m.sums.length 0 (Nat.zero_le _) trivial ⟨rfl, rfl, rfl, rfl, trivial⟩ (by rw [show cntS b m.sums 0 = m.sums by simp [cntS]]) fun j hj _ next => ?_
  have hcl : (((cntS b m.sums j).map RV.int).map AV.ro).length = m.sums.length * 1 := by simp [cntS_len]
  by_cases hlt : j < m.sums.length
  · obtain ⟨z, hz⟩ : ∃ z, m.sums[j]? = some z := ⟨_, List.getElem?_eq_getElem hlt⟩
    have hc := cntS_at (b := b) hz
    have hc' : (((cntS b m.sums j).map RV.int).map AV.ro)[(j : Int).toNat * 1]? = some (.ro (.int z)) := by simp [hc]
    repeat' (first
 | refine Runs.toDrawT (id := 3) 30 [] [0, 1, 2, 3, 4, 5, 6, 7, 8, 9, 10, 11, 12, 13, 14, 15] 16 [] mixed hn rfl (by kernel_rfl) rfl .nil (by decide) (by decide) (by decide) ?_
 | refine op_storeF rfl rfl rfl rfl (by simp [cntS_len]; omega) ?_
 | refine RunsT.nil ?_
 | refine RunsT.step tabOk rfl rfl (fun _ => rfl) (by decide) ?_
 | refine RunsT.pur (fun _ => pu_nilCheckP rfl) (by decide) rfl rfl ?_
 | refine RunsT.pur (fun _ => pu_indexAddr_own (n := m.sums.length) (sz := 1) rfl rfl rfl rfl hcl (by omega) (by omega)) (by decide) rfl rfl ?_
 | refine RunsT.pur (fun _ => pu_load_obj rfl rfl hc') (by decide) rfl rfl ?_
 | refine RunsT.pur (fun _ => pu_rem256 rfl rfl) (by decide) rfl rfl ?_
 | refine RunsT.pur (fun _ => pu_addW (t := 26) rfl rfl) (by decide) rfl rfl ?_
 | refine RunsT.pur (fun _ => pu_add rfl rfl (by omega)) (by decide) rfl rfl ?_
 | refine RunsL.step tabOk hn rfl ?_
 | refine RunsL.nil ?_
 | refine Runs.toRegion 30 rfl ?_
 | ((first | refine RunsL.pe hn rfl rfl rfl ?_ | refine RunsD.pe rfl rfl ?_); first
 | refine ⟨_, pu_nilCheckP rfl, ?_⟩
 | refine ⟨_, pu_indexAddr_own (n := m.sums.length) (sz := 1) rfl rfl rfl rfl hcl (by omega) (by omega), ?_⟩
 | refine ⟨_, pu_load_obj rfl rfl hc', ?_⟩
 | refine ⟨_, pu_rem256 rfl rfl, ?_⟩
 | refine ⟨_, pu_addW (t := 26) rfl rfl, ?_⟩)
 | (refine Runs.ctls 30 rfl ?_; first | ((first | refine Runs.cond_yes rfl ?_ ?_ | refine Runs.cond_nno rfl ?_ ?_); · first | omega | rfl | assumption | (simp only [List.length_map]; omega)) | ((first | refine Runs.cond_no rfl ?_ ?_ | refine Runs.cond_nyes rfl ?_ ?_); · first | omega | rfl | assumption | (simp only [List.length_map]; omega)) )
 | refine op_storeF rfl rfl rfl rfl (Nat.le_of_ble_eq_true rfl) ?_
 | ((first | refine RunsL.pe hn rfl rfl rfl ?_ | refine RunsD.pe rfl rfl ?_); first
 | refine ⟨_, pu_add rfl rfl (by omega), ?_⟩
 | refine ⟨_, pu_indexAddr_map rfl rfl (by omega) (by assumption), ?_⟩
 | refine ⟨_, pu_sub rfl rfl (by omega), ?_⟩
 | refine ⟨_, pu_pick_b rfl rfl rfl, ?_⟩
 | refine ⟨_, pu_mul rfl rfl (by omega), ?_⟩
 | refine ⟨_, pu_build rfl rfl rfl rfl rfl rfl, ?_⟩))
    refine next _ _ ⟨rfl, rfl, rfl, rfl, trivial⟩ hlt trivial ?_
    rw [← cntS_next hz]
    unfold mO
    simp only []
    rw [List.map_set, List.map_set, show (((cntS b m.sums j).map RV.int).map AV.ro).set j (AV.ro (RV.int (cntF b z))) = (((cntS b m.sums j).map RV.int).map AV.ro).set ((j : Int).toNat * 1) (AV.ro (RV.int (cntF b z))) from by rw [show (j : Int).toNat * 1 = j by simp]]
    rfl
  · obtain rfl : j = m.sums.length := by omega
    repeat' (first
 | refine RunsL.step tabOk hn rfl ?_
 | refine RunsL.nil ?_
 | refine Runs.toRegion 30 rfl ?_
 | ((first | refine RunsL.pe hn rfl rfl rfl ?_ | refine RunsD.pe rfl rfl ?_); first
 | refine ⟨_, pu_nilCheckP rfl, ?_⟩
 | refine ⟨_, pu_addW rfl rfl, ?_⟩
 | refine ⟨_, pu_subW rfl rfl, ?_⟩)
 | (refine Runs.ctls 30 rfl ?_; first | ((first | refine Runs.cond_yes rfl ?_ ?_ | refine Runs.cond_nno rfl ?_ ?_); · first | omega | rfl | assumption | (simp only [List.length_map]; omega)) | ((first | refine Runs.cond_no rfl ?_ ?_ | refine Runs.cond_nyes rfl ?_ ?_); · first | omega | rfl | assumption | (simp only [List.length_map]; omega)) )
 | refine op_storeF rfl rfl rfl rfl (Nat.le_of_ble_eq_true rfl) ?_
 | ((first | refine RunsL.pe hn rfl rfl rfl ?_ | refine RunsD.pe rfl rfl ?_); first
 | refine ⟨_, pu_add rfl rfl (by omega), ?_⟩
 | refine ⟨_, pu_indexAddr_map rfl rfl (by omega) (by assumption), ?_⟩
 | refine ⟨_, pu_sub rfl rfl (by omega), ?_⟩
 | refine ⟨_, pu_pick_b rfl rfl rfl, ?_⟩
 | refine ⟨_, pu_mul rfl rfl (by omega), ?_⟩
 | refine ⟨_, pu_build rfl rfl rfl rfl rfl rfl, ?_⟩))
    refine Runs.ctls 30 rfl ?_
    refine mO_end (t := 0) (more := []) rfl ?_ rfl
    rw [show mCount m b = { m with sums := cntS b m.sums m.sums.length, read := w64 (m.read + 1), left := w64 (m.left - 1) } from by simp [mCount, cntS, cntF]]
    rfl
end Go.Proofs.Ytnecoghfhcimeaa
/- Closures that hold objects of the frame's. Over any program. -/
namespace Go.Proofs.Ytnecoghfhcimeaa
set_option linter.unusedSimpArgs false
set_option linter.unusedVariables false
open Go.RowKit
open AV (Mem Keeps)
theorem avs_app {m : Mem} : ∀ (xs : List AV) (us : List Value) {ys : List AV} {vs : List Value}, AV.rels m xs us → AV.rels m ys vs → AV.rels m (xs ++ ys) (us ++ vs)
  | [], us, ys, vs, h, h' => by
    simp only [AV.rels] at h
    subst h
    exact h'
  | x :: xs, us, ys, vs, h, h' => by
    simp only [AV.rels] at h
    obtain ⟨u, us', rfl, h1, h2⟩ := h
    simp only [List.cons_append, AV.rels]
    exact ⟨u, us' ++ vs, rfl, h1, avs_app xs us' h2 h'⟩
section
variable {P : Program} {C : Ctx} {ops : Array Oper} {rest : List Oper} {k : List Item} {R : Act → World → Prop} {env : Env} {σ : List Ob} {t : Nat} {ty : TypeId} {pos : String} {after : Array Edge}
theorem op_callMC {f : FuncId} {fn : Func} {x : Operand} {xs : Array Operand} {ats : Array TypeId} {σ0 σ1 : List Ob} {st : List Nat} {args cap : List AV} {v : AV} {d : Option Nat} [hfn : FN P f fn] (ι : List Nat) (hx : ev env x = .fn (.func f) [] cap) (hf : AM P f σ0 st args σ1 v)
    (ha : (xs.toList.map (ev env) ++ cap).map unpin = AV.rens (rof ι) args) (hcl : AV.onlys (fun i => i < σ0.length) args) (hL : Lent ι st σ σ0 σ1) (ht : ∀ t, d = some t → t < C.n)
    (hk : RunsL P C ops rest k R ⟨putEnv d (v.ren (rof ι)) (ridEnv (lentB ι) (stB' ι st) env), putObs ι σ σ1 0⟩) :
    RunsL P C ops (⟨d, .call { callee := .value x, args := xs, argTypes := ats }, ty, pos, after, none⟩ :: rest) k R ⟨env, σ⟩ := by
  refine ⟨fun a w ⟨s1, s2, φ, hG, hH⟩ => ?_⟩
  refine wpList_plain rfl fun K hK' => ?_
  have h0 := ev_rel hH x
  rw [hx] at h0
  simp only [AV.rel, AV.rels] at h0
  obtain ⟨us, vs, e, hu, hv0⟩ := h0
  have hu' : us = #[] := by cases us; simp_all
  subst hu'
  have hr := rels_unpin _ _ (avs_app _ _ (rels_eval (a := a) (m := ⟨w, φ, σ, C.ok⟩) xs.toList fun x hx => ev_rel hH x) hv0)
  rw [ha] at hr
  obtain ⟨hG0, hun⟩ := lent_good hL hG rfl
  have key : ∀ (vs : List AV) (us : List Value), AV.onlys (fun i => i < σ0.length) vs → AV.rels ⟨w, φ, σ, C.ok⟩ (AV.rens (rof ι) vs) us → AV.rels ⟨w, fun j => φ (rof ι j), σ0, fun b => C.ok b ∧ ∀ i, i < σ.length → lentB ι i = false → φ i ≠ some b⟩ vs us := by
    intro vs
    induction vs with
    | nil => intro us _ h; simpa [AV.rens, AV.rels] using h
    | cons x xs ih =>
      intro us ho h
      simp only [AV.rens, AV.rels, AV.onlys] at h ho ⊢
      obtain ⟨u, us', e, h1, h2⟩ := h
      exact ⟨u, us', e, hun x u ho.1 h1, ih us' ho.2 h2⟩
  unfold Oper.wp execOp
  simp only [resolve, e, Deferred.ofValue, Sem.run_bind, Sem.run_pure, Result.andThen_ok, invoke]
  rw [run_call hfn]
  simp only [Oper.upon]
  refine (hf w _ _ _ hG0 (by simpa using key args _ hcl hr)).mono ?_
  rintro e w' ⟨u, φ1, rfl, hG1, hv, hst⟩
  obtain ⟨φ', g1, g2, g3⟩ := lent_step hL hG rfl hG1 hst
  cases d with
  | none => exact hK' _ _ (hk.run _ _ ⟨s1, s2, φ', g1, fun s => by rw [show look (⟨putEnv none _ _, _⟩ : St).env s = _ from look_ridEnv _ _ _ _]; exact g2 _ _ (hH s)⟩)
  | some t => exact hK' _ _ (hk.run _ _ ⟨s1, by simp [Act.put, s2], φ', g1, Holds.put (fun s => by rw [look_ridEnv]; exact g2 _ _ (hH s)) (by rw [s2]; exact ht t rfl) (g3 _ _ hv)⟩)
theorem op_callPC {f : FuncId} {fn : Func} {x : Operand} {xs : Array Operand} {ats : Array TypeId} {σ0 σ1 more : List Ob} {st : List Nat} {args cap : List AV} {v : AV} {d : Option Nat} [hfn : FN P f fn] (n : Nat) (hx : ev env x = .fn (.func f) [] cap) (hf : AM P f σ0 st args σ1 v)
    (ha : (xs.toList.map (ev env) ++ cap).map unpin = args) (hcl : AV.onlys (fun i => i < n) args) (hv : v.only fun i => i < n) (hσ : σ = σ0 ++ more) (hn0 : Nat.beq σ0.length n = true) (hn1 : Nat.beq σ1.length n = true) (h0 : FreeO n σ0) (h1 : FreeO n σ1) (hst : (st.all fun j => Nat.ble (j + 1) n) = true) (hfree : FreeP n st more) (ht : ∀ t, d = some t → t < C.n)
    (hk : RunsL P C ops rest k R ⟨putEnv d v (ridEnv (ltB n) (memB st) env), σ1 ++ more⟩) :
    RunsL P C ops (⟨d, .call { callee := .value x, args := xs, argTypes := ats }, ty, pos, after, none⟩ :: rest) k R ⟨env, σ⟩ := by
  subst hσ
  obtain ⟨hL, hp⟩ := lent_range hn0 hn1 h0 h1 hst hfree
  have hr : ∀ i, i < n → rof (List.range n) i = i := fun i hi => rof_range hi
  have e0 : σ0.length = n := Nat.eq_of_beq_eq_true hn0
  refine op_callMC (List.range n) hx hf (by rw [ha, rens_id hr args hcl]) (by rw [e0]; exact hcl) hL ht ?_
  rw [hp, lentB_range, stB_range hst, ren_id hr v hv]
  exact hk
theorem Pur.unpin {o : Oper} {v : AV} {s i off g : Nat} (hs : look env s = .pin i off g) (h : Pur P C o ((s, .obj i off) :: env) σ v) : Pur P C o env σ v :=
  ⟨fun a m hG hσ hH K Q hK => h.run a m hG hσ (fun x hx => by
    have h0 := hH x hx
    cases x with
    | tmp s' =>
      show AV.rel m (look ((s, .obj i off) :: env) s') _
      rw [look_put]
      split
      · rename_i e
        subst e
        have h1 : AV.rel m (look env s) (a.eval (.tmp s)) := h0
        rw [hs] at h1
        exact unpin_rel (v := .pin i off g) h1
      · exact h0
    | const c => exact h0
    | global c => exact h0
    | func c => exact h0) K Q hK⟩
theorem equalIn_fn {w : World} {xt : TypeId} {f : Fn} {us vs : Array Value} {ps rs : _} {vr : _} (d : Nat) (hu : P.underlying xt = some (.func ps rs vr)) : (Op.equalIn (d + 1) xt (.func f us vs) .nilFunc).run P w = .ok false w := by
  simp [Op.equalIn, run_underlying hu]
theorem pu_neqNil {gd : Option (Nat × Bool)} {xt yt : TypeId} {x y : Operand} {f : Fn} {a b : List AV} {ps rs : _} {vr : _} (hu : P.underlying xt = some (.func ps rs vr)) (hx : ev env x = .fn f a b) (hy : ev env y = .ro (.c .nilFunc)) : Pur P C ⟨some t, .binOp .neq xt x y yt, ty, pos, after, gd⟩ env σ (.bool true) :=
  Pur.of (fun ac m hG hσ hH => by
    have h := hH x (by simp [Op.operands, Call.operands])
    rw [hx] at h
    simp only [AV.rel] at h
    obtain ⟨us, vs, e, _, _⟩ := h
    have h' := hH y (by simp [Op.operands, Call.operands])
    rw [hy] at h'
    simp only [AV.rel, RV.rel] at h'
    refine ⟨.bool true, ?_, by simp [AV.rel, RV.rel]⟩
    simp only [execOp, e, h']
    simp [go_sem, binOp, Op.equal]
    rw [show Op.maxDepth = 9999 + 1 from rfl, equalIn_fn _ hu]
    rfl)
theorem equalIn_nil {w : World} {xt : TypeId} {ps rs : _} {vr : _} (d : Nat) (hu : P.underlying xt = some (.func ps rs vr)) : (Op.equalIn (d + 1) xt .nilFunc .nilFunc).run P w = .ok true w := by
  simp [Op.equalIn, run_underlying hu]
theorem pu_neqNN {gd : Option (Nat × Bool)} {xt yt : TypeId} {x y : Operand} {ps rs : _} {vr : _} (hu : P.underlying xt = some (.func ps rs vr)) (hx : ev env x = .ro (.c .nilFunc)) (hy : ev env y = .ro (.c .nilFunc)) : Pur P C ⟨some t, .binOp .neq xt x y yt, ty, pos, after, gd⟩ env σ (.bool false) :=
  Pur.of (fun ac m hG hσ hH => by
    have h := hH x (by simp [Op.operands, Call.operands])
    rw [hx] at h
    have h' := hH y (by simp [Op.operands, Call.operands])
    rw [hy] at h'
    simp only [AV.rel, RV.rel] at h h'
    refine ⟨.bool false, ?_, by simp [AV.rel, RV.rel]⟩
    simp only [execOp, h, h']
    simp [go_sem, binOp, Op.equal]
    rw [show Op.maxDepth = 9999 + 1 from rfl, equalIn_nil _ hu]
    rfl)
end
theorem am_enterG {P : Program} {f : FuncId} {fn : Func} {c : Code} {σ σ' : List Ob} {st : List Nat} {args : List AV} {v : AV} (hf : P.funcs[f]? = some fn) (hb : fn.body = some c) (n : Nat) (hn : fn.ntmps = n) (hl : args.length ≤ n)
    (g j k off : Nat) {o : Ob} (ho : σ[j]? = some o) (hk : o.cs[k]? = some (.pin 0 off g)) (hst : ∀ i ∈ st, i = 0 ∨ ∃ off, AV.obj i off ∈ args)
    (h : ∀ (C : Ctx) (gs : Nat → Nat), C.n = n → gs 0 = g → Runs P C [.code c] (EndsA P C fn gs st σ' v) ⟨startEnvA 0 (args.map (pinA gs)), σ⟩) : AM P f σ st args σ' v := by
  intro w φ ok us hG hu
  have hlen := AV.rels_len args _ hu
  have h0 : φ 0 = some g := by
    have hob := hG.ob j o ho
    simp only at hob
    cases hφ : φ j with
    | none =>
      rw [hφ] at hob
      simp only [ObRel] at hob
      rw [hob] at hk
      simp at hk
    | some b =>
      rw [hφ] at hob
      obtain ⟨us', q1, q2, q3⟩ := hob
      obtain ⟨u, e1, e2, e3⟩ := q3 k _ hk
      simp only [AV.rel] at e3
      exact e3.2.1
  refine calls_of_fin hf hb ?_
  let gs : Nat → Nat := fun i => (φ i).getD 0
  have hs : Sim ⟨w, ok, mine φ σ.length, n⟩ ⟨startEnvA 0 (args.map (pinA gs)), σ⟩ { tmps := us ++ Array.replicate (fn.ntmps - us.size) undef, defers := [] } w := by
    refine ⟨rfl, by simp at hlen ⊢; omega, φ, good_n hG, fun t => ?_⟩
    rw [startA_look]
    simp only [Nat.zero_le, if_true, Nat.sub_zero, List.getElem?_map]
    cases hr : args[t]? with
    | none => simp [AV.rel]
    | some r =>
      obtain ⟨u, e1, e2⟩ := AV.rels_at args _ hu t r hr
      have ht : t < us.size := by have := (List.getElem?_eq_some_iff.1 e1).1; simpa using this
      have : (us ++ Array.replicate (fn.ntmps - us.size) undef).getD t undef = u := by
        rw [Array.getD_eq_getD_getElem?, Array.getElem?_append_left ht]
        have : us[t]? = some u := by simpa using e1
        simp [this]
      simp only [Option.map_some, Option.getD_some]
      rw [this]
      cases r <;> simp only [pinA] <;> try exact e2
      case obj i off =>
        simp only [AV.rel] at e2 ⊢
        obtain ⟨k1, g, k2, k3⟩ := e2
        have : gs i = g := by simp only [gs, k2, Option.getD_some]
        rw [this]
        exact ⟨k1, k2, k3⟩
  have hr := (h ⟨w, ok, mine φ σ.length, n⟩ gs rfl (by simp only [gs, h0, Option.getD_some])).run _ w hs
  intro b cs
  obtain ⟨a', w', todo, ⟨hd, u, hv, φ', h1, h2, h3⟩, hstep⟩ := hr b cs
  refine ⟨a', w', todo, ⟨hd, u, hv, u, φ', rfl, good_n h1, h2, fun i hi => ?_⟩, hstep⟩
  rcases hst i hi with rfl | ⟨off, ho⟩
  · rw [h3 0 hi]
    simp only [gs, h0, Option.getD_some]
  · obtain ⟨j, hj⟩ := List.mem_iff_getElem?.1 ho
    obtain ⟨u', _, e2⟩ := AV.rels_at args _ hu j _ hj
    simp only [AV.rel] at e2
    obtain ⟨_, g, k2, _⟩ := e2
    rw [h3 i hi]
    simp only [gs, k2, Option.getD_some]
end Go.Proofs.Ytnecoghfhcimeaa
/- Array literals. Over any program. -/
namespace Go.Proofs.Ytnecoghfhcimeaa
set_option linter.unusedSimpArgs false
set_option linter.unusedVariables false
open Go.RowKit
open AV (Mem Keeps)
class TBR (P : Program) (t : TypeId) (zs : outParam (List Value)) : Prop where
  h : ∃ it n e z ie, P.info? t = some it ∧ P.underlying t = some (.array n e) ∧ it.zero = some z ∧ z.cells = zs.toArray ∧ P.info? e = some ie ∧ ie.size = 1 ∧ ∀ x ∈ zs, x.oneCell' = true
def fillF (pl : Nat → Option (Nat × Nat)) (env : Env) : List AV → List (Nat × Operand) → Option (List AV)
  | cells, [] => some cells
  | cells, (i, x) :: l => match pl i with
    | some (off, size) => match cells? (ev env x) with
      | some cs => match Nat.beq cs.length size, Nat.ble (off + size) cells.length with
        | true, true => fillF pl env (setsAt cells off cs) l
        | _, _ => none
      | none => none
    | none => none
theorem fillF_ok {m : Mem} {env : Env} {a : Act} {pl : Nat → Option (Nat × Nat)} : ∀ (l : List (Nat × Operand)) (vs vs' : List AV) (cells : Array Value), (∀ p ∈ l, AV.rel m (ev env p.2) (a.eval p.2)) → cells.size = vs.length → (∀ (j : Nat) x, vs[j]? = some x → ∃ y, cells[j]? = some y ∧ y.oneCell' = true ∧ AV.rel m x y) →
    fillF pl env vs l = some vs' → ∃ cells', Instr.fill pl cells (l.map fun p => (p.1, a.eval p.2)) = some cells' ∧ cells'.size = vs'.length ∧ ∀ (j : Nat) x, vs'[j]? = some x → ∃ y, cells'[j]? = some y ∧ y.oneCell' = true ∧ AV.rel m x y
  | [], vs, vs', cells, _, hs, hv, h => by
    simp only [fillF, Option.some.injEq] at h
    subst h
    exact ⟨cells, rfl, hs, hv⟩
  | (i, x) :: l, vs, vs', cells, hH, hs, hv, h => by
    unfold fillF at h
    split at h
    · rename_i off size hp
      split at h
      · rename_i cs hc
        split at h
        · rename_i hb1 hb2
          have e1 := Nat.eq_of_beq_eq_true hb1
          have e2 := Nat.le_of_ble_eq_true hb2
          obtain ⟨c1, c2⟩ := cells_rel (hH (i, x) (by simp)) hc
          obtain ⟨k1, k2⟩ := sets_array (m := m) (a.eval x).cells.toList 0 cells off cs vs (by simpa using c1) (fun j y hj => by simpa using c2 j y hj) (by omega) hs hv
          rw [Nat.add_zero] at k2
          obtain ⟨cells', q1, q2⟩ := fillF_ok l _ vs' _ (fun p hp => hH p (by simp [hp])) (by rw [setsAt_len]; exact k1) k2 h
          refine ⟨cells', ?_, q2⟩
          simp only [List.map_cons, Instr.fill]
          rw [hp]
          simp only
          have c1' : (a.eval x).cells.size = cs.length := c1
          rw [if_neg (by rw [c1']; simp; omega), ← q1]
          congr 1
          rw [← Array.foldl_toList, Array.toList_zipIdx]
        · cases h
      · cases h
    · cases h
def oneP (i : Nat) : Option (Nat × Nat) := some (i * 1, 1)
section
variable {P : Program} {C : Ctx} {env : Env} {σ : List Ob} {t : Nat} {ty : TypeId} {pos : String} {after : Array Edge} {gd : Option (Nat × Bool)}
theorem pu_buildR {tt : TypeId} {parts : Array (Nat × Operand)} {zs : List Value} {vs : List AV} [hb : TBR P tt zs] (h : fillF oneP env (zs.map fun v => .ro (.c v)) parts.toList = some vs) :
    Pur P C ⟨some t, .build tt parts, ty, pos, after, gd⟩ env σ (aggOf vs) :=
  Pur.of (fun a m hG hσ hH => by
    obtain ⟨it, n, e, z, ie, h1, h2, h3, h4, h5, h7, h6⟩ := hb.h
    obtain ⟨cells', q1, q2, q3⟩ := fillF_ok (m := m) (a := a) parts.toList _ vs zs.toArray (fun p hp => hH p.2 (by simp [Op.operands]; exact ⟨p.1, by simpa using hp⟩)) (by simp) (fun j x hj => by
      rw [List.getElem?_map, Option.map_eq_some_iff] at hj
      obtain ⟨y, hy, rfl⟩ := hj
      exact ⟨y, by simpa using hy, h6 y (List.mem_of_getElem? hy), by simp [AV.rel, RV.rel]⟩) h
    have hbt : P.built tt (parts.map fun p => (p.1, a.eval p.2)).toList = some cells' := by
      unfold Program.built
      simp only [h1, h2, h3, h5, h4, h7]
      rw [Array.toList_map]
      exact q1
    refine ⟨.agg cells', by simp only [execOp]; exact by simp [run_build m.w tt _ _ hbt], ?_⟩
    have hrel : AV.rels m vs cells'.toList := AV.rels_of _ _ (by simpa using q2) fun j r u hj hu => by
      obtain ⟨y, e1, _, e3⟩ := q3 j r hj
      have : y = u := by simpa [e1] using hu
      rwa [this] at e3
    unfold aggOf
    split
    · rename_i rs hrs
      rw [allRo_eq hrs] at hrel
      simp only [AV.rel, RV.rel]
      exact ⟨_, rfl, rels_ro_inv _ _ hrel⟩
    · simp only [AV.rel]
      exact ⟨_, rfl, hrel⟩)
end
end Go.Proofs.Ytnecoghfhcimeaa
/- The machine takes a byte: the closures. -/
namespace Go.Proofs.Ytnecoghfhcimeaa
set_option linter.unusedSimpArgs false
set_option linter.unusedVariables false
open Go.RowKit
open AV (Mem Keeps)
set_option maxRecDepth 100000
def tO (g : Nat) (i : Ins) (b : Int) : List Ob := [⟨140, 0, [.pin 0 0 g]⟩, ⟨59, 0, (insR i).map .ro⟩, ⟨3, 0, [.int b]⟩]
theorem tO_free (m : Mch) (g : Nat) (i : Ins) (b : Int) : FreeO 6 (mO m ++ tO g i b) := by
  simp only [mO, tO, List.cons_append, List.nil_append, FreeO]
  exact ⟨by simp [AV.onlys, AV.only], onlysr _ _, onlysr _ _, by simp [AV.onlys, AV.only], onlysr _ _, by simp [AV.onlys, AV.only], trivial⟩
theorem tO_app {m m' : Mch} {g : Nat} {i : Ins} {b : Int} (h : m = m') : mO m ++ tO g i b = mO m' ++ tO g i b := by rw [h]
theorem st4 {env : Env} {gs : Nat → Nat} {k a b c : Nat} (h0 : look env k = .pin 0 0 (gs 0)) (h3 : look env a = .pin 3 0 (gs 3)) (h4 : look env b = .pin 4 0 (gs 4)) (h5 : look env c = .pin 5 0 (gs 5)) : ∀ i ∈ [0, 3, 4, 5], ∃ t off, look env t = .pin i off (gs i) := fun i hi => by
  simp only [List.mem_cons, List.not_mem_nil, or_false] at hi
  rcases hi with rfl | rfl | rfl | rfl
  · exact ⟨k, 0, h0⟩
  · exact ⟨a, 0, h3⟩
  · exact ⟨b, 0, h4⟩
  · exact ⟨c, 0, h5⟩
theorem take1_am (g : Nat) (m : Mch) (i : Ins) (b : Int) (hs : i.b = 1 → 0 ≤ i.a - m.left - 1 ∧ i.a - m.left - 1 ≤ 3 ∧ 0 ≤ i.a ∧ i.a ≤ 4) (hb : 0 ≤ b ∧ b ≤ 255) : AM Try.prog 170 (mO m ++ tO g i b) [0, 3, 4, 5] [.obj 3 0, .obj 4 0, .obj 5 0] (mO (mSkip { m with register := if i.b = 1 then w64 (m.register + b * 2 ^ (8 * (i.a - m.left - 1)).toNat) else w64 (w64 (256 * m.register) + b) }) ++ tO g i b) (.tup []) := by
  refine am_enterG Try.func170 rfl _ Try.ntmps170 (by simp) g 3 0 0 rfl rfl (by simp) fun C gs hn hg => ?_
  subst hg
  repeat' (first
 | refine op_callP 3 (readInteger_am m i b hs hb) rfl (by simp [AV.onlys, AV.only]) (by simp [AV.only, AV.onlys]) rfl rfl rfl (mO_free _) (mO_free _) rfl (by first | exact trivial | exact ⟨rfl, trivial⟩ | exact ⟨rfl, rfl, trivial⟩ | exact ⟨rfl, rfl, rfl, trivial⟩ | exact ⟨rfl, rfl, rfl, rfl, trivial⟩) (fun t h => by injection h with h; subst h; exact tl hn rfl) ?_
 | refine RunsL.nil ?_
 | refine Runs.toRegion 30 rfl ?_
 | (refine RunsL.pe hn rfl rfl rfl ?_; first
 | refine ⟨_, Pur.unpin (s := 0) rfl (pu_load_obj rfl rfl rfl), ?_⟩
 | refine ⟨_, Pur.unpin (s := 0) rfl (pu_loadN_objR rfl rfl rfl rfl), ?_⟩
 | refine ⟨_, Pur.unpin (s := 1) rfl (pu_load_obj rfl rfl rfl), ?_⟩
 | refine ⟨_, Pur.unpin (s := 1) rfl (pu_loadN_objR rfl rfl rfl rfl), ?_⟩
 | refine ⟨_, Pur.unpin (s := 2) rfl (pu_load_obj rfl rfl rfl), ?_⟩
 | refine ⟨_, Pur.unpin (s := 2) rfl (pu_loadN_objR rfl rfl rfl rfl), ?_⟩)
 | (refine Runs.ctls 30 rfl ?_; first | ((first | refine Runs.cond_yes rfl ?_ ?_ | refine Runs.cond_nno rfl ?_ ?_); · first | omega | rfl | assumption | (simp only [List.length_map]; omega)) | ((first | refine Runs.cond_no rfl ?_ ?_ | refine Runs.cond_nyes rfl ?_ ?_); · first | omega | rfl | assumption | (simp only [List.length_map]; omega)) )
    )
  refine Runs.ctls 30 rfl ?_
  exact Runs.end_ (endsA0 (st4 (k := 3) (a := 0) (b := 1) (c := 2) rfl rfl rfl rfl) rfl rfl)
theorem take2_am (g : Nat) (m : Mch) (i : Ins) (b : Int)  : AM Try.prog 172 (mO m ++ tO g i b) [0, 3, 4, 5] [.obj 3 0, .obj 4 0, .obj 5 0] (mO (if 1 < b then mFail m 4 else if m.left ≠ 0 then m else { m with started := false, pc := if b = 0 then i.a else w64 (m.pc + 1) }) ++ tO g i b) (.tup []) := by
  refine am_enterG Try.func172 rfl _ Try.ntmps172 (by simp) g 3 0 0 rfl rfl (by simp) fun C gs hn hg => ?_
  subst hg
  repeat' (first
 | refine op_callP 3 (readFlag_am m i b) rfl (by simp [AV.onlys, AV.only]) (by simp [AV.only, AV.onlys]) rfl rfl rfl (mO_free _) (mO_free _) rfl (by first | exact trivial | exact ⟨rfl, trivial⟩ | exact ⟨rfl, rfl, trivial⟩ | exact ⟨rfl, rfl, rfl, trivial⟩ | exact ⟨rfl, rfl, rfl, rfl, trivial⟩) (fun t h => by injection h with h; subst h; exact tl hn rfl) ?_
 | refine RunsL.nil ?_
 | refine Runs.toRegion 30 rfl ?_
 | (refine RunsL.pe hn rfl rfl rfl ?_; first
 | refine ⟨_, Pur.unpin (s := 0) rfl (pu_load_obj rfl rfl rfl), ?_⟩
 | refine ⟨_, Pur.unpin (s := 0) rfl (pu_loadN_objR rfl rfl rfl rfl), ?_⟩
 | refine ⟨_, Pur.unpin (s := 1) rfl (pu_load_obj rfl rfl rfl), ?_⟩
 | refine ⟨_, Pur.unpin (s := 1) rfl (pu_loadN_objR rfl rfl rfl rfl), ?_⟩
 | refine ⟨_, Pur.unpin (s := 2) rfl (pu_load_obj rfl rfl rfl), ?_⟩
 | refine ⟨_, Pur.unpin (s := 2) rfl (pu_loadN_objR rfl rfl rfl rfl), ?_⟩)
 | (refine Runs.ctls 30 rfl ?_; first | ((first | refine Runs.cond_yes rfl ?_ ?_ | refine Runs.cond_nno rfl ?_ ?_); · first | omega | rfl | assumption | (simp only [List.length_map]; omega)) | ((first | refine Runs.cond_no rfl ?_ ?_ | refine Runs.cond_nyes rfl ?_ ?_); · first | omega | rfl | assumption | (simp only [List.length_map]; omega)) )
    )
  refine Runs.ctls 30 rfl ?_
  exact Runs.end_ (endsA0 (st4 (k := 3) (a := 0) (b := 1) (c := 2) rfl rfl rfl rfl) rfl rfl)
theorem take3_am (g : Nat) (m : Mch) (i : Ins) (b : Int)  : AM Try.prog 174 (mO m ++ tO g i b) [0, 3, 4, 5] [.obj 3 0, .obj 4 0, .obj 5 0] (mO (if m.escaped = false ∧ b = i.a then mSkip m else { m with escaped := !m.escaped && decide (b = 92), left := 1 }) ++ tO g i b) (.tup []) := by
  refine am_enterG Try.func174 rfl _ Try.ntmps174 (by simp) g 3 0 0 rfl rfl (by simp) fun C gs hn hg => ?_
  subst hg
  repeat' (first
 | refine op_callP 3 (readUntil_am m i b) rfl (by simp [AV.onlys, AV.only]) (by simp [AV.only, AV.onlys]) rfl rfl rfl (mO_free _) (mO_free _) rfl (by first | exact trivial | exact ⟨rfl, trivial⟩ | exact ⟨rfl, rfl, trivial⟩ | exact ⟨rfl, rfl, rfl, trivial⟩ | exact ⟨rfl, rfl, rfl, rfl, trivial⟩) (fun t h => by injection h with h; subst h; exact tl hn rfl) ?_
 | refine RunsL.nil ?_
 | refine Runs.toRegion 30 rfl ?_
 | (refine RunsL.pe hn rfl rfl rfl ?_; first
 | refine ⟨_, Pur.unpin (s := 0) rfl (pu_load_obj rfl rfl rfl), ?_⟩
 | refine ⟨_, Pur.unpin (s := 0) rfl (pu_loadN_objR rfl rfl rfl rfl), ?_⟩
 | refine ⟨_, Pur.unpin (s := 1) rfl (pu_load_obj rfl rfl rfl), ?_⟩
 | refine ⟨_, Pur.unpin (s := 1) rfl (pu_loadN_objR rfl rfl rfl rfl), ?_⟩
 | refine ⟨_, Pur.unpin (s := 2) rfl (pu_load_obj rfl rfl rfl), ?_⟩
 | refine ⟨_, Pur.unpin (s := 2) rfl (pu_loadN_objR rfl rfl rfl rfl), ?_⟩)
 | (refine Runs.ctls 30 rfl ?_; first | ((first | refine Runs.cond_yes rfl ?_ ?_ | refine Runs.cond_nno rfl ?_ ?_); · first | omega | rfl | assumption | (simp only [List.length_map]; omega)) | ((first | refine Runs.cond_no rfl ?_ ?_ | refine Runs.cond_nyes rfl ?_ ?_); · first | omega | rfl | assumption | (simp only [List.length_map]; omega)) )
    )
  refine Runs.ctls 30 rfl ?_
  exact Runs.end_ (endsA0 (st4 (k := 3) (a := 0) (b := 1) (c := 2) rfl rfl rfl rfl) rfl rfl)
theorem take4_am (g : Nat) (m : Mch) (i : Ins) (b : Int)  : AM Try.prog 176 (mO m ++ tO g i b) [0, 3, 4, 5] [.obj 5 0, .obj 4 0, .obj 3 0] (mO (if b ≠ i.a then mFail m 2 else mSkip m) ++ tO g i b) (.tup []) := by
  refine am_enterG Try.func176 rfl _ Try.ntmps176 (by simp) g 3 0 0 rfl rfl (by simp) fun C gs hn hg => ?_
  subst hg
  repeat' (first
 | refine op_callP 3 (failWith_am m 2) rfl (by simp [AV.onlys, AV.only]) (by simp [AV.only, AV.onlys]) rfl rfl rfl (mO_free _) (mO_free _) rfl (by first | exact trivial | exact ⟨rfl, trivial⟩ | exact ⟨rfl, rfl, trivial⟩ | exact ⟨rfl, rfl, rfl, trivial⟩ | exact ⟨rfl, rfl, rfl, rfl, trivial⟩) (fun t h => by injection h with h; subst h; exact tl hn rfl) ?_
 | refine op_callP 3 (readSkip_am m) rfl (by simp [AV.onlys, AV.only]) (by simp [AV.only, AV.onlys]) rfl rfl rfl (mO_free _) (mO_free _) rfl (by first | exact trivial | exact ⟨rfl, trivial⟩ | exact ⟨rfl, rfl, trivial⟩ | exact ⟨rfl, rfl, rfl, trivial⟩ | exact ⟨rfl, rfl, rfl, rfl, trivial⟩) (fun t h => by injection h with h; subst h; exact tl hn rfl) ?_
 | refine RunsL.step tabOk hn rfl ?_
 | refine RunsL.nil ?_
 | refine Runs.toRegion 30 rfl ?_
 | (refine RunsL.pe hn rfl rfl rfl ?_; first
 | refine ⟨_, Pur.unpin (s := 0) rfl (pu_load_obj rfl rfl rfl), ?_⟩
 | refine ⟨_, Pur.unpin (s := 1) rfl (pu_load_obj rfl rfl rfl), ?_⟩
 | refine ⟨_, Pur.unpin (s := 2) rfl (pu_load_obj rfl rfl rfl), ?_⟩
      )
 | (refine Runs.ctls 30 rfl ?_; first | ((first | refine Runs.cond_yes rfl ?_ ?_ | refine Runs.cond_nno rfl ?_ ?_); · first | omega | rfl | assumption | (simp only [List.length_map]; omega)) | ((first | refine Runs.cond_no rfl ?_ ?_ | refine Runs.cond_nyes rfl ?_ ?_); · first | omega | rfl | assumption | (simp only [List.length_map]; omega)) | refine Runs.cond_ndec rfl (fun h => ?_) (fun h => ?_) | refine Runs.ret (ends_ro hm rfl rfl ?_) | exact Runs.ret (ends_cellR hm rfl rfl rfl (Nat.le_of_ble_eq_true rfl) rfl rfl))
    )
  · refine Runs.ctls 30 rfl ?_
    exact Runs.ret (endsA0 (st4 (k := 7) (a := 2) (b := 1) (c := 0) rfl rfl rfl rfl) rfl (tO_app (by rw [if_pos (by assumption)])))
  · refine Runs.ctls 30 rfl ?_
    exact Runs.end_ (endsA0 (st4 (k := 9) (a := 2) (b := 1) (c := 0) rfl rfl rfl rfl) rfl (tO_app (by rw [if_neg (by simp [*])])))
end Go.Proofs.Ytnecoghfhcimeaa
/- The machine takes a byte. -/
namespace Go.Proofs.Ytnecoghfhcimeaa
set_option linter.unusedSimpArgs false
set_option linter.unusedVariables false
open Go.RowKit
open AV (Mem Keeps)
set_option maxRecDepth 100000
instance tbr_take : TBR Try.prog 158 (List.replicate 18 .nilFunc) := ⟨_, _, _, _, _, rfl, rfl, rfl, by kernel_rfl, rfl, rfl, by decide⟩
instance t1_take : T1 Try.prog 1 := ⟨by kernel_rfl⟩
instance tz_take : TZ Try.prog 158 (List.replicate 18 .nilFunc) := ⟨_, _, rfl, rfl, rfl, fun x hx => by rw [List.eq_of_mem_replicate hx]; rfl⟩
def nilF : AV := .ro (.c .nilFunc)
def takeT : List AV := [nilF, .fn (.func 170) [] [.obj 3 0, .obj 4 0, .obj 5 0], .fn (.func 176) [] [.obj 5 0, .obj 4 0, .obj 3 0], nilF, nilF, nilF, nilF, nilF, nilF, nilF, nilF, nilF, nilF, .fn (.func 172) [] [.obj 3 0, .obj 4 0, .obj 5 0], nilF, nilF, .fn (.func 174) [] [.obj 3 0, .obj 4 0, .obj 5 0], nilF]
theorem pu_buildT {P : Program} {C : Ctx} {env : Env} {σ : List Ob} {t : Nat} {ty : TypeId} {pos : String} {after : Array Edge} {gd : Option (Nat × Bool)} {tt : TypeId} {parts : Array (Nat × Operand)} {zs : List Value} [hb : TBR P tt zs] (h : fillF oneP env (zs.map fun v => .ro (.c v)) parts.toList = some takeT) : Pur P C ⟨some t, .build tt parts, ty, pos, after, gd⟩ env σ (.agg takeT) := pu_buildR h
set_option maxHeartbeats 16000000 in
theorem take_amN (m : Mch) (i : Ins) (b : Int) (hm : MLen m) (ho : 0 ≤ i.op ∧ i.op ≤ 17) (h15 : i.op ≠ 15) (hb : 0 ≤ b ∧ b ≤ 255) (h1 : i.op = 1 → 1 ≤ m.left ∧ m.left ≤ i.a ∧ i.a ≤ 4) : AM Try.prog 145 (mO m) [0] [.obj 0 0, .ro (.agg (insR i)), .int b] (mO (mTake m i b)) (.tup []) := by
  refine am_enter Try.func145 rfl _ Try.ntmps145 (by simp) (by simp) fun C gs hn => ?_
  have hL := mCount_len (b := b) hm
  obtain ⟨op, ia, ib⟩ := i
  simp only at ho h15 h1
  have hs : op = 1 → ib = 1 → 0 ≤ ia - (mCount m b).left - 1 ∧ ia - (mCount m b).left - 1 ≤ 3 ∧ 0 ≤ ia ∧ ia ≤ 4 := fun e _ => by
    have := h1 e
    have hw : (mCount m b).left = m.left - 1 := w64_id (by omega)
    rw [hw]
    omega
  have ht : mTake m ⟨op, ia, ib⟩ b = mRead (mCount m b) ⟨op, ia, ib⟩ b := by unfold mTake; rw [if_neg h15]
  rw [ht]
  clear ht h1
  have hop : op = 0 ∨ op = 1 ∨ op = 2 ∨ op = 3 ∨ op = 4 ∨ op = 5 ∨ op = 6 ∨ op = 7 ∨ op = 8 ∨ op = 9 ∨ op = 10 ∨ op = 11 ∨ op = 12 ∨ op = 13 ∨ op = 14 ∨ op = 16 ∨ op = 17 := by omega
  rcases hop with rfl | rfl | rfl | rfl | rfl | rfl | rfl | rfl | rfl | rfl | rfl | rfl | rfl | rfl | rfl | rfl | rfl
  all_goals
    repeat' (first
 | refine op_callP 3 (count_am m b hm) rfl (by simp [AV.onlys, AV.only]) (by simp [AV.only, AV.onlys]) rfl rfl rfl (mO_free _) (mO_free _) rfl (by first | exact trivial | exact ⟨rfl, trivial⟩ | exact ⟨rfl, rfl, trivial⟩ | exact ⟨rfl, rfl, rfl, trivial⟩ | exact ⟨rfl, rfl, rfl, rfl, trivial⟩) (fun t h => by injection h with h; subst h; exact tl hn rfl) ?_
 | refine op_callP 3 (readSkip_am (mCount m b)) rfl (by simp [AV.onlys, AV.only]) (by simp [AV.only, AV.onlys]) rfl rfl rfl (mO_free _) (mO_free _) rfl (by first | exact trivial | exact ⟨rfl, trivial⟩ | exact ⟨rfl, rfl, trivial⟩ | exact ⟨rfl, rfl, rfl, trivial⟩ | exact ⟨rfl, rfl, rfl, rfl, trivial⟩) (fun t h => by injection h with h; subst h; exact tl hn rfl) ?_
 | refine op_callPC 6 rfl (take1_am (gs 0) (mCount m b) ⟨1, ia, ib⟩ b (hs rfl) hb) rfl (by simp [AV.onlys, AV.only]) (by simp [AV.only, AV.onlys]) rfl rfl rfl (tO_free _ _ _ _) (tO_free _ _ _ _) rfl ⟨rfl, trivial⟩ (fun t h => by injection h with h; subst h; exact tl hn rfl) ?_
 | refine op_callPC 6 rfl (take2_am (gs 0) (mCount m b) ⟨_, ia, ib⟩ b) rfl (by simp [AV.onlys, AV.only]) (by simp [AV.only, AV.onlys]) rfl rfl rfl (tO_free _ _ _ _) (tO_free _ _ _ _) rfl ⟨rfl, trivial⟩ (fun t h => by injection h with h; subst h; exact tl hn rfl) ?_
 | refine op_callPC 6 rfl (take3_am (gs 0) (mCount m b) ⟨_, ia, ib⟩ b) rfl (by simp [AV.onlys, AV.only]) (by simp [AV.only, AV.onlys]) rfl rfl rfl (tO_free _ _ _ _) (tO_free _ _ _ _) rfl ⟨rfl, trivial⟩ (fun t h => by injection h with h; subst h; exact tl hn rfl) ?_
 | refine op_callPC 6 rfl (take4_am (gs 0) (mCount m b) ⟨_, ia, ib⟩ b) rfl (by simp [AV.onlys, AV.only]) (by simp [AV.only, AV.onlys]) rfl rfl rfl (tO_free _ _ _ _) (tO_free _ _ _ _) rfl ⟨rfl, trivial⟩ (fun t h => by injection h with h; subst h; exact tl hn rfl) ?_
 | refine RunsL.step tabOk hn rfl ?_
 | refine RunsL.nil ?_
 | refine Runs.toRegion 30 rfl ?_
 | ((first | refine RunsL.pe hn rfl rfl rfl ?_ | refine RunsD.pe rfl rfl ?_); first
 | refine ⟨_, pu_nilCheckP rfl, ?_⟩
 | refine ⟨_, pu_buildT rfl, ?_⟩
 | refine ⟨_, pu_makeFunc, ?_⟩
 | refine ⟨_, pu_indexAddr_arr (t := 48) rfl rfl (by simp) (by simp), ?_⟩
 | refine ⟨_, pu_load_obj (t := 49) rfl rfl rfl, ?_⟩
 | refine ⟨_, pu_neqNil (t := 51) Try.underlying1 rfl rfl, ?_⟩
 | refine ⟨_, pu_neqNN (t := 51) Try.underlying1 rfl rfl, ?_⟩)
 | (refine Runs.ctls 30 rfl ?_; first | refine Runs.cond_t rfl ?_ | refine Runs.cond_f rfl ?_ | ((first | refine Runs.cond_yes rfl ?_ ?_ | refine Runs.cond_nno rfl ?_ ?_); · first | omega | rfl | assumption | (simp only [List.length_map]; omega)) | ((first | refine Runs.cond_no rfl ?_ ?_ | refine Runs.cond_nyes rfl ?_ ?_); · first | omega | rfl | assumption | (simp only [List.length_map]; omega)) )
 | refine op_box rfl (tl hn rfl) ?_
 | refine op_alloc (tl hn rfl) ?_
 | refine op_storeN rfl rfl rfl rfl (Nat.le_of_ble_eq_true rfl) ?_
 | ((first | refine RunsL.pe hn rfl rfl rfl ?_ | refine RunsD.pe rfl rfl ?_); first
 | refine ⟨_, pu_add rfl rfl (by omega), ?_⟩
 | refine ⟨_, pu_indexAddr_map rfl rfl (by omega) (by assumption), ?_⟩
 | refine ⟨_, pu_sub rfl rfl (by omega), ?_⟩
 | refine ⟨_, pu_pick_b rfl rfl rfl, ?_⟩
 | refine ⟨_, pu_mul rfl rfl (by omega), ?_⟩
 | refine ⟨_, pu_build rfl rfl rfl rfl rfl rfl, ?_⟩))
    all_goals refine Runs.ctls 30 rfl ?_
    all_goals first
      | (refine mO_ret (t := 0) rfl ((List.append_assoc _ _ _).trans (mO_app ?_)) rfl
         simp [mRead]; done)
      | (refine mO_end (t := 0) rfl (mO_app ?_) rfl
         simp [mRead]; done)
end Go.Proofs.Ytnecoghfhcimeaa
/- The machine takes a byte: a sum. -/
namespace Go.Proofs.Ytnecoghfhcimeaa
set_option linter.unusedSimpArgs false
set_option linter.unusedVariables false
open Go.RowKit
open AV (Mem Keeps)
set_option maxRecDepth 100000
set_option maxHeartbeats 16000000 in
theorem take_am15 (m : Mch) (i : Ins) (b : Int) (hm : MLen m) (h15 : i.op = 15) (hs : m.sums.length ≠ 0) : AM Try.prog 145 (mO m) [0] [.obj 0 0, .ro (.agg (insR i)), .int b] (mO (mTake m i b)) (.tup []) := by
  refine am_enter Try.func145 rfl _ Try.ntmps145 (by simp) (by simp) fun C gs hn => ?_
  obtain ⟨op, ia, ib⟩ := i
  simp only at h15
  subst h15
  have hb := hm.2
  have hl : ((m.sums.map RV.int).map AV.ro).length = m.sums.length * 1 := by simp
  obtain ⟨z, hz⟩ : ∃ z, m.sums[m.sums.length - 1]? = some z := ⟨_, List.getElem?_eq_getElem (by omega)⟩
  have hz' : ((m.sums.map RV.int).map AV.ro)[((m.sums.length : Int) - 1).toNat * 1]? = some (.ro (.int z)) := by
    rw [show ((m.sums.length : Int) - 1).toNat * 1 = m.sums.length - 1 by omega]; simp [hz]
  have e1 : ((m.sums.map RV.int).map AV.ro).take (((m.sums.length : Int) - 1).toNat * 1) = ((m.sums.take (m.sums.length - 1)).map RV.int).map AV.ro := by
    rw [show ((m.sums.length : Int) - 1).toNat * 1 = m.sums.length - 1 by omega, List.map_take, List.map_take]
  have hm' : MLen { m with sums := m.sums.take (m.sums.length - 1) } := ⟨hm.1, by simp only [List.length_take]; omega⟩
  have hC := count_am { m with sums := m.sums.take (m.sums.length - 1) } b hm'
  have hS := readSkip_am (mCount { m with sums := m.sums.take (m.sums.length - 1) } b)
  have ht : mTake m ⟨15, ia, ib⟩ b = (if z ≠ b then mFail m 5 else mSkip (mCount { m with sums := m.sums.take (m.sums.length - 1) } b)) := by
    unfold mTake; rw [if_pos rfl, hz]; simp [mRead]
  rw [ht]
  clear ht
  repeat' (first
 | refine Runs.toStill (id := 5) 30 9 mixed rfl (by kernel_rfl) (by kernel_rfl) ?_
 | refine RunsL.junk 0 3 rfl (op_cut (i := 2) (n := m.sums.length) (q := (m.sums.length : Int) - 1) rfl rfl rfl rfl hl (by omega) (by omega) (by omega) (by repeat' (first | exact trivial | exact onlysr _ _ | exact (by decide : (1 : Nat) ≠ 2) | exact (by decide : (0 : Nat) ≠ 2) | refine And.intro ?_ ?_)) (fun j v hj => onlys_mem (onlysr _ _) j v hj) (tl hn rfl) ?_)
 | refine op_callP 3 (failWith_am m 5) rfl (by simp [AV.onlys, AV.only]) (by simp [AV.only, AV.onlys]) rfl rfl rfl (mO_free _) (mO_free _) rfl (by first | exact trivial | exact ⟨rfl, trivial⟩ | exact ⟨rfl, rfl, trivial⟩ | exact ⟨rfl, rfl, rfl, trivial⟩ | exact ⟨rfl, rfl, rfl, rfl, trivial⟩) (fun t h => by injection h with h; subst h; exact tl hn rfl) ?_
 | refine RunsL.step tabOk hn rfl ?_
 | refine RunsL.nil ?_
 | refine Runs.toRegion 30 rfl ?_
 | ((first | refine RunsL.pe hn rfl rfl rfl ?_ | refine RunsD.pe rfl rfl ?_); first
 | refine ⟨_, pu_nilCheckP rfl, ?_⟩
 | refine ⟨_, pu_len_own (n := m.sums.length) rfl rfl hl, ?_⟩
 | refine ⟨_, pu_sub rfl rfl (by omega), ?_⟩
 | refine ⟨_, pu_indexAddr_own (n := m.sums.length) (sz := 1) rfl rfl rfl rfl hl (by omega) (by omega), ?_⟩
 | refine ⟨_, pu_load_obj rfl rfl hz', ?_⟩)
 | (refine Runs.ctls 30 rfl ?_; first | refine Runs.cond_t rfl ?_ | refine Runs.cond_f rfl ?_ | ((first | refine Runs.cond_yes rfl ?_ ?_ | refine Runs.cond_nno rfl ?_ ?_); · first | omega | rfl | assumption | (simp only [List.length_map]; omega)) | ((first | refine Runs.cond_no rfl ?_ ?_ | refine Runs.cond_nyes rfl ?_ ?_); · first | omega | rfl | assumption | (simp only [List.length_map]; omega)) | refine Runs.cond_ndec rfl (fun h => ?_) (fun h => ?_) )
 | refine op_box rfl (tl hn rfl) ?_
 | refine op_storeF rfl rfl rfl rfl (Nat.le_of_ble_eq_true rfl) ?_
 | refine op_alloc (tl hn rfl) ?_
 | refine op_storeN rfl rfl rfl rfl (Nat.le_of_ble_eq_true rfl) ?_
 | refine RunsD.step tabOk hn rfl rfl ?_
 | refine RunsD.nil ?_
 | refine Runs.toDraw 30 mixed hn rfl (by kernel_rfl) rfl ?_
 | ((first | refine RunsL.pe hn rfl rfl rfl ?_ | refine RunsD.pe rfl rfl ?_); first
 | refine ⟨_, pu_add rfl rfl (by omega), ?_⟩
 | refine ⟨_, pu_indexAddr_map rfl rfl (by omega) (by assumption), ?_⟩
 | refine ⟨_, pu_sub rfl rfl (by omega), ?_⟩
 | refine ⟨_, pu_pick_b rfl rfl rfl, ?_⟩
 | refine ⟨_, pu_mul rfl rfl (by omega), ?_⟩
 | refine ⟨_, pu_build rfl rfl rfl rfl rfl rfl, ?_⟩))
  · refine Runs.ctls 30 rfl ?_
    refine mO_ret (t := 0) rfl (mO_app ?_) rfl
    rw [if_pos (by assumption)]
  · rw [e1]
    repeat' (first
 | refine op_callP 3 (hC) rfl (by simp [AV.onlys, AV.only]) (by simp [AV.only, AV.onlys]) rfl rfl rfl (mO_free _) (mO_free _) rfl (by first | exact trivial | exact ⟨rfl, trivial⟩ | exact ⟨rfl, rfl, trivial⟩ | exact ⟨rfl, rfl, rfl, trivial⟩ | exact ⟨rfl, rfl, rfl, rfl, trivial⟩) (fun t h => by injection h with h; subst h; exact tl hn rfl) ?_
 | refine op_callP 3 (hS) rfl (by simp [AV.onlys, AV.only]) (by simp [AV.only, AV.onlys]) rfl rfl rfl (mO_free _) (mO_free _) rfl (by first | exact trivial | exact ⟨rfl, trivial⟩ | exact ⟨rfl, rfl, trivial⟩ | exact ⟨rfl, rfl, rfl, trivial⟩ | exact ⟨rfl, rfl, rfl, rfl, trivial⟩) (fun t h => by injection h with h; subst h; exact tl hn rfl) ?_
 | refine RunsL.step tabOk hn rfl ?_
 | refine RunsL.nil ?_
 | refine Runs.toRegion 30 rfl ?_
 | ((first | refine RunsL.pe hn rfl rfl rfl ?_ | refine RunsD.pe rfl rfl ?_); first
 | refine ⟨_, pu_nilCheckP rfl, ?_⟩
 | refine ⟨_, pu_buildT rfl, ?_⟩
 | refine ⟨_, pu_makeFunc, ?_⟩
 | refine ⟨_, pu_indexAddr_arr (t := 48) rfl rfl (by simp) (by simp), ?_⟩
 | refine ⟨_, pu_load_obj (t := 49) rfl rfl rfl, ?_⟩
 | refine ⟨_, pu_neqNN (t := 51) Try.underlying1 rfl rfl, ?_⟩)
 | (refine Runs.ctls 30 rfl ?_; first | refine Runs.cond_t rfl ?_ | refine Runs.cond_f rfl ?_ | ((first | refine Runs.cond_yes rfl ?_ ?_ | refine Runs.cond_nno rfl ?_ ?_); · first | omega | rfl | assumption | (simp only [List.length_map]; omega)) | ((first | refine Runs.cond_no rfl ?_ ?_ | refine Runs.cond_nyes rfl ?_ ?_); · first | omega | rfl | assumption | (simp only [List.length_map]; omega)) | refine Runs.cond_ndec rfl (fun h => ?_) (fun h => ?_) )
 | refine op_box rfl (tl hn rfl) ?_
 | refine op_storeF rfl rfl rfl rfl (Nat.le_of_ble_eq_true rfl) ?_
 | refine op_alloc (tl hn rfl) ?_
 | refine op_storeN rfl rfl rfl rfl (Nat.le_of_ble_eq_true rfl) ?_
 | refine RunsD.step tabOk hn rfl rfl ?_
 | refine RunsD.nil ?_
 | refine Runs.toDraw 30 mixed hn rfl (by kernel_rfl) rfl ?_
 | ((first | refine RunsL.pe hn rfl rfl rfl ?_ | refine RunsD.pe rfl rfl ?_); first
 | refine ⟨_, pu_add rfl rfl (by omega), ?_⟩
 | refine ⟨_, pu_indexAddr_map rfl rfl (by omega) (by assumption), ?_⟩
 | refine ⟨_, pu_sub rfl rfl (by omega), ?_⟩
 | refine ⟨_, pu_pick_b rfl rfl rfl, ?_⟩
 | refine ⟨_, pu_mul rfl rfl (by omega), ?_⟩
 | refine ⟨_, pu_build rfl rfl rfl rfl rfl rfl, ?_⟩))
    refine Runs.ctls 30 rfl ?_
    refine mO_end (t := 0) rfl (mO_app ?_) rfl
    rw [if_neg (by simp [*])]
theorem take_am (m : Mch) (i : Ins) (b : Int) (hm : MLen m) (ho : 0 ≤ i.op ∧ i.op ≤ 17) (hb : 0 ≤ b ∧ b ≤ 255) (h1 : i.op = 1 → 1 ≤ m.left ∧ m.left ≤ i.a ∧ i.a ≤ 4) (hs : i.op = 15 → m.sums.length ≠ 0) : AM Try.prog 145 (mO m) [0] [.obj 0 0, .ro (.agg (insR i)), .int b] (mO (mTake m i b)) (.tup []) := by
  by_cases h : i.op = 15
  · exact take_am15 m i b hm h (hs h)
  · exact take_amN m i b hm ho h hb h1
end Go.Proofs.Ytnecoghfhcimeaa
/- The machine is fed a byte. -/
namespace Go.Proofs.Ytnecoghfhcimeaa
set_option linter.unusedSimpArgs false
set_option linter.unusedVariables false
open Go.RowKit
open AV (Mem Keeps)
set_option maxRecDepth 100000
set_option maxHeartbeats 16000000 in
theorem feed_am (p : Prg) (f : Bool) (m : Mch) (b : Int) (hm : MLen m) (hc : p.code.length ≤ 4194304) (hf : f = true → ∀ (k : Nat) x, p.code[k]? = some x → OpOk x) (hb : 0 ≤ b ∧ b ≤ 255) : AM Try.prog 102 (mO m) [0] [.obj 0 0, .ro (prgR p), .bool f, .int b] (mO (mFeed p f m b)) (.tup []) := by
  refine am_enter Try.func102 rfl _ Try.ntmps102 (by simp) (by simp) fun C gs hn => ?_
  have hlc : (p.code.map insR).length = p.code.length := List.length_map ..
  have hA := advance_am p f m hm hc
  have hL := mAdv_len (p := p) (f := f) hm
  have hI := fun h => mAdv_idx (p := p) (f := f) (m := m) h
  have hF : mFeed p f m b = (if (mAdv p f m).state = 1 then mFail (mAdv p f m) 7 else if (mAdv p f m).state ≠ 0 then mAdv p f m else mByte p (mAdv p f m) b) := rfl
  rw [hF]
  clear hF
  generalize mAdv p f m = q at hA hL hI ⊢
  by_cases h1 : q.state = 1
  · repeat' (first
 | refine op_callP 3 (hA) rfl (by simp [AV.onlys, AV.only]) (by simp [AV.only, AV.onlys]) rfl rfl rfl (mO_free _) (mO_free _) rfl (by first | exact trivial | exact ⟨rfl, trivial⟩ | exact ⟨rfl, rfl, trivial⟩ | exact ⟨rfl, rfl, rfl, trivial⟩ | exact ⟨rfl, rfl, rfl, rfl, trivial⟩) (fun t h => by injection h with h; subst h; exact tl hn rfl) ?_
 | refine op_callP 3 (failWith_am q 7) rfl (by simp [AV.onlys, AV.only]) (by simp [AV.only, AV.onlys]) rfl rfl rfl (mO_free _) (mO_free _) rfl (by first | exact trivial | exact ⟨rfl, trivial⟩ | exact ⟨rfl, rfl, trivial⟩ | exact ⟨rfl, rfl, rfl, trivial⟩ | exact ⟨rfl, rfl, rfl, rfl, trivial⟩) (fun t h => by injection h with h; subst h; exact tl hn rfl) ?_
 | refine RunsL.step tabOk hn rfl ?_
 | refine RunsL.nil ?_
 | refine Runs.toRegion 30 rfl ?_
 | ((first | refine RunsL.pe hn rfl rfl rfl ?_ | refine RunsD.pe rfl rfl ?_); first
 | refine ⟨_, pu_nilCheckP rfl, ?_⟩)
 | (refine Runs.ctls 30 rfl ?_; first | refine Runs.cond_t rfl ?_ | refine Runs.cond_f rfl ?_ | ((first | refine Runs.cond_yes rfl ?_ ?_ | refine Runs.cond_nno rfl ?_ ?_); · first | omega | rfl | assumption | (simp only [List.length_map]; omega)) | ((first | refine Runs.cond_no rfl ?_ ?_ | refine Runs.cond_nyes rfl ?_ ?_); · first | omega | rfl | assumption | (simp only [List.length_map]; omega)) )
 | refine op_box rfl (tl hn rfl) ?_
 | refine op_storeN rfl rfl rfl rfl (Nat.le_of_ble_eq_true rfl) ?_
 | refine RunsD.step tabOk hn rfl rfl ?_
 | refine RunsD.nil ?_
 | refine Runs.toDraw 30 mixed hn rfl (by kernel_rfl) rfl ?_
 | ((first | refine RunsL.pe hn rfl rfl rfl ?_ | refine RunsD.pe rfl rfl ?_); first
 | refine ⟨_, pu_add rfl rfl (by omega), ?_⟩
 | refine ⟨_, pu_indexAddr_map rfl rfl (by omega) (by assumption), ?_⟩
 | refine ⟨_, pu_sub rfl rfl (by omega), ?_⟩
 | refine ⟨_, pu_pick_b rfl rfl rfl, ?_⟩
 | refine ⟨_, pu_mul rfl rfl (by omega), ?_⟩
 | refine ⟨_, pu_build rfl rfl rfl rfl rfl rfl, ?_⟩)
 | ((first | refine RunsL.guard_dec rfl rfl rfl ?_ ?_ | refine RunsL.guard_ndec rfl rfl rfl ?_ ?_ | refine RunsL.guard_nb rfl rfl rfl ?_ ?_ | refine RunsL.guard_b rfl rfl rfl ?_ ?_ | refine RunsD.guard_dec rfl rfl rfl ?_ ?_ | refine RunsD.guard_ndec rfl rfl rfl ?_ ?_ | refine RunsD.guard_nb rfl rfl rfl ?_ ?_ | refine RunsD.guard_b rfl rfl rfl ?_ ?_) <;> intro h <;> try (exfalso; first | omega | contradiction | (simp only [List.length_map] at h; omega))))
    all_goals first
      | (exfalso; omega)
      | (refine Runs.ctls 30 rfl ?_
         refine mO_ret (t := 0) (more := [⟨62, 0, [.ro (inssR p.code), .ro (intsR p.entries)]⟩]) rfl (mO_app ?_) rfl
         rw [if_pos h1])
  · by_cases h0 : q.state = 0
    · obtain ⟨hft, hst, hi⟩ := hI h0
      obtain ⟨x, hx⟩ : ∃ x, p.code[q.pc.toNat]? = some x := ⟨_, List.getElem?_eq_getElem (by unfold Idx at hi; omega)⟩
      have hxa : mAt p q = x := by unfold mAt; rw [hx]; rfl
      have hok := hf hft _ _ hx
      unfold Idx at hi
      have ho : 0 ≤ x.op ∧ x.op ≤ 17 := by have := hok.2.2.2.2.2; unfold InR at this; omega
      have ho1 : x.op = 1 → x.a ≤ 4 := fun h => by have := (hok.1 h).1; unfold InR at this; omega
      have hl : ((q.sums.map RV.int).map AV.ro).length = q.sums.length * 1 := by simp
      rw [if_neg h1, if_neg (by simp [h0])]
      unfold mByte
      rw [hxa]
      by_cases hbad : (x.op = 1 ∧ ¬ InR q.left 1 x.a) ∨ (x.op = 15 ∧ q.sums.length = 0)
      · rw [if_pos hbad]
        repeat' (first
 | refine Runs.toDrawT (id := 6) 30 [] [0, 1, 2, 3, 4, 5, 6, 7, 8] 9 [(8, 59, [.int .i64 0, .int .i64 0, .int .i64 0])] mixed hn rfl (by kernel_rfl) rfl .nil (by decide) (by decide) (by decide) ?_
 | refine op_callP 3 (hA) rfl (by simp [AV.onlys, AV.only]) (by simp [AV.only, AV.onlys]) rfl rfl rfl (mO_free _) (mO_free _) rfl (by first | exact trivial | exact ⟨rfl, trivial⟩ | exact ⟨rfl, rfl, trivial⟩ | exact ⟨rfl, rfl, rfl, trivial⟩ | exact ⟨rfl, rfl, rfl, rfl, trivial⟩) (fun t h => by injection h with h; subst h; exact tl hn rfl) ?_
 | refine op_callP 3 (failWith_am q 8) rfl (by simp [AV.onlys, AV.only]) (by simp [AV.only, AV.onlys]) rfl rfl rfl (mO_free _) (mO_free _) rfl (by first | exact trivial | exact ⟨rfl, trivial⟩ | exact ⟨rfl, rfl, trivial⟩ | exact ⟨rfl, rfl, rfl, trivial⟩ | exact ⟨rfl, rfl, rfl, rfl, trivial⟩) (fun t h => by injection h with h; subst h; exact tl hn rfl) ?_
 | refine RunsT.nil ?_
 | refine RunsT.step tabOk rfl rfl (fun _ => rfl) (by decide) ?_
 | refine RunsT.pur (fun _ => pu_nilCheckP rfl) (by decide) rfl rfl ?_
 | refine RunsT.pur (fun _ => pu_callR (inRange_ac _ _ _) rfl) (by decide) rfl rfl ?_
 | refine RunsT.pur (fun _ => pu_len_own (n := q.sums.length) rfl rfl hl) (by decide) rfl rfl ?_
 | refine RunsT.pur (fun _ => pu_indexAddr_map rfl rfl (by omega) (by assumption)) (by decide) rfl rfl ?_
 | refine RunsT.alloc (p := 0) rfl inferInstance ?_
 | refine RunsT.alloc (p := 1) rfl inferInstance ?_
 | refine RunsL.step tabOk hn rfl ?_
 | refine RunsL.nil ?_
 | refine Runs.toRegion 30 rfl ?_
 | ((first | refine RunsL.pe hn rfl rfl rfl ?_ | refine RunsD.pe rfl rfl ?_); first
 | refine ⟨_, pu_nilCheckP rfl, ?_⟩
 | refine ⟨_, pu_callR (inRange_ac _ _ _) rfl, ?_⟩
 | refine ⟨_, pu_len_own (n := q.sums.length) rfl rfl hl, ?_⟩)
 | (refine Runs.ctls 30 rfl ?_; first | refine Runs.cond_t rfl ?_ | refine Runs.cond_f rfl ?_ | ((first | refine Runs.cond_yes rfl ?_ ?_ | refine Runs.cond_nno rfl ?_ ?_); · first | omega | rfl | assumption | (simp only [List.length_map]; omega)) | ((first | refine Runs.cond_no rfl ?_ ?_ | refine Runs.cond_nyes rfl ?_ ?_); · first | omega | rfl | assumption | (simp only [List.length_map]; omega)) )
 | refine op_box rfl (tl hn rfl) ?_
 | refine op_storeN rfl rfl rfl rfl (Nat.le_of_ble_eq_true rfl) ?_
 | refine RunsD.step tabOk hn rfl rfl ?_
 | refine RunsD.nil ?_
 | refine Runs.toDraw 30 mixed hn rfl (by kernel_rfl) rfl ?_
 | ((first | refine RunsL.pe hn rfl rfl rfl ?_ | refine RunsD.pe rfl rfl ?_); first
 | refine ⟨_, pu_add rfl rfl (by omega), ?_⟩
 | refine ⟨_, pu_indexAddr_map rfl rfl (by omega) (by assumption), ?_⟩
 | refine ⟨_, pu_sub rfl rfl (by omega), ?_⟩
 | refine ⟨_, pu_pick_b rfl rfl rfl, ?_⟩
 | refine ⟨_, pu_mul rfl rfl (by omega), ?_⟩
 | refine ⟨_, pu_build rfl rfl rfl rfl rfl rfl, ?_⟩)
 | ((first | refine RunsL.guard_dec rfl rfl rfl ?_ ?_ | refine RunsL.guard_ndec rfl rfl rfl ?_ ?_ | refine RunsL.guard_nb rfl rfl rfl ?_ ?_ | refine RunsL.guard_b rfl rfl rfl ?_ ?_ | refine RunsD.guard_dec rfl rfl rfl ?_ ?_ | refine RunsD.guard_ndec rfl rfl rfl ?_ ?_ | refine RunsD.guard_nb rfl rfl rfl ?_ ?_ | refine RunsD.guard_b rfl rfl rfl ?_ ?_) <;> intro h <;> try (exfalso; first | omega | contradiction | (simp only [List.length_map] at h; omega))))
        all_goals first
          | (exfalso; first | omega | (unfold InR at *; omega))
          | (refine Runs.ctls 30 rfl ?_
             refine mO_ret (t := 0) (more := [⟨62, 0, [.ro (inssR p.code), .ro (intsR p.entries)]⟩, ⟨59, 0, (insR x).map .ro⟩]) rfl (mO_app rfl) rfl)
      · rw [if_neg hbad]
        have hT := take_am q x b hL ho hb (fun h => ⟨by unfold InR at hbad; omega, by unfold InR at hbad; omega, ho1 h⟩) (fun h h' => hbad (.inr ⟨h, h'⟩))
        repeat' (first
 | refine Runs.toDrawT (id := 6) 30 [] [0, 1, 2, 3, 4, 5, 6, 7, 8] 9 [(8, 59, [.int .i64 0, .int .i64 0, .int .i64 0])] mixed hn rfl (by kernel_rfl) rfl .nil (by decide) (by decide) (by decide) ?_
 | refine op_callP 3 (hA) rfl (by simp [AV.onlys, AV.only]) (by simp [AV.only, AV.onlys]) rfl rfl rfl (mO_free _) (mO_free _) rfl (by first | exact trivial | exact ⟨rfl, trivial⟩ | exact ⟨rfl, rfl, trivial⟩ | exact ⟨rfl, rfl, rfl, trivial⟩ | exact ⟨rfl, rfl, rfl, rfl, trivial⟩) (fun t h => by injection h with h; subst h; exact tl hn rfl) ?_
 | refine op_callP 3 (hT) rfl (by simp [AV.onlys, AV.only]) (by simp [AV.only, AV.onlys]) rfl rfl rfl (mO_free _) (mO_free _) rfl (by first | exact trivial | exact ⟨rfl, trivial⟩ | exact ⟨rfl, rfl, trivial⟩ | exact ⟨rfl, rfl, rfl, trivial⟩ | exact ⟨rfl, rfl, rfl, rfl, trivial⟩) (fun t h => by injection h with h; subst h; exact tl hn rfl) ?_
 | refine RunsT.nil ?_
 | refine RunsT.step tabOk rfl rfl (fun _ => rfl) (by decide) ?_
 | refine RunsT.pur (fun _ => pu_nilCheckP rfl) (by decide) rfl rfl ?_
 | refine RunsT.pur (fun _ => pu_callR (inRange_ac _ _ _) rfl) (by decide) rfl rfl ?_
 | refine RunsT.pur (fun _ => pu_len_own (n := q.sums.length) rfl rfl hl) (by decide) rfl rfl ?_
 | refine RunsT.pur (fun _ => pu_indexAddr_map rfl rfl (by omega) (by assumption)) (by decide) rfl rfl ?_
 | refine RunsT.alloc (p := 0) rfl inferInstance ?_
 | refine RunsT.alloc (p := 1) rfl inferInstance ?_
 | refine RunsL.step tabOk hn rfl ?_
 | refine RunsL.nil ?_
 | refine Runs.toRegion 30 rfl ?_
 | ((first | refine RunsL.pe hn rfl rfl rfl ?_ | refine RunsD.pe rfl rfl ?_); first
 | refine ⟨_, pu_nilCheckP rfl, ?_⟩
 | refine ⟨_, pu_callR (inRange_ac _ _ _) rfl, ?_⟩
 | refine ⟨_, pu_len_own (n := q.sums.length) rfl rfl hl, ?_⟩)
 | (refine Runs.ctls 30 rfl ?_; first | refine Runs.cond_t rfl ?_ | refine Runs.cond_f rfl ?_ | ((first | refine Runs.cond_yes rfl ?_ ?_ | refine Runs.cond_nno rfl ?_ ?_); · first | omega | rfl | assumption | (simp only [List.length_map]; omega)) | ((first | refine Runs.cond_no rfl ?_ ?_ | refine Runs.cond_nyes rfl ?_ ?_); · first | omega | rfl | assumption | (simp only [List.length_map]; omega)) )
 | refine op_box rfl (tl hn rfl) ?_
 | refine op_storeN rfl rfl rfl rfl (Nat.le_of_ble_eq_true rfl) ?_
 | refine RunsD.step tabOk hn rfl rfl ?_
 | refine RunsD.nil ?_
 | refine Runs.toDraw 30 mixed hn rfl (by kernel_rfl) rfl ?_
 | ((first | refine RunsL.pe hn rfl rfl rfl ?_ | refine RunsD.pe rfl rfl ?_); first
 | refine ⟨_, pu_add rfl rfl (by omega), ?_⟩
 | refine ⟨_, pu_indexAddr_map rfl rfl (by omega) (by assumption), ?_⟩
 | refine ⟨_, pu_sub rfl rfl (by omega), ?_⟩
 | refine ⟨_, pu_pick_b rfl rfl rfl, ?_⟩
 | refine ⟨_, pu_mul rfl rfl (by omega), ?_⟩
 | refine ⟨_, pu_build rfl rfl rfl rfl rfl rfl, ?_⟩)
 | ((first | refine RunsL.guard_dec rfl rfl rfl ?_ ?_ | refine RunsL.guard_ndec rfl rfl rfl ?_ ?_ | refine RunsL.guard_nb rfl rfl rfl ?_ ?_ | refine RunsL.guard_b rfl rfl rfl ?_ ?_ | refine RunsD.guard_dec rfl rfl rfl ?_ ?_ | refine RunsD.guard_ndec rfl rfl rfl ?_ ?_ | refine RunsD.guard_nb rfl rfl rfl ?_ ?_ | refine RunsD.guard_b rfl rfl rfl ?_ ?_) <;> intro h <;> try (exfalso; first | omega | contradiction | (simp only [List.length_map] at h; omega))))
        all_goals first
          | (exfalso; first | omega | (unfold InR at *; omega))
          | (refine Runs.ctls 30 rfl ?_
             refine mO_end (t := 0) (more := [⟨62, 0, [.ro (inssR p.code), .ro (intsR p.entries)]⟩, ⟨59, 0, (insR x).map .ro⟩]) rfl (mO_app rfl) rfl)
    · repeat' (first
 | refine op_callP 3 (hA) rfl (by simp [AV.onlys, AV.only]) (by simp [AV.only, AV.onlys]) rfl rfl rfl (mO_free _) (mO_free _) rfl (by first | exact trivial | exact ⟨rfl, trivial⟩ | exact ⟨rfl, rfl, trivial⟩ | exact ⟨rfl, rfl, rfl, trivial⟩ | exact ⟨rfl, rfl, rfl, rfl, trivial⟩) (fun t h => by injection h with h; subst h; exact tl hn rfl) ?_
 | refine op_callP 3 (failWith_am q 7) rfl (by simp [AV.onlys, AV.only]) (by simp [AV.only, AV.onlys]) rfl rfl rfl (mO_free _) (mO_free _) rfl (by first | exact trivial | exact ⟨rfl, trivial⟩ | exact ⟨rfl, rfl, trivial⟩ | exact ⟨rfl, rfl, rfl, trivial⟩ | exact ⟨rfl, rfl, rfl, rfl, trivial⟩) (fun t h => by injection h with h; subst h; exact tl hn rfl) ?_
 | refine RunsL.step tabOk hn rfl ?_
 | refine RunsL.nil ?_
 | refine Runs.toRegion 30 rfl ?_
 | ((first | refine RunsL.pe hn rfl rfl rfl ?_ | refine RunsD.pe rfl rfl ?_); first
 | refine ⟨_, pu_nilCheckP rfl, ?_⟩)
 | (refine Runs.ctls 30 rfl ?_; first | refine Runs.cond_t rfl ?_ | refine Runs.cond_f rfl ?_ | ((first | refine Runs.cond_yes rfl ?_ ?_ | refine Runs.cond_nno rfl ?_ ?_); · first | omega | rfl | assumption | (simp only [List.length_map]; omega)) | ((first | refine Runs.cond_no rfl ?_ ?_ | refine Runs.cond_nyes rfl ?_ ?_); · first | omega | rfl | assumption | (simp only [List.length_map]; omega)) )
 | refine op_box rfl (tl hn rfl) ?_
 | refine op_storeN rfl rfl rfl rfl (Nat.le_of_ble_eq_true rfl) ?_
 | refine RunsD.step tabOk hn rfl rfl ?_
 | refine RunsD.nil ?_
 | refine Runs.toDraw 30 mixed hn rfl (by kernel_rfl) rfl ?_
 | ((first | refine RunsL.pe hn rfl rfl rfl ?_ | refine RunsD.pe rfl rfl ?_); first
 | refine ⟨_, pu_add rfl rfl (by omega), ?_⟩
 | refine ⟨_, pu_indexAddr_map rfl rfl (by omega) (by assumption), ?_⟩
 | refine ⟨_, pu_sub rfl rfl (by omega), ?_⟩
 | refine ⟨_, pu_pick_b rfl rfl rfl, ?_⟩
 | refine ⟨_, pu_mul rfl rfl (by omega), ?_⟩
 | refine ⟨_, pu_build rfl rfl rfl rfl rfl rfl, ?_⟩)
 | ((first | refine RunsL.guard_dec rfl rfl rfl ?_ ?_ | refine RunsL.guard_ndec rfl rfl rfl ?_ ?_ | refine RunsL.guard_nb rfl rfl rfl ?_ ?_ | refine RunsL.guard_b rfl rfl rfl ?_ ?_ | refine RunsD.guard_dec rfl rfl rfl ?_ ?_ | refine RunsD.guard_ndec rfl rfl rfl ?_ ?_ | refine RunsD.guard_nb rfl rfl rfl ?_ ?_ | refine RunsD.guard_b rfl rfl rfl ?_ ?_) <;> intro h <;> try (exfalso; first | omega | contradiction | (simp only [List.length_map] at h; omega))))
      all_goals first
        | (exfalso; omega)
        | (refine Runs.ctls 30 rfl ?_
           refine mO_ret (t := 0) (more := [⟨62, 0, [.ro (inssR p.code), .ro (intsR p.entries)]⟩]) rfl (mO_app ?_) rfl
           rw [if_neg h1, if_pos h0])
end Go.Proofs.Ytnecoghfhcimeaa
/- Regions that draw their order, without calls: walked once for each order. Over any program. -/
namespace Go.Proofs.Ytnecoghfhcimeaa
set_option linter.unusedSimpArgs false
set_option linter.unusedVariables false
open Go.RowKit
open AV (Mem Keeps)
def plainOp (o : Oper) : Bool := stillOp o || match o.op with
  | .store _ _ _ => true
  | .binOp _ _ _ _ _ => true
  | .indexAddr _ _ _ => true
  | .extract _ _ => true
  | .alloc _ => true
  | .box _ _ => true
  | .unOp _ _ _ => true
  | .build _ _ => true
  | .field _ _ _ => true
  | .convert _ _ _ => true
  | _ => false
structure Nv (s : Sem Next) : Prop where
  val : ∀ (P : Program) (w : World) (x : Next) (w' : World), s.run P w = .ok x w' → (∃ v, x = .value v) ∨ x = .skip
theorem Nv.of {s : Sem Value} : Nv (do Pure.pure (.value (← s)) : Sem Next) := ⟨fun P w x w' e => by
  rw [Sem.run_bind] at e
  cases hs : s.run P w with
  | ok a w1 => rw [hs] at e; simp only [Result.andThen_ok, Sem.run_pure] at e; injection e with e; exact .inl ⟨a, e.symm⟩
  | halt q w1 => rw [hs] at e; cases e⟩
theorem Nv.ofU {s : Sem Unit} : Nv (do s; Pure.pure .skip : Sem Next) := ⟨fun P w x w' e => by
  rw [Sem.run_bind] at e
  cases hs : s.run P w with
  | ok a w1 => rw [hs] at e; simp only [Result.andThen_ok, Sem.run_pure] at e; injection e with e; exact .inr e.symm
  | halt q w1 => rw [hs] at e; cases e⟩
theorem plainOp_nv {o : Oper} (h : plainOp o = true) (ev : Operand → Value) : Nv (execOp ev o) := by
  unfold plainOp at h
  rw [Bool.or_eq_true] at h
  rcases h with h | h
  · exact ⟨fun P w x w' e => .inl ((stillOp_kp h ev).val P w x w' e)⟩
  · obtain ⟨dst, op, ty, pos, after, g⟩ := o
    cases op <;> simp only [Bool.false_eq_true] at h
    case store => exact Nv.ofU
    all_goals exact Nv.of
def sel (l : List Oper) : List Nat → List Oper
  | [] => []
  | i :: is => match l[i]? with
    | some o => o :: sel l is
    | none => sel l is
def ordersOf (md : Region.Mode) (ops : Array Oper) : Nat → Array Bool → List (List Nat)
  | 0, _ => [[]]
  | f + 1, listed => (Region.ready md ops listed).flatMap fun i => (ordersOf md ops f (listed.setIfInBounds i true)).map (i :: ·)
def ordB (md : Region.Mode) (ops : Array Oper) : Nat → Array Bool → Bool
  | 0, listed => (Region.ready md ops listed).isEmpty
  | f + 1, listed => !(Region.ready md ops listed).isEmpty && (Region.ready md ops listed).all fun i => ordB md ops f (listed.setIfInBounds i true)
theorem orders_some {md : Region.Mode} {ops : Array Oper} : ∀ (f : Nat) (listed : Array Bool), ordB md ops f listed = true → ∃ π, π ∈ ordersOf md ops f listed
  | 0, _, _ => ⟨[], by simp [ordersOf]⟩
  | f + 1, listed, h => by
    simp only [ordB, Bool.and_eq_true, Bool.not_eq_true', List.isEmpty_eq_false_iff] at h
    obtain ⟨i, hi⟩ := List.exists_mem_of_ne_nil _ h.1
    obtain ⟨π, hπ⟩ := orders_some f _ (List.all_eq_true.1 h.2 i hi)
    exact ⟨i :: π, by simp only [ordersOf, List.mem_flatMap, List.mem_map]; exact ⟨i, hi, π, hπ, rfl⟩⟩
theorem wpAny_of_orders {P : Program} {md : Region.Mode} {l : List Oper} {F : Act → World → Prop} (hp : (l.all plainOp) = true) : ∀ (f : Nat) (listed : Array Bool) (a : Act) (w : World), ordB md l.toArray f listed = true →
    (∀ π ∈ ordersOf md l.toArray f listed, wpList P l.toArray (nrm F) (sel l π) a w) → wpAny P md l.toArray (nrm F) f listed a w
  | 0, listed, a, w, hB, h => by
    simp only [ordB, List.isEmpty_iff] at hB
    exact ⟨hB, h [] (by simp [ordersOf])⟩
  | f + 1, listed, a, w, hB, h => by
    simp only [ordB, Bool.and_eq_true, Bool.not_eq_true', List.isEmpty_eq_false_iff] at hB
    refine ⟨fun h0 => absurd h0 hB.1, fun i hi => ?_⟩
    have hBi := List.all_eq_true.1 hB.2 i hi
    obtain ⟨_, o, ho, _⟩ := mem_ready.1 hi
    have hl : l[i]? = some o := by simpa using ho
    have hpo : plainOp o = true := List.all_eq_true.1 hp o (List.mem_of_getElem? hl)
    have hall : ∀ π ∈ ordersOf md l.toArray f (listed.setIfInBounds i true), wpList P l.toArray (nrm F) (o :: sel l π) a w := fun π hπ => by
      have := h (i :: π) (by simp only [ordersOf, List.mem_flatMap, List.mem_map]; exact ⟨i, hi, π, hπ, rfl⟩)
      simpa only [sel, hl] using this
    have hno : ¬ LetsOut (nrm F) := fun ⟨_, _, h⟩ => h
    unfold wpOp
    simp only [ho]
    by_cases hw : Region.wanted o (yielded l.toArray a.tmps) = true
    · rw [if_pos hw]
      refine .inl ?_
      have hall' : ∀ π ∈ ordersOf md l.toArray f (listed.setIfInBounds i true), o.wp P a w (wpList P l.toArray (nrm F) (sel l π)) (nrm F) := fun π hπ => by
        have := hall π hπ
        unfold wpList at this
        rw [if_pos hw] at this
        exact this.resolve_right fun h => hno h.2
      obtain ⟨π0, hπ0⟩ := orders_some f _ hBi
      have h0 := hall' π0 hπ0
      unfold Oper.wp at h0 hall' ⊢
      cases hr : (execOp a.eval o).run P w with
      | ok x w' =>
        rcases (plainOp_nv hpo a.eval).val P w x w' hr with ⟨v, rfl⟩ | rfl
        · simp only [hr, Oper.upon] at hall' ⊢
          exact wpAny_of_orders hp f _ _ _ hBi hall'
        · simp only [hr, Oper.upon] at hall' ⊢
          exact wpAny_of_orders hp f _ _ _ hBi hall'
      | halt q w' =>
        rw [hr] at h0
        cases q <;> exact h0
    · rw [if_neg hw]
      refine wpAny_of_orders hp f _ _ _ hBi fun π hπ => ?_
      have := hall π hπ
      unfold wpList at this
      rwa [if_neg hw] at this
section
variable {P : Program} {C : Ctx} {k : List Item} {R : Act → World → Prop} {env : Env} {σ : List Ob}
def AllOrd (P : Program) (C : Ctx) (l : List Oper) (k : List Item) (R : Act → World → Prop) (S : St) : List (List Nat) → Prop
  | [] => True
  | π :: L => RunsL P C l.toArray (sel l π) k R S ∧ AllOrd P C l k R S L
theorem AllOrd.at_ {l : List Oper} {S : St} : ∀ {L : List (List Nat)}, AllOrd P C l k R S L → ∀ π ∈ L, RunsL P C l.toArray (sel l π) k R S
  | [], _, π, h => by simp at h
  | ρ :: L, hL, π, h => by
    rcases List.mem_cons.1 h with rfl | h
    · exact hL.1
    · exact AllOrd.at_ hL.2 π h
theorem Runs.toPerm {id : Nat} {l : List Oper} {k' : List Item} (m : Nat) (L : List (List Nat)) (hf : P.follows .mixedOrders = true) (hc : Proofs.Ytnecoghfhcimeaa.ctls m k = .code (.region id l.toArray true) :: k') (hB : ordB .any l.toArray l.length (Array.replicate l.length false) = true)
    (hp : (l.all plainOp) = true) (hL : ordersOf .any l.toArray l.length (Array.replicate l.length false) = L) (h : AllOrd P C l k' R ⟨env, σ⟩ L) : Runs P C k R ⟨env, σ⟩ :=
  Runs.ctls m hc ⟨fun a w hs' => Fin.of_wp (wp_region_any hf (by
    obtain ⟨s1, s2, φ, hG, hE⟩ := hs'
    have hb : Below w.heap.size w { w with drawn := w.drawn + 1 } := ⟨rfl, rfl, rfl, Nat.le_refl _, fun _ _ => rfl⟩
    obtain ⟨g1, g2⟩ := good_below hG hb
    have := wpAny_of_orders (P := P) (md := .any) (F := Fin P k' R) hp l.length (Array.replicate l.length false) a { w with drawn := w.drawn + 1 } hB fun π hπ => (h.at_ π (hL ▸ hπ)).run a _ ⟨s1, s2, φ, g1, hE.keeps g2⟩
    simpa using this))⟩
end
end Go.Proofs.Ytnecoghfhcimeaa
/- Machines in a frame, and the functions that make them: the program's side. -/
namespace Go.Proofs.Ytnecoghfhcimeaa
set_option linter.unusedSimpArgs false
set_option linter.unusedVariables false
open Go.RowKit
open AV (Mem Keeps)
set_option maxRecDepth 100000
def mC (m : Mch) (a b : Nat) : List AV := [.int m.pc, .int m.register, .own a, .own b, .int m.left, .bool m.started, .bool m.escaped, .int m.state, .int m.code, .int m.read]
def rowI (l : List Int) : Ob := ⟨3, 1, (l.map RV.int).map .ro⟩
def mchRR (m : Mch) : RR := .agg [.ro (.int m.pc), .ro (.int m.register), .row 3 1 (m.stack.map RV.int), .row 3 1 (m.sums.map RV.int), .ro (.int m.left), .ro (.bool m.started), .ro (.bool m.escaped), .ro (.int m.state), .ro (.int m.code), .ro (.int m.read)]
theorem seals_mch (m : Mch) : Seals (mchRR m) (mchR m) := by
  have h1 := seals_ints 3 m.stack
  have h2 := seals_ints 3 m.sums
  unfold mchRR mchR
  generalize (RR.row 3 1 (m.stack.map RV.int)) = r1 at h1 ⊢
  generalize (RR.row 3 1 (m.sums.map RV.int)) = r2 at h2 ⊢
  simp only [Seals, SealsL]
  exact ⟨_, rfl, _, _, rfl, rfl, _, _, rfl, rfl, _, _, rfl, h1, _, _, rfl, h2, _, _, rfl, rfl, _, _, rfl, rfl, _, _, rfl, rfl, _, _, rfl, rfl, _, _, rfl, rfl, _, _, rfl, rfl, rfl⟩
theorem rens_ros (r : Nat → Nat) : ∀ rs : List RV, AV.rens r (rs.map .ro) = rs.map .ro
  | [] => rfl
  | x :: xs => by simp only [List.map_cons, AV.rens, AV.ren, rens_ros r xs]
theorem rowI_flat (l : List Int) : (⟨3, 1, (([] : List RV) ++ (l.map fun z => [RV.int z]).flatten).map .ro⟩ : Ob) = rowI l := by
  unfold rowI
  congr 2
  induction l with
  | nil => rfl
  | cons x l ih => simpa using ih
theorem unpin_ros : ∀ rs : List RV, (rs.map AV.ro).map unpin = rs.map .ro
  | [] => rfl
  | x :: xs => by simp only [List.map_cons, unpin, unpin_ros xs]
section
variable {P : Program} {C : Ctx} {fn : Func} {ops : Array Oper} {rest : List Oper} {k : List Item} {env : Env} {σ : List Ob} {t : Nat} {ty : TypeId} {pos : String} {after : Array Edge}
theorem harv_mch {m : Mch} {a b : Nat} (h1 : σ[a]? = some (rowI m.stack)) (h2 : σ[b]? = some (rowI m.sums)) : Harv σ (mchRR m) (.agg (mC m a b)) [a, b] := by
  simp only [mchRR, mC, Harv, Harvs, rowI] at *
  exact ⟨_, rfl, _, _, [], _, rfl, rfl, ⟨rfl, rfl⟩, _, _, [], _, rfl, rfl, ⟨rfl, rfl⟩, _, _, [a], [b], rfl, rfl, ⟨a, rfl, h1, rfl⟩, _, _, [b], [], rfl, rfl, ⟨b, rfl, h2, rfl⟩, _, _, [], _, rfl, rfl, ⟨rfl, rfl⟩, _, _, [], _, rfl, rfl, ⟨rfl, rfl⟩, _, _, [], _, rfl, rfl, ⟨rfl, rfl⟩, _, _, [], _, rfl, rfl, ⟨rfl, rfl⟩, _, _, [], _, rfl, rfl, ⟨rfl, rfl⟩, _, _, [], _, rfl, rfl, ⟨rfl, rfl⟩, rfl, rfl⟩
theorem resV_mch {p i a b : Nat} {m : Mch} {tt tt' : TypeId} [TN P tt 10] (hp : look env p = .obj i 0) (hi : σ[i]? = some ⟨tt', 0, mC m a b⟩) : ResV P ⟨env, σ⟩ (.cell p tt) (.agg (mC m a b)) := by
  simp only [ResV]
  exact ⟨i, 0, _, hp, hi, .inr ⟨10, inferInstance, Nat.le_refl _, rfl⟩⟩
theorem ends_mch {R : RR → Prop} {p i a b : Nat} {m : Mch} {tt tt' : TypeId} [TN P tt 10] (hm : ∀ b, ¬ C.mu b) (hr : fn.results = #[.cell p tt]) (hp : look env p = .obj i 0) (hi : σ[i]? = some ⟨tt', 0, mC m a b⟩) (h1 : σ[a]? = some (rowI m.stack)) (h2 : σ[b]? = some (rowI m.sums)) (hab : a ≠ b) (hR : R (mchRR m)) :
    ∀ ac w, Sim C ⟨env, σ⟩ ac w → Ends P C fn R ac w :=
  ends1 hm hr _ (resV_mch hp hi) (mchRR m) [a, b] (harv_mch h1 h2) (by simp [hab]) hR
theorem ends_mch2 {R : RR → Prop} {p q i a b : Nat} {m : Mch} {r : RV} {tt tt' : TypeId} [TN P tt 10] (hm : ∀ b, ¬ C.mu b) (hr : fn.results = #[.cell p tt, .tmp q]) (hp : look env p = .obj i 0) (hi : σ[i]? = some ⟨tt', 0, mC m a b⟩) (h1 : σ[a]? = some (rowI m.stack)) (h2 : σ[b]? = some (rowI m.sums)) (hab : a ≠ b) (hq : look env q = .ro r) (hR : R (.tup [mchRR m, .ro r])) :
    ∀ ac w, Sim C ⟨env, σ⟩ ac w → Ends P C fn R ac w :=
  endsN (xs := [.cell p tt, .tmp q]) hm hr (by simp) [.agg (mC m a b), .ro r] (by simp only [ResVs]; exact ⟨_, _, rfl, resV_mch hp hi, _, _, rfl, by simp only [ResV]; exact hq.symm, rfl⟩) [mchRR m, .ro r] [a, b] (by
    simp only [Harvs]
    exact ⟨_, _, [a, b], [], rfl, rfl, harv_mch h1 h2, _, _, [], [], rfl, rfl, by simp [Harv], rfl, rfl⟩) (by simp [hab]) hR
variable {R : Act → World → Prop}
theorem op_callMch {f : FuncId} {fn : Func} {xs : Array Operand} {ats : Array TypeId} {m m' : Mch} {rs : List RV} {d : Option Nat} [hfn : FN P f fn] (i a b : Nat) (hf : AM P f (mO m) [0] (.obj 0 0 :: rs.map .ro) (mO m') (.tup [])) (ha : xs.toList.map (ev env) = .obj i 0 :: rs.map .ro)
    (hi : σ[i]? = some ⟨74, 0, mC m a b⟩) (h1 : σ[a]? = some (rowI m.stack)) (h2 : σ[b]? = some (rowI m.sums)) (hne : i ≠ a ∧ i ≠ b ∧ a ≠ b) (hfree : FreeR [i, a, b] [0] 0 σ) (ht : ∀ t, d = some t → t < C.n)
    (hk : RunsL P C ops rest k R ⟨putEnv d (.tup []) (ridEnv (lentB [i, a, b]) (stB' [i, a, b] [0]) env), ((σ.set i ⟨74, 0, mC m' a b⟩).set a (rowI m'.stack)).set b (rowI m'.sums)⟩) :
    RunsL P C ops (⟨d, .call { callee := .value (.func f), args := xs, argTypes := ats }, ty, pos, after, none⟩ :: rest) k R ⟨env, σ⟩ := by
  have il := (List.getElem?_eq_some_iff.1 hi).1
  have al := (List.getElem?_eq_some_iff.1 h1).1
  have bl := (List.getElem?_eq_some_iff.1 h2).1
  have eM : ∀ m : Mch, (⟨74, 0, mC m 1 2⟩ : Ob).ren (rof [i, a, b]) = ⟨74, 0, mC m a b⟩ := fun m => rfl
  have eR : ∀ l : List Int, (rowI l).ren (rof [i, a, b]) = rowI l := fun l => by unfold rowI Ob.ren; simp only [rens_ros]
  have eO : ∀ m : Mch, mO m = [⟨74, 0, mC m 1 2⟩, rowI m.stack, rowI m.sums] := fun m => rfl
  refine op_callM (σ0 := mO m) (σ1 := mO m') [i, a, b] hf ?_ ?_ ?_ ht ?_
  · rw [ha, List.map_cons, unpin_ros]
    simp only [AV.rens, AV.ren, rens_ros, unpin]
    rfl
  · simp only [AV.onlys, AV.only]
    exact ⟨by simp [mO], onlysr _ _⟩
  · refine ⟨rfl, rfl, ?_, ?_, ?_, mO_free m, rfl, hfree⟩
    · simp only [List.all_cons, List.all_nil, Bool.and_eq_true]
      exact ⟨Nat.ble_eq_true_of_le il, Nat.ble_eq_true_of_le al, Nat.ble_eq_true_of_le bl, trivial⟩
    · simp [hne]
    · rw [eO]
      simp only [LentAt]
      refine ⟨?_, ?_, ?_, trivial⟩
      · rw [eM]; exact hi
      · rw [eR]; exact h1
      · rw [eR]; exact h2
  · rw [eO m']
    simp only [putObs, eM, eR]
    exact hk
end
set_option maxHeartbeats 4000000 in
theorem copyMachine_ac (m : Mch) (hm : MLen m) : AC Try.prog 101 [mchR m] fun rr => rr = mchRR m := by
  have h1 := hm.1
  have h2 := hm.2
  refine ac_enter Try.func101 rfl _ Try.ntmps101 (by simp) fun C hn hm => ?_
  repeat' (first
 | refine RunsL.step tabOk hn rfl ?_
 | refine RunsL.nil ?_
 | refine Runs.toRegion 30 rfl ?_
 | refine op_build0 (tl hn rfl) ?_
 | refine op_appendA rfl rfl rfl rfl rfl rfl (by repeat' (first | exact trivial | exact onlysr _ _ | exact (by decide : (2 : Nat) ≠ 3) | refine And.intro ?_ ?_)) (by simp; omega) rfl (tl hn rfl) ?_
 | (refine Runs.ctls 30 rfl ?_; first | ((first | refine Runs.cond_yes rfl ?_ ?_ | refine Runs.cond_nno rfl ?_ ?_); · first | omega | rfl | assumption | (simp only [List.length_map]; omega)) | ((first | refine Runs.cond_no rfl ?_ ?_ | refine Runs.cond_nyes rfl ?_ ?_); · first | omega | rfl | assumption | (simp only [List.length_map]; omega)) | refine Runs.ret (ends_ro hm rfl rfl ?_) | exact Runs.ret (ends_cellR hm rfl rfl rfl (Nat.le_of_ble_eq_true rfl) rfl rfl))
 | refine op_box rfl (tl hn rfl) ?_
 | refine op_storeF rfl rfl rfl rfl (Nat.le_of_ble_eq_true rfl) ?_
 | refine op_alloc (tl hn rfl) ?_
 | refine op_storeN rfl rfl rfl rfl (Nat.le_of_ble_eq_true rfl) ?_
    )
  refine Runs.ctls 30 rfl ?_
  exact Runs.ret (ends_mch (i := 1) (a := 2) (b := 3) hm rfl rfl rfl (congrArg some (rowI_flat m.stack)) (congrArg some (rowI_flat m.sums)) (by decide) rfl)
theorem fitsOk {p : Prg} {f : Bool} (h : f = decide (SafeP p ∧ need p ≤ 60)) (hf : f = true) : ∀ (k : Nat) x, p.code[k]? = some x → OpOk x := fun k x hx => by
  subst h
  have hS := (of_decide_eq_true hf).1
  have hk := (List.getElem?_eq_some_iff.1 hx).1
  exact ((safeI_some (p := p) (i := (k : Int)) (by simpa using hx)).1 (hS.1.ins k hk)).2.1
noncomputable def fitB (p : Prg) : Bool := decide (SafeP p ∧ need p ≤ 60)
set_option maxHeartbeats 8000000 in
theorem impl_AdvanceMachine (p : Prg) (m : Mch) (hB : PrgB p) (hm0 : MLen m) : AC Try.prog 155 [prgR p, mchR m] fun rr => rr = mchRR (mAdv p (fitB p) m) := by
  have hF := impl_FitsMachine p hB
  have hc := hB.code
  have hA := advance_am p (fitB p) m hm0 (by omega)
  refine ac_enter Try.func155 rfl _ Try.ntmps155 (by simp) fun C hn hm => ?_
  repeat' (first
 | refine Runs.toDrawT (id := 2) 30 [] [0, 1, 2] 3 [] mixed hn rfl (by kernel_rfl) rfl .nil (by decide) (by decide) (by decide) ?_
 | refine op_callOR (copyMachine_ac m hm0) rfl (tl hn rfl) ?_
 | refine op_callMch (rs := [prgR p, .bool (fitB p)]) 5 3 4 hA rfl rfl rfl rfl (by decide) (by repeat' (first | exact trivial | exact .inl rfl | exact .inr rfl | refine And.intro ?_ ?_)) (fun t h => by injection h with h; subst h; exact tl hn rfl) ?_
 | refine RunsT.nil ?_
 | refine RunsT.step tabOk rfl rfl (fun _ => rfl) (by decide) ?_
 | refine RunsT.pur (fun _ => pu_callR hF rfl) (by decide) rfl rfl ?_
 | refine RunsL.step tabOk hn rfl ?_
 | refine RunsL.nil ?_
 | refine Runs.toRegion 30 rfl ?_
 | ((first | refine RunsL.pe hn rfl rfl rfl ?_ | refine RunsD.pe rfl rfl ?_); first
 | refine ⟨_, pu_callR hF rfl, ?_⟩)
 | (refine Runs.ctls 30 rfl ?_; first | ((first | refine Runs.cond_yes rfl ?_ ?_ | refine Runs.cond_nno rfl ?_ ?_); · first | omega | rfl | assumption | (simp only [List.length_map]; omega)) | ((first | refine Runs.cond_no rfl ?_ ?_ | refine Runs.cond_nyes rfl ?_ ?_); · first | omega | rfl | assumption | (simp only [List.length_map]; omega)) | refine Runs.ret (ends_ro hm rfl rfl ?_) | exact Runs.ret (ends_cellR hm rfl rfl rfl (Nat.le_of_ble_eq_true rfl) rfl rfl))
 | refine op_box rfl (tl hn rfl) ?_
 | refine op_alloc (tl hn rfl) ?_
 | refine op_storeN rfl rfl rfl rfl (Nat.le_of_ble_eq_true rfl) ?_
 | ((first | refine RunsL.pe hn rfl rfl rfl ?_ | refine RunsD.pe rfl rfl ?_); first
 | refine ⟨_, pu_add rfl rfl (by omega), ?_⟩
 | refine ⟨_, pu_indexAddr_map rfl rfl (by omega) (by assumption), ?_⟩
 | refine ⟨_, pu_sub rfl rfl (by omega), ?_⟩
 | refine ⟨_, pu_pick_b rfl rfl rfl, ?_⟩
 | refine ⟨_, pu_mul rfl rfl (by omega), ?_⟩
 | refine ⟨_, pu_build rfl rfl rfl rfl rfl rfl, ?_⟩))
  refine Runs.ctls 30 rfl ?_
  exact Runs.ret (ends_mch (i := 2) (a := 3) (b := 4) hm rfl rfl rfl rfl rfl (by decide) rfl)
instance tb_mch : TB Try.prog 74 [(0, 1), (1, 1), (2, 1), (3, 1), (4, 1), (5, 1), (6, 1), (7, 1), (8, 1), (9, 1)] [.int .i64 0, .int .i64 0, .slice none 0 0, .slice none 0 0, .int .i64 0, .bool false, .bool false, .int .i64 0, .int .i64 0, .int .i64 0] := ⟨_, _, _, rfl, rfl, rfl, rfl, by kernel_rfl, by decide⟩
theorem impl_NewMachine : ACv Try.prog 44 [] (mchR m0) := by
  refine ac_enter Try.func44 rfl _ Try.ntmps44 (by simp) fun C hn hm => ?_
  repeat' (first
 | refine RunsL.nil ?_
 | refine Runs.toRegion 30 rfl ?_
 | (refine RunsL.pe hn rfl rfl rfl ?_; first
 | refine ⟨_, pu_buildS rfl, ?_⟩)
 | (refine Runs.ctls 30 rfl ?_; first | ((first | refine Runs.cond_yes rfl ?_ ?_ | refine Runs.cond_nno rfl ?_ ?_); · first | omega | rfl | assumption | (simp only [List.length_map]; omega)) | ((first | refine Runs.cond_no rfl ?_ ?_ | refine Runs.cond_nyes rfl ?_ ?_); · first | omega | rfl | assumption | (simp only [List.length_map]; omega)) | refine Runs.ret (ends_ro hm rfl rfl ?_) | exact Runs.ret (ends_cellR hm rfl rfl rfl (Nat.le_of_ble_eq_true rfl) rfl rfl))
 | refine op_alloc (tl hn rfl) ?_
 | refine op_storeN rfl rfl rfl rfl (Nat.le_of_ble_eq_true rfl) ?_
    )
  refine Runs.ctls 30 rfl ?_
  refine Runs.ret (ends_lend (r := mchR m0) hm rfl (v := .agg ([.int 0, .int 0, .nil, .nil, .int 0, .bool false, .bool false, .int 0, .int 0, .int 0] : List AV)) ?_ rfl ?_)
  · simp only [ResV]
    exact ⟨0, 0, _, rfl, rfl, .inr ⟨10, inferInstance, Nat.le_refl _, rfl⟩⟩
  · exact Lends.agg (.cons .ro (.cons .ro (.cons (Lends.nil 1) (.cons (Lends.nil 1) (.cons .ro (.cons .ro (.cons .ro (.cons .ro (.cons .ro (.cons .ro .nil))))))))))
def feedL (p : Prg) (f : Bool) (m : Mch) (l : List UInt8) : Mch := l.foldl (fun m c => mFeed p f m (c.toNat : Int)) m
theorem feedL_len {p : Prg} {f : Bool} : ∀ (l : List UInt8) {m : Mch}, MLen m → MLen (feedL p f m l)
  | [], m, h => h
  | c :: l, m, h => feedL_len l (mFeed_len h)
theorem feedL_next {p : Prg} {f : Bool} {m : Mch} {l : List UInt8} {j : Nat} {c : UInt8} (h : l[j]? = some c) : feedL p f m (l.take (j + 1)) = mFeed p f (feedL p f m (l.take j)) (c.toNat : Int) := by
  unfold feedL
  rw [List.take_add_one, h, List.foldl_append]
  rfl
def mO3 (p : Prg) (m q : Mch) : List Ob := [⟨62, 0, [.ro (inssR p.code), .ro (intsR p.entries)]⟩, ⟨74, 0, [.ro (.int m.pc), .ro (.int m.register), .ro (intsR m.stack), .ro (intsR m.sums), .ro (.int m.left), .ro (.bool m.started), .ro (.bool m.escaped), .ro (.int m.state), .ro (.int m.code), .ro (.int m.read)]⟩,
  ⟨74, 0, [.int 0, .int 0, .nil, .nil, .int 0, .bool false, .bool false, .int 0, .int 0, .int 0]⟩, rowI q.stack, rowI q.sums, ⟨74, 0, mC q 3 4⟩]
set_option maxHeartbeats 8000000 in
theorem impl_FeedBytes (p : Prg) (m : Mch) (l : List UInt8) (hB : PrgB p) (hm0 : MLen m) (hl : l.length ≤ 1048576) : AC Try.prog 114 [prgR p, mchR m, bytesR l] fun rr => rr = mchRR (feedL p (fitB p) m l) := by
  have hF := impl_FitsMachine p hB
  have hc := hB.code
  have hll : (l.map fun z => [RV.u8 z]).length = l.length := List.length_map ..
  refine ac_enter Try.func114 rfl _ Try.ntmps114 (by simp) fun C hn hm => ?_
  by_cases h0 : l = []
  · subst h0
    repeat' (first
 | refine op_callOR (copyMachine_ac m hm0) rfl (tl hn rfl) ?_
 | refine RunsL.step tabOk hn rfl ?_
 | refine RunsL.nil ?_
 | refine Runs.toRegion 30 rfl ?_
 | (refine RunsL.pe hn rfl rfl rfl ?_; first
 | refine ⟨_, pu_callR hF rfl, ?_⟩)
 | (refine Runs.ctls 30 rfl ?_; first | refine Runs.cond_t rfl ?_ | ((first | refine Runs.cond_yes rfl ?_ ?_ | refine Runs.cond_nno rfl ?_ ?_); · first | omega | rfl | assumption | (simp only [List.length_map]; omega)) | ((first | refine Runs.cond_no rfl ?_ ?_ | refine Runs.cond_nyes rfl ?_ ?_); · first | omega | rfl | assumption | (simp only [List.length_map]; omega)) | refine Runs.ret (ends_ro hm rfl rfl ?_) | exact Runs.ret (ends_cellR hm rfl rfl rfl (Nat.le_of_ble_eq_true rfl) rfl rfl))
 | refine op_box rfl (tl hn rfl) ?_
 | refine op_alloc (tl hn rfl) ?_
 | refine op_storeN rfl rfl rfl rfl (Nat.le_of_ble_eq_true rfl) ?_
 | (refine RunsL.pe hn rfl rfl rfl ?_; first
 | refine ⟨_, pu_add rfl rfl (by omega), ?_⟩
 | refine ⟨_, pu_indexAddr_map rfl rfl (by omega) (by assumption), ?_⟩
        ))
    refine Runs.ctls 30 rfl ?_
    exact Runs.ret (ends_mch (i := 2) (a := 3) (b := 4) hm rfl rfl rfl rfl rfl (by decide) rfl)
  · have hpos : 0 < l.length := List.length_pos_iff.2 h0
    repeat' (first
 | refine op_callOR (copyMachine_ac m hm0) rfl (tl hn rfl) ?_
 | refine RunsL.step tabOk hn rfl ?_
 | refine RunsL.nil ?_
 | refine Runs.toRegion 30 rfl ?_
 | (refine RunsL.pe hn rfl rfl rfl ?_; first
 | refine ⟨_, pu_callR hF rfl, ?_⟩)
 | (refine Runs.ctls 30 rfl ?_; first | refine Runs.cond_t rfl ?_ | ((first | refine Runs.cond_yes rfl ?_ ?_ | refine Runs.cond_nno rfl ?_ ?_); · first | omega | rfl | assumption | (simp only [List.length_map]; omega)) | ((first | refine Runs.cond_no rfl ?_ ?_ | refine Runs.cond_nyes rfl ?_ ?_); · first | omega | rfl | assumption | (simp only [List.length_map]; omega)) | refine Runs.ret (ends_ro hm rfl rfl ?_) | exact Runs.ret (ends_cellR hm rfl rfl rfl (Nat.le_of_ble_eq_true rfl) rfl rfl))
 | refine op_box rfl (tl hn rfl) ?_
 | refine op_alloc (tl hn rfl) ?_
 | refine op_storeN rfl rfl rfl rfl (Nat.le_of_ble_eq_true rfl) ?_
 | (refine RunsL.pe hn rfl rfl rfl ?_; first
 | refine ⟨_, pu_add rfl rfl (by omega), ?_⟩
 | refine ⟨_, pu_indexAddr_map rfl rfl (by omega) (by assumption), ?_⟩
        ))
    refine Runs.loopN 30 rfl (fun j => [(3, .obj 0 0), (6, .obj 2 0), (7, .obj 5 0), (8, .bool (fitB p)), (19, .ro (bytesR l)), (20, .int ((l.map fun z => [RV.u8 z]).length : Int)), (21, .int (j : Int))]) (fun j => mO3 p m (feedL p (fitB p) m (l.take j))) (fun _ => True) l.length 0 (Nat.zero_le _) trivial ⟨rfl, rfl, rfl, rfl, rfl, rfl, rfl, trivial⟩ rfl fun j hj _ next => ?_
    by_cases hlt : j < l.length
    · obtain ⟨x, hx⟩ : ∃ x, l[(j : Int).toNat]? = some x := ⟨_, List.getElem?_eq_getElem hlt⟩
      have hx' : l[j]? = some x := hx
      have hnx := feedL_next (p := p) (f := fitB p) (m := m) hx'
      have hL := feedL_len (p := p) (f := fitB p) (l.take j) hm0
      generalize feedL p (fitB p) m (l.take j) = q at hnx hL ⊢
      have hA := feed_am p (fitB p) q (x.toNat : Int) hL (by omega) (fitsOk rfl) ⟨by omega, by have := x.toNat_lt; omega⟩
      repeat' (first
 | refine op_callMch (rs := [prgR p, .bool (fitB p), .int (x.toNat : Int)]) 5 3 4 hA rfl rfl rfl rfl (by decide) (by repeat' (first | exact trivial | exact .inl rfl | exact .inr rfl | refine And.intro ?_ ?_)) (fun t h => by injection h with h; subst h; exact tl hn rfl) ?_
 | (refine RunsL.pe hn rfl rfl rfl ?_; first
 | refine ⟨_, pu_ofU8 rfl, ?_⟩)
 | refine RunsL.step tabOk hn rfl ?_
 | refine RunsL.nil ?_
 | refine Runs.toRegion 30 rfl ?_
 | (refine Runs.ctls 30 rfl ?_; first | refine Runs.cond_t rfl ?_ | ((first | refine Runs.cond_yes rfl ?_ ?_ | refine Runs.cond_nno rfl ?_ ?_); · first | omega | rfl | assumption | (simp only [List.length_map]; omega)) | ((first | refine Runs.cond_no rfl ?_ ?_ | refine Runs.cond_nyes rfl ?_ ?_); · first | omega | rfl | assumption | (simp only [List.length_map]; omega)) | refine Runs.ret (ends_ro hm rfl rfl ?_) | exact Runs.ret (ends_cellR hm rfl rfl rfl (Nat.le_of_ble_eq_true rfl) rfl rfl))
 | refine op_box rfl (tl hn rfl) ?_
 | refine op_alloc (tl hn rfl) ?_
 | refine op_storeN rfl rfl rfl rfl (Nat.le_of_ble_eq_true rfl) ?_
 | (refine RunsL.pe hn rfl rfl rfl ?_; first
 | refine ⟨_, pu_add rfl rfl (by omega), ?_⟩
 | refine ⟨_, pu_indexAddr_map rfl rfl (by omega) (by assumption), ?_⟩
          ))
      refine next _ _ ⟨rfl, rfl, rfl, rfl, rfl, rfl, rfl, trivial⟩ hlt trivial ?_
      rw [hnx]
      rfl
    · obtain rfl : j = l.length := by omega
      rw [List.take_length]
      repeat' (first
 | refine RunsL.step tabOk hn rfl ?_
 | refine RunsL.nil ?_
 | refine Runs.toRegion 30 rfl ?_
 | (refine Runs.ctls 30 rfl ?_; first | refine Runs.cond_t rfl ?_ | ((first | refine Runs.cond_yes rfl ?_ ?_ | refine Runs.cond_nno rfl ?_ ?_); · first | omega | rfl | assumption | (simp only [List.length_map]; omega)) | ((first | refine Runs.cond_no rfl ?_ ?_ | refine Runs.cond_nyes rfl ?_ ?_); · first | omega | rfl | assumption | (simp only [List.length_map]; omega)) | refine Runs.ret (ends_ro hm rfl rfl ?_) | exact Runs.ret (ends_cellR hm rfl rfl rfl (Nat.le_of_ble_eq_true rfl) rfl rfl))
 | refine op_box rfl (tl hn rfl) ?_
 | refine op_alloc (tl hn rfl) ?_
 | refine op_storeN rfl rfl rfl rfl (Nat.le_of_ble_eq_true rfl) ?_
 | (refine RunsL.pe hn rfl rfl rfl ?_; first
 | refine ⟨_, pu_add rfl rfl (by omega), ?_⟩
 | refine ⟨_, pu_indexAddr_map rfl rfl (by omega) (by assumption), ?_⟩
          ))
      refine Runs.ctls 30 rfl ?_
      exact Runs.ret (ends_mch (i := 2) (a := 3) (b := 4) hm rfl rfl rfl rfl rfl (by decide) rfl)
set_option maxHeartbeats 8000000 in
theorem impl_FinishMachine (p : Prg) (m : Mch) (hB : PrgB p) (hm0 : MLen m) : AC Try.prog 113 [prgR p, mchR m] fun rr => rr = .tup [mchRR (mAdv p (fitB p) m), .ro (.int (mFin (mAdv p (fitB p) m)))] := by
  have hA := impl_AdvanceMachine p m hB hm0
  refine ac_enter Try.func113 rfl _ Try.ntmps113 (by simp) fun C hn hm => ?_
  repeat' (first
 | refine Runs.toPerm (id := 7) 30 [[0, 1, 2, 3, 4], [0, 1, 3, 2, 4], [0, 3, 1, 2, 4], [1, 0, 2, 3, 4], [1, 0, 3, 2, 4], [1, 2, 0, 3, 4]] mixed rfl (by kernel_rfl) (by kernel_rfl) (by kernel_rfl) ⟨?_, ?_, ?_, ?_, ?_, ?_, trivial⟩
 | refine op_callOR hA rfl (tl hn rfl) ?_
 | refine RunsL.step tabOk hn rfl ?_
 | refine RunsL.nil ?_
 | refine Runs.toRegion 30 rfl ?_
 | (refine Runs.ctls 30 rfl ?_; first | ((first | refine Runs.cond_yes rfl ?_ ?_ | refine Runs.cond_nno rfl ?_ ?_); · first | omega | rfl | assumption | (simp only [List.length_map]; omega)) | ((first | refine Runs.cond_no rfl ?_ ?_ | refine Runs.cond_nyes rfl ?_ ?_); · first | omega | rfl | assumption | (simp only [List.length_map]; omega)) | refine Runs.cond_dec rfl (fun h => ?_) (fun h => ?_) | refine Runs.ret (ends_ro hm rfl rfl ?_) | exact Runs.ret (ends_cellR hm rfl rfl rfl (Nat.le_of_ble_eq_true rfl) rfl rfl))
 | refine op_box rfl (tl hn rfl) ?_
 | refine op_alloc (tl hn rfl) ?_
 | refine op_storeN rfl rfl rfl rfl (Nat.le_of_ble_eq_true rfl) ?_
 | ((first | refine RunsL.pe hn rfl rfl rfl ?_ | refine RunsD.pe rfl rfl ?_); first
 | refine ⟨_, pu_add rfl rfl (by omega), ?_⟩
 | refine ⟨_, pu_indexAddr_map rfl rfl (by omega) (by assumption), ?_⟩
 | refine ⟨_, pu_sub rfl rfl (by omega), ?_⟩
 | refine ⟨_, pu_pick_b rfl rfl rfl, ?_⟩
 | refine ⟨_, pu_mul rfl rfl (by omega), ?_⟩
 | refine ⟨_, pu_build rfl rfl rfl rfl rfl rfl, ?_⟩))
  all_goals refine Runs.ctls 30 rfl ?_
  · exact Runs.ret (ends_mch2 (i := 2) (a := 3) (b := 4) hm rfl rfl rfl rfl rfl (by decide) rfl (by unfold mFin; rw [if_pos (by assumption)]))
  · exact Runs.ret (ends_mch2 (i := 2) (a := 3) (b := 4) hm rfl rfl rfl rfl rfl (by decide) rfl (by unfold mFin; rw [if_neg (by assumption), if_pos (by assumption)]))
  all_goals exact Runs.ret (ends_mch2 (i := 2) (a := 3) (b := 4) hm rfl rfl rfl rfl rfl (by decide) rfl (by unfold mFin; rw [if_neg (by assumption), if_neg (by assumption)]))
end Go.Proofs.Ytnecoghfhcimeaa
/- The machine, on the reference's side: its small steps. -/
namespace Go.Proofs.Ytnecoghfhcimeaa
set_option linter.unusedSimpArgs false
set_option linter.unusedVariables false
open Go.RowKit
open AV (Mem Keeps)
set_option maxRecDepth 100000
end Go.Proofs.Ytnecoghfhcimeaa
/- The machine, on the reference's side: instructions. -/
namespace Go.Proofs.Ytnecoghfhcimeaa
set_option linter.unusedSimpArgs false
set_option linter.unusedVariables false
open Go.RowKit
open AV (Mem Keeps)
set_option maxRecDepth 100000
end Go.Proofs.Ytnecoghfhcimeaa
/- The machine, on the reference's side: it advances. -/
namespace Go.Proofs.Ytnecoghfhcimeaa
set_option linter.unusedSimpArgs false
set_option linter.unusedVariables false
open Go.RowKit
open AV (Mem Keeps)
set_option maxRecDepth 100000
end Go.Proofs.Ytnecoghfhcimeaa
/- The machine, on the reference's side: copies, a byte. -/
namespace Go.Proofs.Ytnecoghfhcimeaa
set_option linter.unusedSimpArgs false
set_option linter.unusedVariables false
open Go.RowKit
open AV (Mem Keeps)
set_option maxRecDepth 100000
end Go.Proofs.Ytnecoghfhcimeaa
/- The machine, on the reference's side: it reads a byte. -/
namespace Go.Proofs.Ytnecoghfhcimeaa
set_option linter.unusedSimpArgs false
set_option linter.unusedVariables false
open Go.RowKit
open AV (Mem Keeps)
set_option maxRecDepth 100000
end Go.Proofs.Ytnecoghfhcimeaa
/- The machine, on the reference's side: it is given a byte. -/
namespace Go.Proofs.Ytnecoghfhcimeaa
set_option linter.unusedSimpArgs false
set_option linter.unusedVariables false
open Go.RowKit
open AV (Mem Keeps)
set_option maxRecDepth 100000
end Go.Proofs.Ytnecoghfhcimeaa
/- The machine is fed: the reference's side. -/
namespace Go.Proofs.Ytnecoghfhcimeaa
set_option linter.unusedSimpArgs false
set_option linter.unusedVariables false
open Go.RowKit
open AV (Mem Keeps)
set_option maxRecDepth 100000
end Go.Proofs.Ytnecoghfhcimeaa
/- A program is run: the program's side. -/
namespace Go.Proofs.Ytnecoghfhcimeaa
set_option linter.unusedSimpArgs false
set_option linter.unusedVariables false
open Go.RowKit
open AV (Mem Keeps)
set_option maxRecDepth 100000
def runP (p : Prg) (f : Bool) (l : List UInt8) : Int := mFin (mAdv p f (feedL p f m0 l))
set_option maxHeartbeats 8000000 in
theorem impl_RunProgram (p : Prg) (l : List UInt8) (hB : PrgB p) (hl : l.length ≤ 1048576) : ACv Try.prog 51 [prgR p, bytesR l] (.int (runP p (fitB p) l)) := by
  have h0 : MLen m0 := ⟨by decide, by decide⟩
  have hF := (impl_FeedBytes p m0 l hB h0 hl).shut (r := mchR (feedL p (fitB p) m0 l)) (by rintro _ rfl; exact seals_mch _)
  have hN := (impl_FinishMachine p (feedL p (fitB p) m0 l) hB (feedL_len l h0)).shut (r := .tup [mchR (mAdv p (fitB p) (feedL p (fitB p) m0 l)), .int (runP p (fitB p) l)]) (by
    rintro _ rfl
    simp only [Seals, SealsL]
    exact ⟨_, rfl, _, _, rfl, seals_mch _, _, _, rfl, rfl, rfl⟩)
  refine ac_enter Try.func51 rfl _ Try.ntmps51 (by simp) fun C hn hm => ?_
  repeat' (first
 | refine Runs.toDrawQ (id := 1) 30 [8] [0, 1, 2, 3, 4, 5, 6, 7, 8, 9] 10 [(9, 74, [.int .i64 0, .int .i64 0, .slice none 0 0, .slice none 0 0, .int .i64 0, .bool false, .bool false, .int .i64 0, .int .i64 0, .int .i64 0])] mixed hn rfl (by kernel_rfl) rfl (by decide) (by decide) ?_
 | refine RunsT.nil ?_
 | refine RunsT.step tabOk rfl rfl (fun _ => rfl) (by decide) ?_
 | refine RunsT.pur (fun _ => pu_callR impl_NewMachine rfl) (by decide) rfl rfl ?_
 | refine RunsT.pur (fun _ => pu_callR hF rfl) (by decide) rfl rfl ?_
 | refine RunsT.pur (fun _ => pu_callR hN rfl) (by decide) rfl rfl ?_
 | refine RunsT.alloc (p := 0) rfl inferInstance ?_
 | refine RunsT.alloc (p := 1) rfl inferInstance ?_
 | refine RunsL.step tabOk hn rfl ?_
 | refine RunsL.nil ?_
 | refine Runs.toRegion 30 rfl ?_
 | ((first | refine RunsL.pe hn rfl rfl rfl ?_ | refine RunsD.pe rfl rfl ?_); first
 | refine ⟨_, pu_callR impl_NewMachine rfl, ?_⟩
 | refine ⟨_, pu_callR hF rfl, ?_⟩
 | refine ⟨_, pu_callR hN rfl, ?_⟩)
 | (refine Runs.ctls 30 rfl ?_; first | ((first | refine Runs.cond_yes rfl ?_ ?_ | refine Runs.cond_nno rfl ?_ ?_); · first | omega | rfl | assumption | (simp only [List.length_map]; omega)) | ((first | refine Runs.cond_no rfl ?_ ?_ | refine Runs.cond_nyes rfl ?_ ?_); · first | omega | rfl | assumption | (simp only [List.length_map]; omega)) | refine Runs.ret (ends_ro hm rfl rfl ?_) | exact Runs.ret (ends_cellR hm rfl rfl rfl (Nat.le_of_ble_eq_true rfl) rfl rfl))
 | refine op_box rfl (tl hn rfl) ?_
 | refine op_storeN rfl rfl rfl rfl (Nat.le_of_ble_eq_true rfl) ?_
 | ((first | refine RunsL.pe hn rfl rfl rfl ?_ | refine RunsD.pe rfl rfl ?_); first
 | refine ⟨_, pu_add rfl rfl (by omega), ?_⟩
 | refine ⟨_, pu_indexAddr_map rfl rfl (by omega) (by assumption), ?_⟩
 | refine ⟨_, pu_sub rfl rfl (by omega), ?_⟩
 | refine ⟨_, pu_pick_b rfl rfl rfl, ?_⟩
 | refine ⟨_, pu_mul rfl rfl (by omega), ?_⟩
 | refine ⟨_, pu_build rfl rfl rfl rfl rfl rfl, ?_⟩))
  exact rr_int rfl
end Go.Proofs.Ytnecoghfhcimeaa
/- FnUnsafeCode: the draw, and what the law says in plain terms. -/
namespace Go.Proofs.Ytnecoghfhcimeaa
set_option linter.unusedSimpArgs false
set_option linter.unusedVariables false
open Go.RowKit
open AV (Mem Keeps)
def waitsD (o : Oper) (i : Nat) : Bool := o.after.any fun e => (match e.ground with | .data => true | _ => false) && Nat.beq e.on i
theorem waitsD_spec {o : Oper} {i : Nat} (h : waitsD o i = true) : ∃ e ∈ o.after, (∀ md, Region.binds md e = true) ∧ e.on = i := by
  unfold waitsD at h
  obtain ⟨e, he, hb⟩ := Array.any_eq_true'.1 h
  rw [Bool.and_eq_true] at hb
  refine ⟨e, he, fun md => ?_, Nat.eq_of_beq_eq_true hb.2⟩
  cases hg : e.ground <;> rw [hg] at hb <;> simp at hb
  cases md <;> simp [Region.binds, hg]
theorem staged_late {rs : ResU} {n : Nat} {o : Oper} {v : AV} (h : ((rs.map RE.key).all fun k => k.2.isNone || waitsD o k.1) = true) (hm : isMv o = false) : staged rs n o v := fun p r hp hr => .inr ⟨hm, by
  have := List.all_eq_true.1 h r.key (List.mem_map_of_mem (List.mem_of_getElem? hp))
  rw [Bool.or_eq_true] at this
  rcases this with h1 | h1
  · rw [show r.key.2 = r.pre from rfl] at h1
    cases hx : r.pre with
    | none => rw [hx] at hr; cases hr
    | some x => rw [hx] at h1; cases h1
  · exact waitsD_spec h1⟩
theorem PrgS.big {p : Prg} (h : PrgS p) : PrgB p := ⟨by have := h.code; omega, by have := h.ents; omega, fun z hz => by have := h.vals z hz; unfold I64; omega⟩
theorem drawProgram_ac (b : List UInt8) (hb : b.length ≤ 1048576) : AC Try.prog 46 [bytesR b] fun rr => ∃ p, rr = .ro (prgR p) ∧ PrgS p := by
  refine acu_enter Try.func46 rfl _ Try.ntmps46 (by simp) fun C u hn hm hu => ?_
  repeat' (first
 | (refine op_newU (l1New_u b hb) rfl hu (tl hn rfl) ?_; intro h hi)
 | (refine op_drawN (l16Program_d b hb) qprg_ok rfl hu hi rfl rfl rfl (by first | rfl | repeat' (first | rfl | exact clns_ro _ | refine clnO_cons ?_ ?_)) (tl hn rfl) ?_; rintro i h _ hi ⟨p, rfl, hp⟩)
 | refine RunsL.step tabOk hn rfl ?_
 | refine RunsL.nil ?_
 | refine Runs.toRegion 30 rfl ?_
 | (refine Runs.ctls 30 rfl ?_; first | ((first | refine Runs.cond_yes rfl ?_ ?_ | refine Runs.cond_nno rfl ?_ ?_); · first | omega | rfl | assumption | (simp only [List.length_map]; omega)) | ((first | refine Runs.cond_no rfl ?_ ?_ | refine Runs.cond_nyes rfl ?_ ?_); · first | omega | rfl | assumption | (simp only [List.length_map]; omega)) | refine Runs.ret (ends_ro hm rfl rfl ?_) | exact Runs.ret (ends_cellR hm rfl rfl rfl (Nat.le_of_ble_eq_true rfl) rfl rfl))
 | refine op_alloc (tl hn rfl) ?_
 | refine op_storeN rfl rfl rfl rfl (Nat.le_of_ble_eq_true rfl) ?_
    )
  exact Runs.ctls 30 rfl (Runs.ret (ends_cellR (n := 2) hm rfl rfl rfl (Nat.le_of_ble_eq_true rfl) ⟨p, rfl, hp⟩ rfl))
def badP (p : Prg) (k : Nat) : Prg := ⟨p.code.set k ⟨8, (p.code.length : Int), 0⟩, p.entries⟩
theorem badP_safeI {p : Prg} {k : Nat} (hk : k < p.code.length) : ¬ SafeI (badP p k) k := by
  have h : (badP p k).code[((k : Nat) : Int).toNat]? = some ⟨8, (p.code.length : Int), 0⟩ := by
    show (p.code.set k _)[k]? = _
    rw [List.getElem?_set_self hk]
  rw [safeI_some h]
  rintro ⟨_, hx⟩
  have hl : (badP p k).code.length = p.code.length := by simp [badP]
  rw [hl] at hx
  have := hx.2.1 (.inr (.inl rfl))
  simp only at this
  omega
theorem badP_safe {p : Prg} {k : Nat} (hk : k < p.code.length) : ¬ SafeP (badP p k) := fun h => badP_safeI hk (h.1.ins k (by simpa [badP] using hk))
theorem safe_out {p : Prg} : ¬ SafeI p (p.code.length : Int) := by
  rw [safeI_out fun h => by have := h.2; omega]; exact id
theorem PrgS.bad {p : Prg} (h : PrgS p) (k : Nat) : PrgB (badP p k) := ⟨by have := h.code; simp [badP]; omega, by have := h.ents; show p.entries.length ≤ _; omega, h.big.vals⟩
theorem SafeP.pos {p : Prg} (h : SafeP p) : 0 < p.code.length := by
  have h0 := h.1.op0
  rcases Nat.eq_zero_or_pos p.code.length with e | e
  · have : p.code = [] := List.eq_nil_of_length_eq_zero e
    unfold opA at h0
    rw [this] at h0
    simp at h0
  · exact e
theorem run_unfit {p : Prg} (l : UInt8) : runP p false [l] = 8 := by
  have hA : ∀ m : Mch, m.state = 0 → mAdv p false m = mFail m 8 := fun m h => by
    unfold mAdv; rw [if_neg (by omega), if_pos (.inl rfl)]
  have h1 : mFeed p false m0 (l.toNat : Int) = mFail m0 8 := by
    unfold mFeed
    rw [hA m0 rfl, if_neg (by decide), if_pos (by decide)]
  have h2 : feedL p false m0 [l] = mFail m0 8 := h1
  unfold runP
  rw [h2]
  have h3 : mAdv p false (mFail m0 8) = mFail m0 8 := by
    unfold mAdv; rw [if_pos (by decide)]
  rw [h3]; rfl
theorem set_ins3 {l : List Ins} {k : Nat} (j : Ins) (h : k < l.length) : setsAt ((l.flatMap insR).map AV.ro) (k * 3) ((insR j).map .ro) = ((l.set k j).flatMap insR).map AV.ro := by
  obtain ⟨i, hi⟩ : ∃ i, l[k]? = some i := ⟨_, List.getElem?_eq_getElem h⟩
  have h' : (l.set k j)[k]? = some j := by rw [List.getElem?_set_self h]
  have ht : (l.set k j).take k = l.take k := by rw [List.take_set_of_le (Nat.le_refl _)]
  have hd : (l.set k j).drop (k + 1) = l.drop (k + 1) := by rw [List.drop_set_of_lt (by omega)]
  rw [flatMap_split insR l k i hi, flatMap_split insR (l.set k j) k j h', ht, hd, List.map_append, sets_app _ _ _ _ (by rw [List.length_map, take_flat (by omega)]) (by simp [insR]), List.map_append, List.map_append, List.map_append, List.append_assoc]
  congr 2
end Go.Proofs.Ytnecoghfhcimeaa
