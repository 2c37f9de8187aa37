/- Steps of a walk: tests with what they tell, guards, weakening of a frame. Over any program. -/
import Derived.Test.YtnbjncafoahclaaDoorCon
namespace Go.Proofs.YtnbjncafoahclaaDoor
set_option linter.unusedSimpArgs false
set_option linter.unusedVariables false
open Go.RowKit
open AV (Mem Keeps)
section
variable {P : Program} {C : Ctx} {ops : Array Oper} {rest : List Oper} {k : List Item} {R : Act → World → Prop} {env : Env} {σ : List Ob} {t : Nat} {ty : TypeId} {pos : String} {after : Array Edge}
/-- What is in the frame already may be written once more. -/
theorem Runs.again {v : AV} (h : look env t = v) (hk : Runs P C k R ⟨(t, v) :: env, σ⟩) : Runs P C k R ⟨env, σ⟩ :=
  ⟨fun a w ⟨h1, h2, φ, h3, h4⟩ => hk.run a w ⟨h1, h2, φ, h3, fun s => by
    rw [look_put]; split
    · rename_i e; subst e; rw [← h]; exact h4 t
    · exact h4 s⟩⟩
theorem RunsL.again {l : List Oper} {v : AV} (h : look env t = v) (hk : RunsL P C ops l k R ⟨(t, v) :: env, σ⟩) : RunsL P C ops l k R ⟨env, σ⟩ :=
  ⟨fun a w ⟨h1, h2, φ, h3, h4⟩ => hk.run a w ⟨h1, h2, φ, h3, fun s => by
    rw [look_put]; split
    · rename_i e; subst e; rw [← h]; exact h4 t
    · exact h4 s⟩⟩
section
variable {x y : Code}
theorem Runs.cond_t (hc : look env t = .bool true) (h : Runs P C (.code x :: k) R ⟨env, σ⟩) : Runs P C (.code (.cond (.tmp t) x y) :: k) R ⟨env, σ⟩ := Runs.cond (b := true) hc (fun _ => h) (fun h => by cases h)
theorem Runs.cond_f (hc : look env t = .bool false) (h : Runs P C (.code y :: k) R ⟨env, σ⟩) : Runs P C (.code (.cond (.tmp t) x y) :: k) R ⟨env, σ⟩ := Runs.cond (b := false) hc (fun h => by cases h) (fun _ => h)
theorem Runs.cond_dec {φ : Prop} [Decidable φ] (hc : look env t = .bool (decide φ)) (ht : φ → Runs P C (.code x :: k) R ⟨(t, .bool true) :: env, σ⟩) (hf : ¬ φ → Runs P C (.code y :: k) R ⟨(t, .bool false) :: env, σ⟩) :
    Runs P C (.code (.cond (.tmp t) x y) :: k) R ⟨env, σ⟩ :=
  Runs.cond (b := decide φ) hc (fun h => (ht (of_decide_eq_true h)).again (by rw [hc, h])) (fun h => (hf (of_decide_eq_false h)).again (by rw [hc, h]))
theorem Runs.cond_ndec {φ : Prop} [Decidable φ] (hc : look env t = .bool (!decide φ)) (ht : ¬ φ → Runs P C (.code x :: k) R ⟨(t, .bool true) :: env, σ⟩) (hf : φ → Runs P C (.code y :: k) R ⟨(t, .bool false) :: env, σ⟩) :
    Runs P C (.code (.cond (.tmp t) x y) :: k) R ⟨env, σ⟩ :=
  Runs.cond (b := !decide φ) hc (fun h => (ht (by simpa using h)).again (by rw [hc, h])) (fun h => (hf (by simpa using h)).again (by rw [hc, h]))
theorem Runs.cond_b {b : Bool} (hc : look env t = .bool b) (ht : b = true → Runs P C (.code x :: k) R ⟨(t, .bool true) :: env, σ⟩) (hf : b = false → Runs P C (.code y :: k) R ⟨(t, .bool false) :: env, σ⟩) :
    Runs P C (.code (.cond (.tmp t) x y) :: k) R ⟨env, σ⟩ :=
  Runs.cond (b := b) hc (fun h => (ht h).again (by rw [hc, h])) (fun h => (hf h).again (by rw [hc, h]))
theorem Runs.cond_nb {b : Bool} (hc : look env t = .bool (!b)) (ht : b = false → Runs P C (.code x :: k) R ⟨(t, .bool true) :: env, σ⟩) (hf : b = true → Runs P C (.code y :: k) R ⟨(t, .bool false) :: env, σ⟩) :
    Runs P C (.code (.cond (.tmp t) x y) :: k) R ⟨env, σ⟩ :=
  Runs.cond (b := !b) hc (fun h => (ht (by simpa using h)).again (by rw [hc, h])) (fun h => (hf (by simpa using h)).again (by rw [hc, h]))
end
section
variable {dst : Nat} {op : Op} {j tj : Nat} {want : Bool} {oj : Oper}
theorem RunsL.guard_t (hj : ops[j]? = some oj) (hd : oj.dst = some tj) (hb : look env tj = .bool want) (hk : RunsL P C ops (⟨some dst, op, ty, pos, after, none⟩ :: rest) k R ⟨env, σ⟩) :
    RunsL P C ops (⟨some dst, op, ty, pos, after, some (j, want)⟩ :: rest) k R ⟨env, σ⟩ := by
  refine ⟨fun a w hs => ?_⟩
  by_cases ht : dst < C.n
  · exact (RunsL.guard hj hd hb ht (fun _ => hk) (fun h => by cases want <;> simp at h)).run a w hs
  · have h := hk.run a w hs
    obtain ⟨h1, h2, φ, h3, h4⟩ := hs
    have hw : Region.wanted ⟨some dst, op, ty, pos, after, some (j, want)⟩ (yielded ops a.tmps) = true := by
      have h := h4 tj
      rw [show look (⟨env, σ⟩ : St).env tj = _ from hb] at h
      simp only [AV.rel, RV.rel, Array.getD_eq_getD_getElem?] at h
      cases he : a.tmps[tj]? with
      | none => simp [he, undef] at h
      | some v =>
        simp [he] at h
        subst h
        simp [Region.wanted, yielded, hj, hd, he]
    unfold wpList at h ⊢
    rw [if_pos (by simp [Region.wanted])] at h
    rw [if_pos hw]
    exact h
theorem RunsL.guard_f (hj : ops[j]? = some oj) (hd : oj.dst = some tj) (hb : look env tj = .bool (!want)) (ht : dst < C.n) (hk : RunsL P C ops rest k R ⟨(dst, .ro (.c undef)) :: env, σ⟩) :
    RunsL P C ops (⟨some dst, op, ty, pos, after, some (j, want)⟩ :: rest) k R ⟨env, σ⟩ :=
  RunsL.guard hj hd hb ht (fun h => by cases want <;> simp at h) (fun _ => hk)
/-- The guard itself was not wanted. -/
theorem RunsL.guard_u (hj : ops[j]? = some oj) (hd : oj.dst = some tj) (hb : look env tj = .ro (.c undef)) (ht : dst < C.n) (hk : RunsL P C ops rest k R ⟨(dst, .ro (.c undef)) :: env, σ⟩) :
    RunsL P C ops (⟨some dst, op, ty, pos, after, some (j, want)⟩ :: rest) k R ⟨env, σ⟩ := by
  refine RunsL.unwanted rfl ht (fun a m hH => ?_) hk
  have h := hH tj
  rw [show look (⟨env, σ⟩ : St).env tj = _ from hb] at h
  simp only [AV.rel, RV.rel, Array.getD_eq_getD_getElem?] at h
  cases he : a.tmps[tj]? with
  | none => simp [Region.wanted, yielded, hj, hd, he]
  | some v =>
    simp [he] at h
    subst h
    simp [Region.wanted, yielded, hj, hd, he, undef]
theorem RunsL.guard_b {b : Bool} (hj : ops[j]? = some oj) (hd : oj.dst = some tj) (hb : look env tj = .bool b)
    (ht : b = true → RunsL P C ops (⟨some dst, op, ty, pos, after, some (j, want)⟩ :: rest) k R ⟨(tj, .bool true) :: env, σ⟩) (hf : b = false → RunsL P C ops (⟨some dst, op, ty, pos, after, some (j, want)⟩ :: rest) k R ⟨(tj, .bool false) :: env, σ⟩) :
    RunsL P C ops (⟨some dst, op, ty, pos, after, some (j, want)⟩ :: rest) k R ⟨env, σ⟩ := by
  cases b with
  | true => exact (ht rfl).again hb
  | false => exact (hf rfl).again hb
theorem RunsL.guard_dec {φ : Prop} [Decidable φ] (hj : ops[j]? = some oj) (hd : oj.dst = some tj) (hb : look env tj = .bool (decide φ))
    (ht : φ → RunsL P C ops (⟨some dst, op, ty, pos, after, some (j, want)⟩ :: rest) k R ⟨(tj, .bool true) :: env, σ⟩) (hf : ¬ φ → RunsL P C ops (⟨some dst, op, ty, pos, after, some (j, want)⟩ :: rest) k R ⟨(tj, .bool false) :: env, σ⟩) :
    RunsL P C ops (⟨some dst, op, ty, pos, after, some (j, want)⟩ :: rest) k R ⟨env, σ⟩ :=
  RunsL.guard_b hj hd hb (fun h => ht (of_decide_eq_true h)) (fun h => hf (of_decide_eq_false h))
theorem RunsL.guard_ndec {φ : Prop} [Decidable φ] (hj : ops[j]? = some oj) (hd : oj.dst = some tj) (hb : look env tj = .bool (!decide φ))
    (ht : ¬ φ → RunsL P C ops (⟨some dst, op, ty, pos, after, some (j, want)⟩ :: rest) k R ⟨(tj, .bool true) :: env, σ⟩) (hf : φ → RunsL P C ops (⟨some dst, op, ty, pos, after, some (j, want)⟩ :: rest) k R ⟨(tj, .bool false) :: env, σ⟩) :
    RunsL P C ops (⟨some dst, op, ty, pos, after, some (j, want)⟩ :: rest) k R ⟨env, σ⟩ :=
  RunsL.guard_b hj hd hb (fun h => ht (by simpa using h)) (fun h => hf (by simpa using h))
theorem RunsL.guard_nb {b : Bool} (hj : ops[j]? = some oj) (hd : oj.dst = some tj) (hb : look env tj = .bool (!b))
    (ht : b = false → RunsL P C ops (⟨some dst, op, ty, pos, after, some (j, want)⟩ :: rest) k R ⟨(tj, .bool true) :: env, σ⟩) (hf : b = true → RunsL P C ops (⟨some dst, op, ty, pos, after, some (j, want)⟩ :: rest) k R ⟨(tj, .bool false) :: env, σ⟩) :
    RunsL P C ops (⟨some dst, op, ty, pos, after, some (j, want)⟩ :: rest) k R ⟨env, σ⟩ :=
  RunsL.guard_b hj hd hb (fun h => ht (by simpa using h)) (fun h => hf (by simpa using h))
end
/-- What of a frame is wanted later. -/
def Sub : Env → Env → Prop
  | [], _ => True
  | (t, v) :: e, env => look env t = v ∧ Sub e env
theorem Sub.look {e env : Env} (h : Sub e env) (t : Nat) : look e t = .junk ∨ look e t = Proofs.YtnbjncafoahclaaDoor.look env t := by
  induction e with
  | nil => exact .inl rfl
  | cons p e ih =>
    obtain ⟨s, v⟩ := p
    simp only [Sub] at h
    rw [look_put]
    split
    · rename_i e; subst e; exact .inr h.1.symm
    · exact ih h.2
theorem Runs.keep (env' : Env) (h : Sub env' env) (hk : Runs P C k R ⟨env', σ⟩) : Runs P C k R ⟨env, σ⟩ :=
  ⟨fun a w ⟨h1, h2, φ, h3, h4⟩ => hk.run a w ⟨h1, h2, φ, h3, fun s => by
    rcases h.look s with e | e
    · show AV.rel _ (Proofs.YtnbjncafoahclaaDoor.look env' s) _
      rw [e]; simp [AV.rel]
    · show AV.rel _ (Proofs.YtnbjncafoahclaaDoor.look env' s) _
      rw [e]; exact h4 s⟩⟩
/-- Objects at the end of the list that nothing speaks of go. -/
def Free (n : Nat) : Env → Prop
  | [] => True
  | (_, v) :: e => v.only (fun i => i < n) ∧ Free n e
def FreeO (n : Nat) : List Ob → Prop
  | [] => True
  | o :: os => AV.onlys (fun i => i < n) o.cs ∧ FreeO n os
theorem Free.look {n : Nat} {env : Env} (h : Free n env) (t : Nat) : (look env t).only fun i => i < n := by
  induction env with
  | nil => simp [Proofs.YtnbjncafoahclaaDoor.look, AV.only]
  | cons p e ih =>
    obtain ⟨s, v⟩ := p
    simp only [Free] at h
    rw [look_put]
    split
    · exact h.1
    · exact ih h.2
theorem FreeO.at_ {n : Nat} : ∀ {os : List Ob}, FreeO n os → ∀ (i : Nat) o, os[i]? = some o → AV.onlys (fun i => i < n) o.cs
  | [], _, i, o, hi => by simp at hi
  | o :: os, h, i, o', hi => by
    simp only [FreeO] at h
    cases i with
    | zero => simp at hi; subst hi; exact h.1
    | succ i => exact FreeO.at_ h.2 i o' (by simpa using hi)
theorem onlys_mem {p : Nat → Prop} : ∀ {vs : List AV}, AV.onlys p vs → ∀ (j : Nat) v, vs[j]? = some v → v.only p
  | [], _, j, v, hj => by simp at hj
  | x :: xs, h, j, v, hj => by
    simp only [AV.onlys] at h
    cases j with
    | zero => simp at hj; subst hj; exact h.1
    | succ j => exact onlys_mem h.2 j v (by simpa using hj)
theorem Runs.drop {more : List Ob} (hf : Free σ.length env) (ho : FreeO σ.length σ) (hk : Runs P C k R ⟨env, σ⟩) : Runs P C k R ⟨env, σ ++ more⟩ := by
  refine ⟨fun a w ⟨h1, h2, φ, h3, h4⟩ => ?_⟩
  have hK : Keeps (fun i => i < σ.length) ⟨w, φ, σ ++ more, C.ok⟩ ⟨w, φ, σ, C.ok⟩ := by
    refine ⟨⟨Nat.le_refl _, fun b _ hb => ⟨⟨hb.1, fun i hi e => hb.2 i (by simp only [List.length_append]; simp only at hi; omega) e⟩, rfl⟩⟩, fun i hi _ => ⟨hi, rfl⟩, fun i ob hi ho => ⟨ob.cs, ?_, rfl⟩, fun i g us t _ _ _ hh => ⟨us, hh, rfl⟩⟩
    show σ[i]? = _
    rw [← List.getElem?_append_left hi (l₂ := more)]; exact ho
  refine hk.run a w ⟨h1, h2, φ, ⟨rfl, fun i j g hi hj => h3.inj i j g (by simp only [List.length_append]; simp only at hi; omega) (by simp only [List.length_append]; simp only at hj; omega), fun i o hi => ?_, fun i g hi hg => h3.mine i g (by simp only [List.length_append]; simp only at hi; omega) hg, h3.frm⟩, fun t => AV.rel_keeps hK _ _ (hf.look t) (h4 t)⟩
  have hil : i < σ.length := (List.getElem?_eq_some_iff.1 hi).1
  have h := h3.ob i o (by show (σ ++ more)[i]? = _; rw [List.getElem?_append_left hil]; exact hi)
  simp only at h ⊢
  cases hg : φ i with
  | none => rw [hg] at h; exact h
  | some g =>
    rw [hg] at h
    obtain ⟨us, q1, q2, q3⟩ := h
    refine ⟨us, q1, q2, fun j v hj => ?_⟩
    obtain ⟨u, e1, e2, e3⟩ := q3 j v hj
    exact ⟨u, e1, e2, AV.rel_keeps hK _ _ (onlys_mem (ho.at_ i o hi) j v hj) e3⟩
end
end Go.Proofs.YtnbjncafoahclaaDoor
