/- An empty literal of a slice is a row of the frame's own. Over any program. -/
import Derived.Test.YtnbjncafoahclaaDoorArr
namespace Go.Proofs.YtnbjncafoahclaaDoor
set_option linter.unusedSimpArgs false
set_option linter.unusedVariables false
open Go.RowKit
open AV (Mem Keeps)
/-- No object speaks of object i. -/
def FreeI (i : Nat) : List Ob → Prop
  | [] => True
  | o :: os => AV.onlys (fun k => k ≠ i) o.cs ∧ FreeI i os
theorem FreeI.at_ {i : Nat} : ∀ {os : List Ob}, FreeI i os → ∀ (j : Nat) o, os[j]? = some o → AV.onlys (fun k => k ≠ i) o.cs
  | [], _, j, o, hj => by simp at hj
  | o :: os, h, j, o', hj => by
    simp only [FreeI] at h
    cases j with
    | zero => simp at hj; subst hj; exact h.1
    | succ j => exact FreeI.at_ h.2 j o' (by simpa using hj)
theorem onlys_bools (p : Nat → Prop) (n : Nat) (u : Nat → Bool) : AV.onlys p (bools n u) := by rw [bools_map]; exact onlys_ro _ _
section
variable {P : Program} {C : Ctx} {ops : Array Oper} {rest : List Oper} {k : List Item} {R : Act → World → Prop} {env : Env} {σ : List Ob} {t : Nat} {ty : TypeId} {pos : String} {after : Array Edge}
theorem op_callOR {f : FuncId} {fn : Func} {xs : Array Operand} {ats : Array TypeId} {args : List RV} {rr : RR} [hfn : FN P f fn] (hf : AC P f args fun r => r = rr) (ha : xs.toList.map (ev env) = args.map .ro) (ht : t < C.n)
    (hk : RunsL P C ops rest k R ⟨(t, instA σ.length rr) :: env, σ ++ obs rr⟩) :
    RunsL P C ops (⟨some t, .call { callee := .value (.func f), args := xs, argTypes := ats }, ty, pos, after, none⟩ :: rest) k R ⟨env, σ⟩ := op_callO hf (ha ▸ FitsL.ros args) ht hk
theorem pu_len_seqN {tt e : TypeId} {z : Value} {sz bytes sz' : Nat} {x : Operand} {els : List (List RV)} {gd : Option (Nat × Bool)} (n : Nat) [hs : SL P tt e z sz bytes] (hx : ev env x = .ro (.seq sz' els)) (hl : els.length = n) :
    Pur P C ⟨some t, .call { callee := .builtin .len, args := #[x], argTypes := #[tt] }, ty, pos, after, gd⟩ env σ (.int (n : Int)) := hl ▸ pu_len_seq hx
theorem op_appendA {tt e : TypeId} {z : Value} {bytes i : Nat} {o : Ob} {rs : List RV} {els : List (List RV)} {x y : Operand} [hs : SL P tt e z 1 bytes] (hx : ev env x = .own i) (ho : σ[i]? = some o) (hc : allRo o.cs = some rs) (hy : ev env y = .ro (.seq 1 els)) (het : o.t = e) (hes : o.sz = 1)
    (hfree : FreeI i (σ.set i ⟨o.t, o.sz, []⟩)) (b1 : rs.length + els.length ≤ 4294967296) (b2 : Nat.ble bytes 256 = true) (ht : t < C.n)
    (hk : RunsL P C ops rest k R ⟨(t, .own i) :: killEnv i env, σ.set i ⟨e, 1, (rs ++ els.flatten).map .ro⟩⟩) :
    RunsL P C ops (⟨some t, .call { callee := .builtin .append, args := #[x, y], argTypes := #[tt, tt] }, ty, pos, after, none⟩ :: rest) k R ⟨env, σ⟩ :=
  op_append (n := rs.length) hx ho (allRo_eq hc) hy het hes (Nat.mul_one _).symm (fun j ob hj => by
    by_cases hji : j = i
    · subst hji
      rw [ho] at hj; injection hj with hj; subst hj
      rw [allRo_eq hc]; exact onlys_ro _ _
    · exact hfree.at_ j ob (by rw [List.getElem?_set_ne (Ne.symm hji)]; exact hj)) (by omega) (by
    have h := Nat.le_of_ble_eq_true b2
    have := Nat.mul_le_mul b1 h
    omega) ht hk
theorem run_build0 {tt e : TypeId} {z : Value} {sz bytes : Nat} [hs : SL P tt e z sz bytes] (w : World) : (Instr.buildSlice tt 0 #[]).run P w = .ok (.slice (some ⟨w.heap.size, 0, none⟩) 0 0) (w.alloc (.cells #[] e)) := by
  obtain ⟨i, hi, hz0, hsz', hb⟩ := hs.el.hi
  simp [Instr.buildSlice, run_underlying hs.el.ht, sizeOf, typeInfo, hi, newRow, newObj, Instr.fill, show Array.range 0 = #[] by rfl]
  rfl
theorem op_build0 {tt e : TypeId} {z : Value} {sz bytes : Nat} [hs : SL P tt e z sz bytes] (ht : t < C.n) (hk : RunsL P C ops rest k R ⟨(t, .own σ.length) :: env, σ ++ [⟨e, sz, []⟩]⟩) :
    RunsL P C ops (⟨some t, .buildSlice tt 0 #[], ty, pos, after, none⟩ :: rest) k R ⟨env, σ⟩ :=
  RunsL.val rfl rfl ht (fun a w φ hG hH => by
    have hg := good_alloc hG #[] e sz [] (by simp) (fun j v hj => by simp at hj)
    refine ⟨_, _, _, by simp only [execOp, Sem.run_bind]; rw [show (#[] : Array (Nat × Operand)).map (fun p => (p.1, a.eval p.2)) = #[] from by simp, run_build0 (P := P) (tt := tt) w]; rfl, hg.1, hg.2, ?_⟩
    simp only [AV.rel]
    exact ⟨⟨e, sz, []⟩, 0, by rw [List.getElem?_append_right (Nat.le_refl _), Nat.sub_self]; rfl, by simp, hs.el.hs, .inr ⟨w.heap.size, 0, _, upd_eq, rfl, heap_alloc_new w _, Nat.le_refl _, Nat.zero_le _, by simp⟩⟩) hk
end
end Go.Proofs.YtnbjncafoahclaaDoor
