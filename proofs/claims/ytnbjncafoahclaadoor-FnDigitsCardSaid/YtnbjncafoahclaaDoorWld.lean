/- Functions that want a fact of the world, such as a table that lies in a variable. Over any program. -/
import Derived.Test.YtnbjncafoahclaaDoorOwn
import Derived.WalkSmall
namespace Go.Proofs.YtnbjncafoahclaaDoor
set_option linter.unusedSimpArgs false
set_option linter.unusedVariables false
open Go.RowKit
open AV (Mem Keeps)
/-- A fact of worlds that stays where memory only grows. -/
structure Lasts (T : World → Prop) : Prop where
  keep : ∀ w w', T w → Below w.heap.size w w' → T w'
/-- With this data as arguments, in a world of that fact, the function returns such a result. -/
def ACt (T : World → Prop) (P : Program) (f : FuncId) (args : List RV) (R : RR → Prop) : Prop :=
  ∀ (w : World) (ok : Nat → Prop) (us : Array Value), T w → (∀ b, w.heap.size ≤ b → ok b) → RV.rels w ok args us.toList →
    Calls P f us w fun e w' => ∃ u rr bs, e = .returned u ∧ R rr ∧ RR.rel w' (fun b => ok b ∧ b ∉ bs) rr u bs ∧ bs.Nodup ∧ (∀ b ∈ bs, w.heap.size ≤ b ∧ b < w'.heap.size) ∧ Below w.heap.size w w'
abbrev ACtv (T : World → Prop) (P : Program) (f : FuncId) (args : List RV) (r : RV) : Prop := ACt T P f args fun rr => rr = .ro r
/-- A context all of whose worlds bear the fact. -/
def Bears (T : World → Prop) (C : Ctx) : Prop := ∀ m, Good C m → T m.w
section
variable {T : World → Prop} {P : Program} {f : FuncId} {fn : Func} {args : List RV}
theorem AC.toT {R : RR → Prop} (h : AC P f args R) : ACt T P f args R := fun w ok us _ h0 hu => h w ok us h0 hu
theorem act_enter {c : Code} {R : RR → Prop} (hT : Lasts T) (hf : P.funcs[f]? = some fn) (hb : fn.body = some c) (n : Nat) (hn : fn.ntmps = n) (hl : args.length ≤ n)
    (h : ∀ C : Ctx, C.n = n → (∀ b, ¬ C.mu b) → Bears T C → Runs P C [.code c] (Ends P C fn R) ⟨startEnv 0 args, []⟩) : ACt T P f args R := by
  intro w ok us hw h0 hu
  have hlen := RV.rels_len args _ hu
  refine calls_of_fin hf hb ?_
  have hs : Sim ⟨w, ok, fun _ => False, n⟩ ⟨startEnv 0 args, []⟩ { tmps := us ++ Array.replicate (fn.ntmps - us.size) undef, defers := [] } w := by
    refine ⟨rfl, by simp at hlen ⊢; omega, fun _ => none, ⟨rfl, fun i j g hi => by simp at hi, fun i o hi => by simp at hi, fun i g hi => by simp at hi, ⟨rfl, rfl, rfl, Nat.le_refl _, fun _ _ _ => rfl, h0⟩⟩, fun t => ?_⟩
    rw [start_look]
    simp only [Nat.zero_le, if_true, Nat.sub_zero]
    cases hr : args[t]? with
    | none => simp [AV.rel]
    | some r =>
      obtain ⟨u, e1, e2⟩ := RV.rels_at args _ hu t r hr
      have ht : t < us.size := by have := (List.getElem?_eq_some_iff.1 e1).1; simpa using this
      simp only [AV.rel]
      have : (us ++ Array.replicate (fn.ntmps - us.size) undef).getD t undef = u := by
        rw [Array.getD_eq_getD_getElem?, Array.getElem?_append_left ht]
        have : us[t]? = some u := by simpa using e1
        simp [this]
      rw [this]
      exact RV.rel_mono ⟨Nat.le_refl _, fun b _ hb => ⟨⟨hb, fun i hi => by simp at hi⟩, rfl⟩⟩ r u e2
  have hr := (h ⟨w, ok, fun _ => False, n⟩ rfl (fun _ h => h) (fun m hG => hT.keep w m.w hw (hG.frm.below0 fun _ h => h))).run _ w hs
  intro b cs
  obtain ⟨a', w', todo, ⟨hd, v, hv, rr, bs, h1, h2, h3, h4, h5⟩, hst⟩ := hr b cs
  exact ⟨a', w', todo, ⟨hd, v, hv, v, rr, bs, rfl, h1, h2, h3, h4, h5⟩, hst⟩
theorem ACt.law (h : ACtv T P f args (.bool true)) (w : World) (hw : T w) (us : Array Value) (hu : RV.Rels w args us.toList) :
    Calls P f us w fun e w' => e = .returned (.bool true) ∧ Below w.heap.size w w' :=
  (h w (fun _ => True) us hw (fun _ _ => trivial) hu).mono fun _ _ ⟨u, rr, bs, e, h1, h2, _, _, h5⟩ => by
    subst h1
    simp only [RR.rel, RV.rel] at h2
    rw [e, h2.1]
    exact ⟨rfl, h5⟩
end
section
variable {T : World → Prop} {P : Program} {C : Ctx} {env : Env} {σ : List Ob} {t : Nat} {ty : TypeId} {pos : String} {after : Array Edge} {gd : Option (Nat × Bool)}
/-- A call, in such a context, that returns data. -/
theorem pu_callW {f : FuncId} {fn : Func} {xs : Array Operand} {ats : Array TypeId} {args : List RV} {r : RV} [hfn : FN P f fn] (hb : Bears T C) (hf : ACtv T P f args r) (ha : xs.toList.map (ev env) = args.map .ro) :
    Pur P C ⟨some t, .call { callee := .value (.func f), args := xs, argTypes := ats }, ty, pos, after, gd⟩ env σ (.ro r) := by
  refine ⟨fun a m hG hσ hH K Q hK => ?_⟩
  have hr := FitsL.rels (ha ▸ FitsL.ros args) _ (rels_eval (a := a) (m := m) xs.toList fun x hx => hH x (by simp [Op.operands, Call.operands]; exact .inr (by simpa using hx)))
  unfold Oper.wp
  rw [execOp_call_go, run_call hfn]
  simp only [Oper.upon]
  refine (hf m.w m.ok _ (hb m hG) (fun b hb => ⟨by rw [hG.ok0]; exact hG.frm.new b (Nat.le_trans hG.frm.size hb), fun i hi e => ?_⟩) (by simpa using hr)).mono ?_
  · have := hG.lt hi e; omega
  · rintro e w' ⟨u, rr, bs, rfl, rfl, h1, _, _, h4⟩
    simp only [RR.rel] at h1
    obtain ⟨h1, rfl⟩ := h1
    refine hK u w' h4 ?_
    simp only [AV.rel]
    exact RV.rel_mono ⟨Nat.le_refl _, fun b _ hb => ⟨hb.1, rfl⟩⟩ r u h1
end
/-- A variable keeps what it holds. -/
theorem lasts_var {P : Program} {n : String} {cs : Array Value} {g : Nat} (hg : P.globalNamed n = some g) : Lasts fun w => w.var? P n = some cs := ⟨fun w w' h hb => by
  refine var?_below hb hg ?_ h
  unfold World.var? at h
  rw [hg] at h
  simp only [Option.bind_some] at h
  split at h
  · rename_i hh; exact (Array.getElem?_eq_some_iff.1 hh).1
  · cases h⟩
end Go.Proofs.YtnbjncafoahclaaDoor
