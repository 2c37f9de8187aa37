/- The logic of a frame: its values, its objects, and the control of the code over them. Over any program. -/
import Derived.Test.YtnbjncafoahclaaDoorVal
namespace Go.Proofs.YtnbjncafoahclaaDoor
set_option linter.unusedSimpArgs false
set_option linter.unusedVariables false
open Go.RowKit

/-! ### From an item list to the function's return. -/
def nrm (F : Act → World → Prop) : Exit → Act → World → Prop
  | .normal, a, w => F a w
  | _, _, _ => False
def Fin (P : Program) (k : List Item) (R : Act → World → Prop) (a : Act) (w : World) : Prop :=
  ∀ (b : Frame) (cs : List Frame), ∃ a' w' todo, R a' w' ∧ Steps P (lone (b.at a k) cs w) (lone { b.at a' todo with mode := .returning } cs w')
section
variable {P : Program} {k : List Item} {R : Act → World → Prop} {a : Act} {w : World}
theorem Fin.step {k' : List Item} {a' : Act} {w' : World} (hs : ∀ (b : Frame) cs, step P (lone (b.at a k) cs w) = .next (lone (b.at a' k') cs w')) (h : Fin P k' R a' w') : Fin P k R a w := by
  intro b cs
  obtain ⟨a'', w'', todo, hR, hst⟩ := h b cs
  exact ⟨a'', w'', todo, hR, .head (hs b cs) hst⟩
theorem Fin.of_wp {c : Code} (h : c.wp P (nrm (Fin P k R)) a w) : Fin P (.code c :: k) R a w := by
  intro b cs
  obtain ⟨e, a', w', hq, harr⟩ := h b k cs
  cases e <;> simp only [nrm] at hq
  obtain ⟨a'', w'', todo, hR, hs⟩ := hq b cs
  exact ⟨a'', w'', todo, hR, Steps.trans harr hs⟩
theorem Fin.ret (h : R a w) : Fin P (.code .ret :: k) R a w := fun _ _ => ⟨a, w, _, h, .one step_ret⟩
theorem Fin.end_ (h : R a w) : Fin P [] R a w := fun _ _ => ⟨a, w, _, h, .one step_end⟩
theorem calls_of_fin {f : FuncId} {fn : Func} {c : Code} {args : Array Value} {R : Ending → World → Prop} (hf : P.funcs[f]? = some fn) (hb : fn.body = some c)
    (h : Fin P [.code c] (fun a w => a.defers = [] ∧ ∃ v, (results fn a.tmps).run P w = .ok v w ∧ R (.returned v) w) { tmps := args ++ Array.replicate (fn.ntmps - args.size) undef, defers := [] } w) :
    Calls P f args w R := by
  intro cs
  let b : Frame := { (default : Frame) with fn := f, kind := .normal }
  have henter : Frame.enter P f args .normal = b.at { tmps := args ++ Array.replicate (fn.ntmps - args.size) undef, defers := [] } [.code c] := by
    simp [Frame.enter, Frame.at, hf, hb, b]
  obtain ⟨a', w', todo, ⟨hd, v, hr, hR⟩, hs⟩ := h b cs
  rw [← henter] at hs
  exact ⟨.returned v, w', _, hR, hs, rfl, rfl, hd, rfl, fn, hf, hr⟩
end

/-! ### The frame's state. -/
structure Ctx where
  w0 : World
  ok : Nat → Prop
  mu : Nat → Prop
  n : Nat
structure Frm (C : Ctx) (w : World) : Prop where
  os : w.os = C.w0.os
  tape : w.tape = C.w0.tape
  output : w.output = C.w0.output
  size : C.w0.heap.size ≤ w.heap.size
  block : ∀ b, b < C.w0.heap.size → ¬ C.mu b → w.heap[b]? = C.w0.heap[b]?
  new : ∀ b, C.w0.heap.size ≤ b → C.ok b
open AV (Mem Keeps)
def ObRel (m : Mem) (ob : Ob) : Option Nat → Prop
  | none => ob.cs = []
  | some g => ∃ us : Array Value, m.w.heap[g]? = some (.cells us ob.t (0, 0)) ∧ ob.cs.length ≤ us.size ∧ ∀ (j : Nat) v, ob.cs[j]? = some v → ∃ u, us[j]? = some u ∧ u.oneCell' = true ∧ AV.rel m v u
structure Good (C : Ctx) (m : Mem) : Prop where
  ok0 : m.ok0 = C.ok
  inj : ∀ i j g, i < m.σ.length → j < m.σ.length → m.φ i = some g → m.φ j = some g → i = j
  ob : ∀ i o, m.σ[i]? = some o → ObRel m o (m.φ i)
  mine : ∀ i g, i < m.σ.length → m.φ i = some g → C.mu g ∨ C.w0.heap.size ≤ g
  frm : Frm C m.w
def Holds (m : Mem) (env : Env) (a : Act) : Prop := ∀ t, AV.rel m (look env t) (a.tmps.getD t undef)
def Sim (C : Ctx) (S : St) (a : Act) (w : World) : Prop :=
  a.defers = [] ∧ a.tmps.size = C.n ∧ ∃ φ, Good C ⟨w, φ, S.σ, C.ok⟩ ∧ Holds ⟨w, φ, S.σ, C.ok⟩ S.env a
theorem Good.lt {C : Ctx} {m : Mem} (h : Good C m) {i g : Nat} (hi : i < m.σ.length) (hg : m.φ i = some g) : g < m.w.heap.size := by
  have h1 := h.ob i m.σ[i] (List.getElem?_eq_getElem hi)
  rw [hg] at h1
  obtain ⟨us, h2, _⟩ := h1
  exact (Array.getElem?_eq_some_iff.1 h2).1
theorem look_put (env : Env) (t k : Nat) (v : AV) : look ((t, v) :: env) k = if t = k then v else look env k := rfl
theorem getD_put (a : Act) (t k : Nat) (u : Value) (ht : t < a.tmps.size) : (a.put (some t) u).tmps.getD k undef = if t = k then u else a.tmps.getD k undef := by
  simp only [Act.put, Array.getD_eq_getD_getElem?, Array.getElem?_setIfInBounds]
  split
  · subst_vars; simp [ht]
  · rfl
theorem Holds.put {m : Mem} {env : Env} {a : Act} {t : Nat} {v : AV} {u : Value} (h : Holds m env a) (ht : t < a.tmps.size) (hv : AV.rel m v u) : Holds m ((t, v) :: env) (a.put (some t) u) := by
  intro k
  rw [look_put, getD_put a t k u ht]
  split
  · exact hv
  · exact h k
theorem Holds.keeps {m m' : Mem} {env : Env} {a : Act} (h : Holds m env a) (hk : Keeps (fun _ => True) m m') : Holds m' env a :=
  fun t => AV.rel_keeps hk _ _ (AV.only_true _) (h t)
theorem ObRel.keeps {m m' : Mem} {o : Ob} {p : Option Nat} (h : ObRel m o p) (hk : Keeps (fun _ => True) m m') (hb : ∀ g, p = some g → m'.w.heap[g]? = m.w.heap[g]?) : ObRel m' o p := by
  cases p with
  | none => exact h
  | some g =>
    obtain ⟨us, h1, h2, h3⟩ := h
    refine ⟨us, (hb g rfl).trans h1, h2, fun j v hj => ?_⟩
    obtain ⟨u, e1, e2, e3⟩ := h3 j v hj
    exact ⟨u, e1, e2, AV.rel_keeps hk _ _ (AV.only_true _) e3⟩

/-! ### Running. -/
structure Runs (P : Program) (C : Ctx) (k : List Item) (R : Act → World → Prop) (S : St) : Prop where
  run : ∀ a w, Sim C S a w → Fin P k R a w
structure RunsL (P : Program) (C : Ctx) (ops : Array Oper) (l : List Oper) (k : List Item) (R : Act → World → Prop) (S : St) : Prop where
  run : ∀ a w, Sim C S a w → wpList P ops (nrm (Fin P k R)) l a w
section
variable {P : Program} {C : Ctx} {k : List Item} {R : Act → World → Prop} {S S' : St}
theorem Runs.weaken (h : ∀ a w, Sim C S a w → Sim C S' a w) (hr : Runs P C k R S') : Runs P C k R S := ⟨fun a w hs => hr.run a w (h a w hs)⟩
theorem Runs.seq {x y : Code} (h : Runs P C (.code x :: .code y :: k) R S) : Runs P C (.code (.seq x y) :: k) R S := ⟨fun a w hs => (h.run a w hs).step fun _ _ => step_seq⟩
theorem Runs.skip (h : Runs P C k R S) : Runs P C (.code .skip :: k) R S := ⟨fun a w hs => (h.run a w hs).step fun _ _ => step_skip⟩
theorem Runs.label {l : Nat} (h : Runs P C k R S) : Runs P C (.code (.label l) :: k) R S := ⟨fun a w hs => (h.run a w hs).step fun _ _ => step_label⟩
theorem Runs.inBlock {id : Nat} (h : Runs P C k R S) : Runs P C (.inBlock id :: k) R S := ⟨fun a w hs => (h.run a w hs).step fun _ _ => step_inBlock⟩
theorem Runs.block {id : Nat} {c : Code} (h : Runs P C (.code c :: .inBlock id :: k) R S) : Runs P C (.code (.block id c) :: k) R S := ⟨fun a w hs => (h.run a w hs).step fun _ _ => step_block⟩
theorem Runs.exit {id : Nat} {k' : List Item} (hk : exitTo id k = some k') (h : Runs P C k' R S) : Runs P C (.code (.exit id) :: k) R S := ⟨fun a w hs => (h.run a w hs).step fun _ _ => step_exit hk⟩
theorem Runs.ret (h : ∀ a w, Sim C S a w → R a w) : Runs P C (.code .ret :: k) R S := ⟨fun a w hs => Fin.ret (h a w hs)⟩
theorem Runs.end_ (h : ∀ a w, Sim C S a w → R a w) : Runs P C [] R S := ⟨fun a w hs => Fin.end_ (h a w hs)⟩
theorem Runs.scope {c : Code} (h : Runs P C (.code c :: .inScope c :: k) R S) : Runs P C (.code (.scope c) :: k) R S := ⟨fun a w hs => (h.run a w hs).step fun _ _ => step_scope⟩
theorem Runs.inScope {c : Code} (h : Runs P C k R S) : Runs P C (.inScope c :: k) R S := ⟨fun a w hs => (h.run a w hs).step fun _ _ => step_inScope⟩
/-- A loop: whatever holds at its head, with a number that goes down. -/
theorem Runs.loop {c : Code} (I : Nat → St → Prop)
    (h : ∀ n S, I n S → (∀ m, m < n → ∀ S', I m S' → Runs P C (.inLoop c :: k) R S') → Runs P C (.code c :: .inLoop c :: k) R S) (n : Nat) (h0 : I n S) : Runs P C (.code (.loop c) :: k) R S := by
  have key : ∀ n S, I n S → Runs P C (.code c :: .inLoop c :: k) R S := by
    intro n
    induction n using Nat.strongRecOn with
    | _ n ih => exact fun S hS => h n S hS fun m hm S' hS' => ⟨fun a w hs => ((ih m hm S' hS').run a w hs).step fun _ _ => step_inLoop⟩
  exact ⟨fun a w hs => ((key n S h0).run a w hs).step fun _ _ => step_loop⟩
theorem Runs.region {id : Nat} {l : List Oper} (h : RunsL P C l.toArray l k R S) : Runs P C (.code (.region id l.toArray false) :: k) R S :=
  ⟨fun a w hs => Fin.of_wp (wp_region_lit (h.run a w hs))⟩
theorem RunsL.nil {ops : Array Oper} (h : Runs P C k R S) : RunsL P C ops [] k R S := ⟨fun a w hs => wpList_nil (h.run a w hs)⟩
def constRV : Value → RV
  | .agg cs => .agg (cs.toList.map .c)
  | v => .c v
def ev (env : Env) : Operand → AV
  | .tmp t => look env t
  | .const v => match v with
    | .agg cs => .ro (.agg (cs.toList.map .c))
    | v => .ro (.c v)
  | .func f => .fn (.func f) [] []
  | .global _ => .junk
theorem rels_const {w : World} {ok : Nat → Prop} : ∀ l : List Value, RV.rels w ok (l.map .c) l
  | [] => by simp [RV.rels]
  | x :: xs => by simp only [List.map_cons, RV.rels]; exact ⟨x, xs, rfl, by simp [RV.rel], rels_const xs⟩
theorem const_rel {w : World} {ok : Nat → Prop} (v : Value) : RV.rel w ok (constRV v) v := by
  cases v <;> simp only [constRV, RV.rel]
  case agg cs => exact ⟨cs, rfl, rels_const _⟩
theorem ev_rel {m : Mem} {env : Env} {a : Act} (h : Holds m env a) (x : Operand) : AV.rel m (ev env x) (a.eval x) := by
  cases x with
  | tmp t => exact h t
  | const v =>
    have h := const_rel (w := m.w) (ok := m.ok) v
    cases v <;> simpa only [ev, AV.rel, Act.eval, constRV] using h
  | func f => simp only [ev, AV.rel, Act.eval]; exact ⟨#[], #[], rfl, by simp [AV.rels], by simp [AV.rels]⟩
  | global g => simp [ev, AV.rel]
theorem Runs.cond {c : Operand} {x y : Code} {b : Bool} (hc : ev S.env c = .ro (.c (.bool b))) (ht : b = true → Runs P C (.code x :: k) R S) (hf : b = false → Runs P C (.code y :: k) R S) :
    Runs P C (.code (.cond c x y) :: k) R S := by
  refine ⟨fun a w hs => ?_⟩
  obtain ⟨h1, h2, φ, h3, h4⟩ := hs
  have he := ev_rel h4 c
  rw [hc] at he
  simp only [AV.rel, RV.rel] at he
  have hs : Sim C S a w := ⟨h1, h2, φ, h3, h4⟩
  cases b with
  | true => exact ((ht rfl).run a w hs).step fun _ _ => step_cond he
  | false => exact ((hf rfl).run a w hs).step fun _ _ => step_cond he
variable {ops : Array Oper} {rest : List Oper} {o : Oper}
/-- An operation that yields a value; memory may have grown. -/
theorem RunsL.val {t : Nat} {v : AV} {σ' : List Ob} (hg : o.guard = none) (hd : o.dst = some t) (ht : t < C.n)
    (h : ∀ a w φ, Good C ⟨w, φ, S.σ, C.ok⟩ → Holds ⟨w, φ, S.σ, C.ok⟩ S.env a → ∃ u w' φ', (execOp a.eval o).run P w = .ok (.value u) w' ∧ Good C ⟨w', φ', σ', C.ok⟩ ∧ Keeps (fun _ => True) ⟨w, φ, S.σ, C.ok⟩ ⟨w', φ', σ', C.ok⟩ ∧ AV.rel ⟨w', φ', σ', C.ok⟩ v u)
    (hk : RunsL P C ops rest k R ⟨(t, v) :: S.env, σ'⟩) : RunsL P C ops (o :: rest) k R S := by
  refine ⟨fun a w ⟨h1, h2, φ, h3, h4⟩ => ?_⟩
  obtain ⟨u, w', φ', hr, hG, hK, hv⟩ := h a w φ h3 h4
  refine wpList_plain hg fun K hK' => ?_
  unfold Oper.wp
  rw [hr]
  simp only [Oper.upon]
  rw [hd]
  exact hK' _ _ (hk.run _ _ ⟨h1, by simp [Act.put, h2], φ', hG, (h4.keeps hK).put (by rw [h2]; exact ht) hv⟩)
/-- One that leaves memory alone. -/
theorem RunsL.pure {t : Nat} {v : AV} (hg : o.guard = none) (hd : o.dst = some t) (ht : t < C.n)
    (h : ∀ a m, Good C m → Holds m S.env a → m.σ = S.σ → ∃ u, (execOp a.eval o).run P m.w = .ok (.value u) m.w ∧ AV.rel m v u)
    (hk : RunsL P C ops rest k R ⟨(t, v) :: S.env, S.σ⟩) : RunsL P C ops (o :: rest) k R S :=
  RunsL.val hg hd ht (fun a w φ hG hH => by
    obtain ⟨u, hr, hv⟩ := h a ⟨w, φ, S.σ, C.ok⟩ hG hH rfl
    exact ⟨u, w, φ, hr, hG, ⟨⟨Nat.le_refl _, fun b _ hb => ⟨hb, rfl⟩⟩, fun i _ hi => ⟨hi, rfl⟩, fun i ob _ hi => ⟨ob.cs, hi, rfl⟩, fun i g us t _ _ _ hh => ⟨us, hh, rfl⟩⟩, hv⟩) hk
/-- One that yields nothing. -/
theorem RunsL.void {σ' : List Ob} (hg : o.guard = none) (hd : o.dst = none)
    (h : ∀ a w φ, Good C ⟨w, φ, S.σ, C.ok⟩ → Holds ⟨w, φ, S.σ, C.ok⟩ S.env a → ∃ w' φ', (execOp a.eval o).run P w = .ok .skip w' ∧ Good C ⟨w', φ', σ', C.ok⟩ ∧ Keeps (fun _ => True) ⟨w, φ, S.σ, C.ok⟩ ⟨w', φ', σ', C.ok⟩)
    (hk : RunsL P C ops rest k R ⟨S.env, σ'⟩) : RunsL P C ops (o :: rest) k R S := by
  refine ⟨fun a w ⟨h1, h2, φ, h3, h4⟩ => ?_⟩
  obtain ⟨w', φ', hr, hG, hK⟩ := h a w φ h3 h4
  refine wpList_plain hg fun K hK' => ?_
  unfold Oper.wp
  rw [hr]
  simp only [Oper.upon]
  rw [hd]
  exact hK' _ _ (hk.run _ _ ⟨h1, h2, φ', hG, h4.keeps hK⟩)
/-- A guard that says no. -/
theorem RunsL.unwanted {t : Nat} (hd : o.dst = some t) (ht : t < C.n) (hw : ∀ a m, Holds m S.env a → Region.wanted o (yielded ops a.tmps) = false)
    (hk : RunsL P C ops rest k R ⟨(t, .ro (.c undef)) :: S.env, S.σ⟩) : RunsL P C ops (o :: rest) k R S := by
  refine ⟨fun a w ⟨h1, h2, φ, h3, h4⟩ => ?_⟩
  refine wpList_step fun K hK' => ?_
  rw [hw a _ h4, if_neg (by simp), hd]
  exact hK' _ _ (hk.run _ _ ⟨h1, by simp [Act.put, h2], φ, h3, h4.put (by rw [h2]; exact ht) (by simp [AV.rel, RV.rel])⟩)
/-- A guard that says yes: as if there were none. -/
theorem RunsL.wanted {dst : Option Tmp} {op : Op} {ty : TypeId} {pos : String} {after : Array Edge} {g : Option (Nat × Bool)} (hw : ∀ a m, Holds m S.env a → Region.wanted ⟨dst, op, ty, pos, after, g⟩ (yielded ops a.tmps) = true)
    (hk : RunsL P C ops (⟨dst, op, ty, pos, after, none⟩ :: rest) k R S) : RunsL P C ops (⟨dst, op, ty, pos, after, g⟩ :: rest) k R S := by
  refine ⟨fun a w hs => ?_⟩
  have h := hk.run a w hs
  obtain ⟨h1, h2, φ, h3, h4⟩ := hs
  unfold wpList at h ⊢
  rw [if_pos (by simp [Region.wanted])] at h
  rw [if_pos (hw a _ h4)]
  exact h
end

/-! ### The steps of memory. -/
def upd (φ : Nat → Option Nat) (i : Nat) (x : Option Nat) : Nat → Option Nat := fun j => if j = i then x else φ j
theorem upd_ne {φ : Nat → Option Nat} {i j : Nat} {x : Option Nat} (h : j ≠ i) : upd φ i x j = φ j := by simp [upd, h]
theorem upd_eq {φ : Nat → Option Nat} {i : Nat} {x : Option Nat} : upd φ i x i = x := by simp [upd]
section
variable {C : Ctx} {w : World} {φ : Nat → Option Nat} {σ : List Ob}
theorem Frm.below {w w' : World} (h : Frm C w) (hb : Below w.heap.size w w') : Frm C w' :=
  ⟨hb.os.trans h.os, hb.tape.trans h.tape, hb.output.trans h.output, Nat.le_trans h.size hb.size, fun b h1 h2 => (hb.block b (Nat.lt_of_lt_of_le h1 h.size)).trans (h.block b h1 h2), h.new⟩
/-- Objects grow in number: new ones lie in new blocks of a world that has but grown. -/
theorem good_grow (hG : Good C ⟨w, φ, σ, C.ok⟩) {w' : World} {φ' : Nat → Option Nat} {new : List Ob} (hb : Below w.heap.size w w') (hφ : ∀ i, i < σ.length → φ' i = φ i)
    (hn : ∀ j, j < new.length → ∀ g, φ' (σ.length + j) = some g → w.heap.size ≤ g)
    (hinj : ∀ i j g, i < new.length → j < new.length → φ' (σ.length + i) = some g → φ' (σ.length + j) = some g → i = j)
    (hob : ∀ (j : Nat) o, new[j]? = some o → ObRel ⟨w', φ', σ ++ new, C.ok⟩ o (φ' (σ.length + j))) :
    Good C ⟨w', φ', σ ++ new, C.ok⟩ ∧ Keeps (fun _ => True) ⟨w, φ, σ, C.ok⟩ ⟨w', φ', σ ++ new, C.ok⟩ := by
  have hK : Keeps (fun _ => True) ⟨w, φ, σ, C.ok⟩ ⟨w', φ', σ ++ new, C.ok⟩ := by
    refine ⟨⟨hb.size, fun b hlt hok => ⟨⟨hok.1, fun i hi he => ?_⟩, hb.block b hlt⟩⟩, fun i _ hi => ⟨by simp only [List.length_append]; simp only at hi; omega, hφ i hi⟩, fun i ob _ hi => ⟨ob.cs, ?_, rfl⟩, fun i g us t _ hi hg hh => ⟨us, ?_, rfl⟩⟩
    · simp only [List.length_append] at hi
      rcases Nat.lt_or_ge i σ.length with h | h
      · exact hok.2 i h ((hφ i h).symm.trans he)
      · have := hn (i - σ.length) (by omega) b (by rwa [show σ.length + (i - σ.length) = i by omega])
        simp only at hlt; omega
    · have := (List.getElem?_eq_some_iff.1 hi).1
      show (σ ++ new)[i]? = _
      rw [List.getElem?_append_left this]; exact hi
    · exact (hb.block g (Array.getElem?_eq_some_iff.1 hh).1).trans hh
  refine ⟨⟨rfl, fun i j g hi hj e1 e2 => ?_, fun i o hi => ?_, fun i g hi hg => ?_, hG.frm.below hb⟩, hK⟩
  · simp only [List.length_append] at hi hj
    rcases Nat.lt_or_ge i σ.length with h1 | h1 <;> rcases Nat.lt_or_ge j σ.length with h2 | h2
    · exact hG.inj i j g h1 h2 ((hφ i h1).symm.trans e1) ((hφ j h2).symm.trans e2)
    · have a1 := hG.lt h1 ((hφ i h1).symm.trans e1)
      have a2 := hn (j - σ.length) (by omega) g (by rwa [show σ.length + (j - σ.length) = j by omega])
      simp only at a1; omega
    · have a1 := hG.lt h2 ((hφ j h2).symm.trans e2)
      have a2 := hn (i - σ.length) (by omega) g (by rwa [show σ.length + (i - σ.length) = i by omega])
      simp only at a1; omega
    · have := hinj (i - σ.length) (j - σ.length) g (by omega) (by omega) (by rwa [show σ.length + (i - σ.length) = i by omega]) (by rwa [show σ.length + (j - σ.length) = j by omega])
      omega
  · rcases Nat.lt_or_ge i σ.length with h1 | h1
    · have hi' : σ[i]? = some o := by simpa [List.getElem?_append_left h1] using hi
      have h := hG.ob i o hi'
      show ObRel _ o (φ' i)
      rw [hφ i h1]
      exact h.keeps hK fun g hg => hb.block g (hG.lt h1 hg)
    · have hi' : new[i - σ.length]? = some o := by simpa [List.getElem?_append_right h1] using hi
      have h := hob _ o hi'
      rwa [show σ.length + (i - σ.length) = i by omega] at h
  · simp only [List.length_append] at hi
    rcases Nat.lt_or_ge i σ.length with h1 | h1
    · exact hG.mine i g h1 ((hφ i h1).symm.trans hg)
    · have a1 := hn (i - σ.length) (by omega) g (by rwa [show σ.length + (i - σ.length) = i by omega])
      exact .inr (Nat.le_trans hG.frm.size a1)
/-- Nothing but the world has grown. -/
theorem good_below (hG : Good C ⟨w, φ, σ, C.ok⟩) {w' : World} (hb : Below w.heap.size w w') : Good C ⟨w', φ, σ, C.ok⟩ ∧ Keeps (fun _ => True) ⟨w, φ, σ, C.ok⟩ ⟨w', φ, σ, C.ok⟩ := by
  have h := good_grow (new := []) hG hb (fun _ _ => rfl) (fun j hj => by simp at hj) (fun i j g hi => by simp at hi) (fun j o hj => by simp at hj)
  simpa using h
/-- A new block. -/
theorem good_alloc (hG : Good C ⟨w, φ, σ, C.ok⟩) (us : Array Value) (t : TypeId) (sz : Nat) (cs : List AV) (hl : cs.length ≤ us.size)
    (hc : ∀ (j : Nat) v, cs[j]? = some v → ∃ u, us[j]? = some u ∧ u.oneCell' = true ∧ AV.rel ⟨w, φ, σ, C.ok⟩ v u) :
    Good C ⟨w.alloc (.cells us t), upd φ σ.length (some w.heap.size), σ ++ [⟨t, sz, cs⟩], C.ok⟩ ∧ Keeps (fun _ => True) ⟨w, φ, σ, C.ok⟩ ⟨w.alloc (.cells us t), upd φ σ.length (some w.heap.size), σ ++ [⟨t, sz, cs⟩], C.ok⟩ := by
  have hb := below_one w (.cells us t)
  have hφ : ∀ i, i < σ.length → upd φ σ.length (some w.heap.size) i = φ i := fun i hi => upd_ne (by omega)
  -- the values of the new block are read in the old memory: they keep
  have hK : Keeps (fun _ => True) ⟨w, φ, σ, C.ok⟩ ⟨w.alloc (.cells us t), upd φ σ.length (some w.heap.size), σ ++ [⟨t, sz, cs⟩], C.ok⟩ := by
    refine ⟨⟨hb.size, fun b hlt hok => ⟨⟨hok.1, fun i hi he => ?_⟩, hb.block b hlt⟩⟩, fun i _ hi => ⟨by simp only [List.length_append]; simp only at hi; omega, hφ i hi⟩, fun i ob _ hi => ⟨ob.cs, ?_, rfl⟩, fun i g us' t' _ hi hg hh => ⟨us', ?_, rfl⟩⟩
    · simp only [List.length_append, List.length_singleton] at hi
      rcases Nat.lt_or_ge i σ.length with h | h
      · exact hok.2 i h ((hφ i h).symm.trans he)
      · obtain rfl : i = σ.length := by omega
        simp only [upd_eq, Option.some.injEq] at he
        simp only at hlt; omega
    · have := (List.getElem?_eq_some_iff.1 hi).1
      show (σ ++ _)[i]? = _
      rw [List.getElem?_append_left this]; exact hi
    · exact (hb.block g (Array.getElem?_eq_some_iff.1 hh).1).trans hh
  refine good_grow (new := [⟨t, sz, cs⟩]) hG hb hφ (fun j hj g hg => ?_) (fun i j g hi hj _ _ => by simp at hi hj; omega) (fun j o hj => ?_)
  · simp at hj; subst hj
    simp only [Nat.add_zero, upd_eq, Option.some.injEq] at hg; omega
  · cases j with
    | succ j => simp at hj
    | zero =>
      simp at hj; subst hj
      simp only [Nat.add_zero, upd_eq]
      refine ⟨us, heap_alloc_new w _, hl, fun j v hj => ?_⟩
      obtain ⟨u, e1, e2, e3⟩ := hc j v hj
      exact ⟨u, e1, e2, AV.rel_keeps hK _ _ (AV.only_true _) e3⟩
/-- A store into an object. -/
theorem good_store (hG : Good C ⟨w, φ, σ, C.ok⟩) {i off g : Nat} {o : Ob} (hi : σ[i]? = some o) (hg : φ i = some g) (v : AV) (u : Value) (h1 : u.oneCell' = true) (hv : AV.rel ⟨w, φ, σ, C.ok⟩ v u) :
    Good C ⟨w.setCell ⟨g, off, none⟩ u, φ, σ.set i ⟨o.t, o.sz, o.cs.set off v⟩, C.ok⟩ ∧ Keeps (fun _ => True) ⟨w, φ, σ, C.ok⟩ ⟨w.setCell ⟨g, off, none⟩ u, φ, σ.set i ⟨o.t, o.sz, o.cs.set off v⟩, C.ok⟩ := by
  have hil : i < σ.length := (List.getElem?_eq_some_iff.1 hi).1
  obtain ⟨us, hh, hl, hc⟩ : ObRel ⟨w, φ, σ, C.ok⟩ o (some g) := by have := hG.ob i o hi; rwa [show (⟨w, φ, σ, C.ok⟩ : Mem).φ i = some g from hg] at this
  have hsame := heap_setCell_same w g off us o.t u hh
  have hoth : ∀ b, b ≠ g → (w.setCell ⟨g, off, none⟩ u).heap[b]? = w.heap[b]? := fun b hb => Below.heap_setCell w ⟨g, off, none⟩ u b hb
  have hsz : (w.setCell ⟨g, off, none⟩ u).heap.size = w.heap.size := by simp
  have hK : Keeps (fun _ => True) ⟨w, φ, σ, C.ok⟩ ⟨w.setCell ⟨g, off, none⟩ u, φ, σ.set i ⟨o.t, o.sz, o.cs.set off v⟩, C.ok⟩ := by
    refine ⟨⟨by simp [hsz], fun b hlt hok => ⟨⟨hok.1, fun j hj he => hok.2 j (by simpa using hj) he⟩, hoth b fun e => hok.2 i hil (e ▸ hg)⟩⟩, fun j _ hj => ⟨by simpa using hj, rfl⟩, fun j ob _ hj => ?_, fun j g' us' t' _ hj hg' hh' => ?_⟩
    · by_cases hji : j = i
      · subst hji
        have : ob = o := Option.some.inj (hj.symm.trans hi)
        subst this
        exact ⟨ob.cs.set off v, by simp [hil], by simp⟩
      · exact ⟨ob.cs, by simp only [List.getElem?_set_ne (Ne.symm hji)]; exact hj, rfl⟩
    · by_cases hgg : g' = g
      · subst hgg
        rw [show (⟨w, φ, σ, C.ok⟩ : Mem).w.heap[g']? = w.heap[g']? from rfl, hh] at hh'
        injection hh' with hh'; injection hh' with e1 e2
        subst e1; subst e2
        exact ⟨_, hsame, by simp⟩
      · exact ⟨us', (hoth g' hgg).trans hh', rfl⟩
  refine ⟨⟨rfl, fun a b x ha hb e1 e2 => hG.inj a b x (by simpa using ha) (by simpa using hb) e1 e2, fun j ob hj => ?_, fun j x hj hx => hG.mine j x (by simpa using hj) hx, ⟨hG.frm.os, hG.frm.tape, hG.frm.output, by rw [hsz]; exact hG.frm.size, fun b hb hm => ?_, hG.frm.new⟩⟩, hK⟩
  · by_cases hji : j = i
    · subst hji
      simp only [List.getElem?_set_self hil, Option.some.injEq] at hj
      subst hj
      show ObRel _ _ (φ j)
      rw [hg]
      refine ⟨_, hsame, by simpa using hl, fun x y hx => ?_⟩
      simp only [List.getElem?_set] at hx
      split at hx
      · rename_i he
        subst he
        split at hx
        · rename_i hlt
          simp only [Option.some.injEq] at hx; subst hx
          exact ⟨u, by rw [Array.getElem?_setIfInBounds_self_of_lt (by omega)], h1, AV.rel_keeps hK _ _ (AV.only_true _) hv⟩
        · cases hx
      · rename_i hne
        obtain ⟨u', e1, e2, e3⟩ := hc x y hx
        exact ⟨u', by rw [Array.getElem?_setIfInBounds_ne hne]; exact e1, e2, AV.rel_keeps hK _ _ (AV.only_true _) e3⟩
    · simp only [List.getElem?_set_ne (Ne.symm hji)] at hj
      have h := hG.ob j ob hj
      refine h.keeps hK fun g' hg' => hoth g' fun e => hji (hG.inj j i g (List.getElem?_eq_some_iff.1 hj).1 hil (e ▸ hg') hg)
  · rcases hG.mine i g hil hg with h | h
    · exact (hoth b fun e => hm (e ▸ h)).trans (hG.frm.block b hb hm)
    · exact (hoth b fun e => by subst e; omega).trans (hG.frm.block b hb hm)
end
end Go.Proofs.YtnbjncafoahclaaDoor
