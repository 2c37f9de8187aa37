/- Gathered texts. -/
import Derived.Test.YtnbjncafoahclaaDoorEmp
import Derived.Test.YtnbjncafoahclaaDoorBld
import Derived.Test.YtnbjncafoahclaaDoorEnd
import Derived.Laws.Bits128
import Derived.Test.YtnbjncafoahclaaDoorDiv
import Derived.Test.YtnbjncafoahclaaDoorFmt
import Derived.Test.YtnbjncafoahclaaDoorDrw
/- Functions that are handed objects of their caller's and write into them. Over any program. -/
namespace Go.Proofs.YtnbjncafoahclaaDoor
set_option linter.unusedSimpArgs false
set_option linter.unusedVariables false
open Go.RowKit
open AV (Mem Keeps)
/-! ### What a cell speaks of is forgotten. -/
theorem good_junk {C : Ctx} {w : World} {φ : Nat → Option Nat} {σ : List Ob} (hG : Good C ⟨w, φ, σ, C.ok⟩) {j p : Nat} {o : Ob} (ho : σ[j]? = some o) :
    Good C ⟨w, φ, σ.set j ⟨o.t, o.sz, o.cs.set p .junk⟩, C.ok⟩ ∧ Keeps (fun _ => True) ⟨w, φ, σ, C.ok⟩ ⟨w, φ, σ.set j ⟨o.t, o.sz, o.cs.set p .junk⟩, C.ok⟩ := by
  have hj := (List.getElem?_eq_some_iff.1 ho).1
  have hK : Keeps (fun _ => True) ⟨w, φ, σ, C.ok⟩ ⟨w, φ, σ.set j ⟨o.t, o.sz, o.cs.set p .junk⟩, C.ok⟩ := by
    refine ⟨⟨Nat.le_refl _, fun b _ hb => ⟨⟨hb.1, fun i hi => hb.2 i (by simpa using hi)⟩, rfl⟩⟩, fun i _ hi => ⟨by simpa using hi, rfl⟩, fun i ob _ hi => ?_, fun i g us t _ _ _ hh => ⟨us, hh, rfl⟩⟩
    by_cases e : i = j
    · subst e
      have : ob = o := Option.some.inj (hi.symm.trans ho)
      subst this
      exact ⟨ob.cs.set p .junk, by simp [hj], by simp⟩
    · exact ⟨ob.cs, by simp only [List.getElem?_set_ne (Ne.symm e)]; exact hi, rfl⟩
  refine ⟨⟨rfl, fun a b g ha hb => hG.inj a b g (by simpa using ha) (by simpa using hb), fun i ob hi => ?_, fun i g hi => hG.mine i g (by simpa using hi), hG.frm⟩, hK⟩
  by_cases e : i = j
  · subst e
    simp only [List.getElem?_set_self hj, Option.some.injEq] at hi
    subst hi
    have h := hG.ob i o ho
    show ObRel _ _ (φ i)
    simp only at h
    cases hφ : φ i with
    | none =>
      rw [hφ] at h
      simp only [ObRel] at h ⊢
      simp [h]
    | some g =>
      rw [hφ] at h
      obtain ⟨us, h1, h2, h3⟩ := h
      refine ⟨us, h1, by simpa using h2, fun k v hk => ?_⟩
      simp only [List.getElem?_set] at hk
      split at hk
      · rename_i hpk
        subst hpk
        split at hk
        · rename_i hlt
          injection hk with hk; subst hk
          obtain ⟨u, e1, e2, _⟩ := h3 p _ (List.getElem?_eq_getElem hlt)
          exact ⟨u, e1, e2, by simp [AV.rel]⟩
        · cases hk
      · obtain ⟨u, e1, e2, e3⟩ := h3 k v hk
        exact ⟨u, e1, e2, AV.rel_keeps hK _ _ (AV.only_true _) e3⟩
  · rw [List.getElem?_set_ne (Ne.symm e)] at hi
    exact (hG.ob i ob hi).keeps hK fun _ _ => rfl
section
variable {P : Program} {C : Ctx} {ops : Array Oper} {rest : List Oper} {k : List Item} {R : Act → World → Prop} {env : Env} {σ : List Ob} {t : Nat} {ty : TypeId} {pos : String} {after : Array Edge}
theorem RunsL.junk {l : List Oper} (j p : Nat) {o : Ob} (ho : σ[j]? = some o) (hk : RunsL P C ops l k R ⟨env, σ.set j ⟨o.t, o.sz, o.cs.set p .junk⟩⟩) : RunsL P C ops l k R ⟨env, σ⟩ :=
  ⟨fun a w ⟨h1, h2, φ, h3, h4⟩ => by
    obtain ⟨g1, g2⟩ := good_junk (p := p) h3 ho
    exact hk.run a w ⟨h1, h2, φ, g1, h4.keeps g2⟩⟩
/-- A row of the frame's own is cut at its end. -/
theorem op_cut {tt e : TypeId} {z : Value} {sz bytes i n : Nat} {o : Ob} {x y : Operand} {kd : IntKind} {q : Int} [hs : SL P tt e z sz bytes] (hx : ev env x = .own i) (hy : ev env y = .ro (.c (.int kd q))) (ho : σ[i]? = some o) (hsz : o.sz = sz) (hl : o.cs.length = n * sz) (h0 : 0 ≤ q) (hq : q ≤ n) (hn : 0 < n)
    (hfree : FreeI i (σ.set i ⟨o.t, o.sz, []⟩)) (hro : ∀ (j : Nat) v, o.cs[j]? = some v → v.only fun k => k ≠ i) (ht : t < C.n)
    (hk : RunsL P C ops rest k R ⟨(t, .own i) :: killEnv i env, σ.set i ⟨o.t, o.sz, o.cs.take (q.toNat * o.sz)⟩⟩) :
    RunsL P C ops (⟨some t, .slice tt x none (some y) none, ty, pos, after, none⟩ :: rest) k R ⟨env, σ⟩ := by
  refine ⟨fun a w ⟨h1, h2, φ, hG, hH⟩ => ?_⟩
  have hil := (List.getElem?_eq_some_iff.1 ho).1
  have h := ev_rel hH x
  rw [hx] at h
  simp only [AV.rel] at h
  obtain ⟨ob, n', r1, r2, r3, r4⟩ := h
  rw [ho] at r1; injection r1 with r1; subst r1
  rw [hsz] at r2 r3
  have hn' : n' = n := Nat.eq_of_mul_eq_mul_right r3 (r2.symm.trans hl)
  subst hn'
  rcases r4 with ⟨_, e0, _⟩ | ⟨g, cap, us, hφ, eu, hh, c1, c2, c3⟩
  · omega
  have hle : q.toNat * sz ≤ n' * sz := Nat.mul_le_mul_right _ (by omega)
  have hK : Keeps (fun k => k ≠ i) ⟨w, φ, σ, C.ok⟩ ⟨w, φ, σ.set i ⟨o.t, o.sz, o.cs.take (q.toNat * o.sz)⟩, C.ok⟩ :=
    ⟨⟨Nat.le_refl _, fun b _ hb => ⟨⟨hb.1, fun j hj => hb.2 j (by simpa using hj)⟩, rfl⟩⟩, fun j _ hj => ⟨by simpa using hj, rfl⟩, fun j ob hji hj => ⟨ob.cs, by simp only [List.getElem?_set_ne (Ne.symm hji)]; exact hj, rfl⟩, fun j g us t _ _ _ hh => ⟨us, hh, rfl⟩⟩
  have hG' : Good C ⟨w, φ, σ.set i ⟨o.t, o.sz, o.cs.take (q.toNat * o.sz)⟩, C.ok⟩ := by
    refine ⟨rfl, fun a b g ha hb => hG.inj a b g (by simpa using ha) (by simpa using hb), fun j ob hj => ?_, fun j g hj => hG.mine j g (by simpa using hj), hG.frm⟩
    by_cases e : j = i
    · subst e
      simp only [List.getElem?_set_self hil, Option.some.injEq] at hj
      subst hj
      have hob := hG.ob j o ho
      show ObRel _ _ (φ j)
      rw [hφ]
      rw [show (⟨w, φ, σ, C.ok⟩ : Mem).φ j = some g from hφ] at hob
      obtain ⟨us', q1, q2, q3⟩ := hob
      refine ⟨us', q1, by rw [List.length_take]; omega, fun m v hm => ?_⟩
      rw [List.getElem?_take] at hm
      split at hm
      · obtain ⟨u, e1, e2, e3⟩ := q3 m v hm
        exact ⟨u, e1, e2, AV.rel_keeps hK _ _ (hro m v hm) e3⟩
      · cases hm
    · rw [List.getElem?_set_ne (Ne.symm e)] at hj
      have h := hG.ob j ob hj
      have hfj := hfree.at_ j ob (by rw [List.getElem?_set_ne (Ne.symm e)]; exact hj)
      show ObRel _ _ (φ j)
      simp only at h
      cases hφj : φ j with
      | none => rw [hφj] at h; exact h
      | some g' =>
        rw [hφj] at h
        obtain ⟨us', q1, q2, q3⟩ := h
        refine ⟨us', q1, q2, fun m v hm => ?_⟩
        obtain ⟨u, e1, e2, e3⟩ := q3 m v hm
        exact ⟨u, e1, e2, AV.rel_keeps hK _ _ (onlys_mem hfj m v hm) e3⟩
  refine wpList_plain rfl fun K hK' => ?_
  have hyv := ev_c (m := ⟨w, φ, σ, C.ok⟩) (ev_rel hH y) hy
  have hrun : (execOp a.eval (⟨some t, .slice tt x none (some y) none, ty, pos, after, none⟩ : Oper)).run P w = .ok (.value (sliced (some ⟨g, 0, none⟩) 0 q.toNat cap sz)) w := by
    simp only [execOp, Option.map_some, Option.map_none, hyv, eu, Sem.run_bind, run_sliceAt_slice w tt _ _ _ _ SL.under, run_slice_h w tt (some ⟨g, 0, none⟩) n' cap SL.under kd q h0 (by omega), SL.size, Result.andThen_ok]
    rfl
  unfold Oper.wp
  rw [hrun]
  simp only [Oper.upon]
  refine hK' _ _ (hk.run _ _ ⟨h1, by simp [Act.put, h2], φ, hG', Holds.put (fun s => ?_) (by rw [h2]; exact ht) ?_⟩)
  · rw [look_killEnv]
    exact AV.rel_keeps hK _ _ (AV.kill_only i _) (AV.kill_rel i _ _ (hH s))
  · have e : sliced (some ⟨g, 0, none⟩) 0 q.toNat cap sz = .slice (some ⟨g, 0, none⟩) q.toNat cap := by
      unfold sliced
      by_cases h : 0 < cap - 0
      · simp [Addr.add_lit, h]
      · omega
    rw [e]
    simp only [AV.rel]
    refine ⟨_, q.toNat, List.getElem?_set_self hil, by simp only [List.length_take, hsz]; omega, by rw [hsz]; exact r3, .inr ⟨g, cap, us, hφ, rfl, hh, by omega, c2, by rw [hsz]; rw [hsz] at c3; exact c3⟩⟩
end
/-! ### Contracts. -/
def startEnvA : Nat → List AV → Env
  | _, [] => []
  | t, r :: rs => (t, r) :: startEnvA (t + 1) rs
theorem startA_look : ∀ (rs : List AV) (t k : Nat), look (startEnvA t rs) k = if t ≤ k then (rs[k - t]?).getD .junk else .junk
  | [], t, k => by simp [startEnvA, look]
  | r :: rs, t, k => by
    rw [startEnvA, look_put, startA_look rs (t + 1) k]
    by_cases h : t = k
    · subst h; simp
    · rw [if_neg h]
      by_cases h2 : t + 1 ≤ k
      · have e : k - t = (k - (t + 1)) + 1 := by omega
        rw [if_pos h2, if_pos (by omega : t ≤ k), e, List.getElem?_cons_succ]
      · rw [if_neg h2]
        split
        · omega
        · rfl
/-- Handed the objects σ, of which it moves none of st, and these arguments, the function leaves them as σ' and returns v. -/
def AM (P : Program) (f : FuncId) (σ : List Ob) (st : List Nat) (args : List AV) (σ' : List Ob) (v : AV) : Prop :=
  ∀ (w : World) (φ : Nat → Option Nat) (ok : Nat → Prop) (us : Array Value), Good ⟨w, ok, mine φ σ.length, 0⟩ ⟨w, φ, σ, ok⟩ → AV.rels ⟨w, φ, σ, ok⟩ args us.toList →
    Calls P f us w fun e w' => ∃ u φ', e = .returned u ∧ Good ⟨w, ok, mine φ σ.length, 0⟩ ⟨w', φ', σ', ok⟩ ∧ AV.rel ⟨w', φ', σ', ok⟩ v u ∧ ∀ i ∈ st, φ' i = φ i
/-- A pointer at an object that stays where it is. -/
def pinA (gs : Nat → Nat) : AV → AV
  | .obj i off => .pin i off (gs i)
  | v => v
def EndsA (P : Program) (C : Ctx) (fn : Func) (gs : Nat → Nat) (st : List Nat) (σ' : List Ob) (v : AV) (a : Act) (w : World) : Prop :=
  a.defers = [] ∧ ∃ u, (results fn a.tmps).run P w = .ok u w ∧ ∃ φ', Good C ⟨w, φ', σ', C.ok⟩ ∧ AV.rel ⟨w, φ', σ', C.ok⟩ v u ∧ ∀ i ∈ st, φ' i = some (gs i)
theorem good_n {w : World} {ok mu : Nat → Prop} {n n' : Nat} {m : Mem} (h : Good ⟨w, ok, mu, n⟩ m) : Good ⟨w, ok, mu, n'⟩ m :=
  ⟨h.ok0, h.inj, h.ob, h.mine, ⟨h.frm.os, h.frm.tape, h.frm.output, h.frm.size, h.frm.block, h.frm.new⟩⟩
theorem am_enter {P : Program} {f : FuncId} {fn : Func} {c : Code} {σ σ' : List Ob} {st : List Nat} {args : List AV} {v : AV} (hf : P.funcs[f]? = some fn) (hb : fn.body = some c) (n : Nat) (hn : fn.ntmps = n) (hl : args.length ≤ n)
    (hst : ∀ i ∈ st, ∃ off, AV.obj i off ∈ args)
    (h : ∀ (C : Ctx) (gs : Nat → Nat), C.n = n → Runs P C [.code c] (EndsA P C fn gs st σ' v) ⟨startEnvA 0 (args.map (pinA gs)), σ⟩) : AM P f σ st args σ' v := by
  intro w φ ok us hG hu
  have hlen := AV.rels_len args _ hu
  refine calls_of_fin hf hb ?_
  let gs : Nat → Nat := fun i => (φ i).getD 0
  have hs : Sim ⟨w, ok, mine φ σ.length, n⟩ ⟨startEnvA 0 (args.map (pinA gs)), σ⟩ { tmps := us ++ Array.replicate (fn.ntmps - us.size) undef, defers := [] } w := by
    refine ⟨rfl, by simp at hlen ⊢; omega, φ, good_n hG, fun t => ?_⟩
    rw [startA_look]
    simp only [Nat.zero_le, if_true, Nat.sub_zero, List.getElem?_map]
    cases hr : args[t]? with
    | none => simp [AV.rel]
    | some r =>
      obtain ⟨u, e1, e2⟩ := AV.rels_at args _ hu t r hr
      have ht : t < us.size := by have := (List.getElem?_eq_some_iff.1 e1).1; simpa using this
      have : (us ++ Array.replicate (fn.ntmps - us.size) undef).getD t undef = u := by
        rw [Array.getD_eq_getD_getElem?, Array.getElem?_append_left ht]
        have : us[t]? = some u := by simpa using e1
        simp [this]
      simp only [Option.map_some, Option.getD_some]
      rw [this]
      cases r <;> simp only [pinA] <;> try exact e2
      case obj i off =>
        simp only [AV.rel] at e2 ⊢
        obtain ⟨k1, g, k2, k3⟩ := e2
        have : gs i = g := by simp only [gs, k2, Option.getD_some]
        rw [this]
        exact ⟨k1, k2, k3⟩
  have hr := (h ⟨w, ok, mine φ σ.length, n⟩ gs rfl).run _ w hs
  intro b cs
  obtain ⟨a', w', todo, ⟨hd, u, hv, φ', h1, h2, h3⟩, hstep⟩ := hr b cs
  refine ⟨a', w', todo, ⟨hd, u, hv, u, φ', rfl, good_n h1, h2, fun i hi => ?_⟩, hstep⟩
  obtain ⟨off, ho⟩ := hst i hi
  obtain ⟨j, hj⟩ := List.mem_iff_getElem?.1 ho
  obtain ⟨u', _, e2⟩ := AV.rels_at args _ hu j _ hj
  simp only [AV.rel] at e2
  obtain ⟨_, g, k2, _⟩ := e2
  rw [h3 i hi]
  simp only [gs, k2, Option.getD_some]
section
variable {P : Program} {C : Ctx} {fn : Func} {S : St} {gs : Nat → Nat} {st : List Nat} {σ' : List Ob} {v : AV}
theorem pins {φ : Nat → Option Nat} {w : World} {a : Act} (hH : Holds ⟨w, φ, S.σ, C.ok⟩ S.env a) (h : ∀ i ∈ st, ∃ t off, look S.env t = .pin i off (gs i)) : ∀ i ∈ st, φ i = some (gs i) := fun i hi => by
  obtain ⟨t, off, ht⟩ := h i hi
  have := hH t
  rw [ht] at this
  simp only [AV.rel] at this
  exact this.2.1
/-- It ends with nothing. -/
theorem endsA0 (hst : ∀ i ∈ st, ∃ t off, look S.env t = .pin i off (gs i)) (hr : fn.results = #[]) (hσ : S.σ = σ') : ∀ a w, Sim C S a w → EndsA P C fn gs st σ' (.tup []) a w := by
  rintro a w ⟨h1, h2, φ, hG, hH⟩
  subst hσ
  exact ⟨h1, .tuple #[], by rw [results_eq, hr]; simp, φ, hG, by simp [AV.rel, AV.rels], pins hH hst⟩
theorem endsA1 {x : ResultVar} (hst : ∀ i ∈ st, ∃ t off, look S.env t = .pin i off (gs i)) (hr : fn.results = #[x]) (hx : ResV P S x v) (hσ : S.σ = σ') : ∀ a w, Sim C S a w → EndsA P C fn gs st σ' v a w := by
  rintro a w ⟨h1, h2, φ, hG, hH⟩
  subst hσ
  obtain ⟨u, k1, k2⟩ := resV_run (P := P) hG hH x v hx
  exact ⟨h1, u, by rw [results_eq, hr]; simp [k1], φ, hG, k2, pins hH hst⟩
theorem endsA2 {x y : ResultVar} {vx vy : AV} (hst : ∀ i ∈ st, ∃ t off, look S.env t = .pin i off (gs i)) (hr : fn.results = #[x, y]) (hx : ResV P S x vx) (hy : ResV P S y vy) (hσ : S.σ = σ') : ∀ a w, Sim C S a w → EndsA P C fn gs st σ' (.tup [vx, vy]) a w := by
  rintro a w ⟨h1, h2, φ, hG, hH⟩
  subst hσ
  obtain ⟨u, k1, k2⟩ := resV_run (P := P) hG hH x vx hx
  obtain ⟨u', k1', k2'⟩ := resV_run (P := P) hG hH y vy hy
  exact ⟨h1, .tuple #[u, u'], by rw [results_eq, hr]; simp [k1, k1'], φ, hG, by simp only [AV.rel]; exact ⟨_, rfl, by simp only [AV.rels]; exact ⟨u, [u'], rfl, k2, u', [], rfl, k2', rfl⟩⟩, pins hH hst⟩
end
/-! ### The call. -/
mutual
/-- The objects get other numbers. -/
def AV.ren (r : Nat → Nat) : AV → AV
  | .ro v => .ro v
  | .junk => .junk
  | .obj i off => .obj (r i) off
  | .pin i off g => .pin (r i) off g
  | .own i => .own (r i)
  | .agg cs => .agg (AV.rens r cs)
  | .tup vs => .tup (AV.rens r vs)
  | .fn f a b => .fn f (AV.rens r a) (AV.rens r b)
def AV.rens (r : Nat → Nat) : List AV → List AV
  | [] => []
  | x :: xs => AV.ren r x :: AV.rens r xs
end
def Ob.ren (r : Nat → Nat) (o : Ob) : Ob := ⟨o.t, o.sz, AV.rens r o.cs⟩
theorem rens_len (r : Nat → Nat) : ∀ l : List AV, (AV.rens r l).length = l.length
  | [] => rfl
  | x :: xs => by simp [AV.rens, rens_len r xs]
theorem rens_at (r : Nat → Nat) : ∀ (l : List AV) (j : Nat), (AV.rens r l)[j]? = (l[j]?).map (AV.ren r)
  | [], j => by simp [AV.rens]
  | x :: xs, 0 => by simp [AV.rens]
  | x :: xs, j + 1 => by simp [AV.rens, rens_at r xs j]
mutual
/-- Forgets what speaks of lent objects, but for pointers at those that stay. -/
def AV.rid (lent st : Nat → Bool) : AV → AV
  | .ro v => .ro v
  | .junk => .junk
  | .obj i off => match lent i, st i with
    | true, false => .junk
    | _, _ => .obj i off
  | .pin i off g => match lent i, st i with
    | true, false => .junk
    | _, _ => .pin i off g
  | .own i => match lent i with
    | true => .junk
    | false => .own i
  | .agg cs => .agg (AV.rids lent st cs)
  | .tup vs => .tup (AV.rids lent st vs)
  | .fn f a b => .fn f (AV.rids lent st a) (AV.rids lent st b)
def AV.rids (lent st : Nat → Bool) : List AV → List AV
  | [] => []
  | x :: xs => AV.rid lent st x :: AV.rids lent st xs
end
def ridEnv (lent st : Nat → Bool) : Env → Env
  | [] => []
  | (t, v) :: e => (t, v.rid lent st) :: ridEnv lent st e
theorem look_ridEnv (lent st : Nat → Bool) : ∀ (e : Env) (t : Nat), look (ridEnv lent st e) t = (look e t).rid lent st
  | [], t => by simp [ridEnv, look, AV.rid]
  | (s, v) :: e, t => by
    rw [ridEnv, look_put, look_put]
    split
    · rfl
    · exact look_ridEnv lent st e t
section
variable {m m' : Mem} {r : Nat → Nat} {lent st : Nat → Bool}
mutual
/-- The same values in a memory whose objects have other numbers. -/
theorem rel_unren {n : Nat} (hw : m'.w = m.w) (hok : ∀ b, m.ok b → m'.ok b) (hφ : ∀ i, i < n → m'.φ i = m.φ (r i)) (hn : m'.σ.length = n) (hσ : ∀ (i : Nat) o, i < n → m.σ[r i]? = some o → ∃ cs, m'.σ[i]? = some ⟨o.t, o.sz, cs⟩ ∧ cs.length = o.cs.length) :
    ∀ (v : AV) (u : Value), v.only (fun i => i < n) → AV.rel m (v.ren r) u → AV.rel m' v u
  | .ro v, u, _, h => by
    simp only [AV.ren, AV.rel] at h ⊢
    exact RV.rel_mono ⟨by rw [hw]; exact Nat.le_refl _, fun b _ hb => ⟨hok b hb, by rw [hw]⟩⟩ v u h
  | .junk, u, _, _ => by simp [AV.rel]
  | .obj i off, u, ho, h => by
    simp only [AV.ren, AV.rel, AV.only] at h ho ⊢
    obtain ⟨_, g, h2, h3⟩ := h
    exact ⟨by omega, g, (hφ i ho).trans h2, h3⟩
  | .pin i off g, u, ho, h => by
    simp only [AV.ren, AV.rel, AV.only] at h ho ⊢
    obtain ⟨_, h2, h3⟩ := h
    exact ⟨by omega, (hφ i ho).trans h2, h3⟩
  | .own i, u, ho, h => by
    simp only [AV.ren, AV.rel, AV.only] at h ho ⊢
    obtain ⟨ob, k, h1, h2, h3, h4⟩ := h
    obtain ⟨cs, e1, e2⟩ := hσ i ob ho h1
    refine ⟨_, k, e1, by simp only; rw [e2]; exact h2, h3, ?_⟩
    rcases h4 with ⟨q1, q2, q3⟩ | ⟨g, cap, us, q1, q2, q3, q4⟩
    · exact .inl ⟨q1, q2, (hφ i ho).trans q3⟩
    · exact .inr ⟨g, cap, us, (hφ i ho).trans q1, q2, by rw [hw]; exact q3, q4⟩
  | .agg cs, u, ho, h => by
    simp only [AV.ren, AV.rel, AV.only] at h ho ⊢
    obtain ⟨us, e, h1⟩ := h
    exact ⟨us, e, rels_unren hw hok hφ hn hσ cs _ ho h1⟩
  | .tup cs, u, ho, h => by
    simp only [AV.ren, AV.rel, AV.only] at h ho ⊢
    obtain ⟨us, e, h1⟩ := h
    exact ⟨us, e, rels_unren hw hok hφ hn hσ cs _ ho h1⟩
  | .fn f a b, u, ho, h => by
    simp only [AV.ren, AV.rel, AV.only] at h ho ⊢
    obtain ⟨us, vs, e, h1, h2⟩ := h
    exact ⟨us, vs, e, rels_unren hw hok hφ hn hσ a _ ho.1 h1, rels_unren hw hok hφ hn hσ b _ ho.2 h2⟩
theorem rels_unren {n : Nat} (hw : m'.w = m.w) (hok : ∀ b, m.ok b → m'.ok b) (hφ : ∀ i, i < n → m'.φ i = m.φ (r i)) (hn : m'.σ.length = n) (hσ : ∀ (i : Nat) o, i < n → m.σ[r i]? = some o → ∃ cs, m'.σ[i]? = some ⟨o.t, o.sz, cs⟩ ∧ cs.length = o.cs.length) :
    ∀ (vs : List AV) (us : List Value), AV.onlys (fun i => i < n) vs → AV.rels m (AV.rens r vs) us → AV.rels m' vs us
  | [], us, _, h => by simpa [AV.rens, AV.rels] using h
  | x :: xs, us, ho, h => by
    simp only [AV.rens, AV.rels, AV.onlys] at h ho ⊢
    obtain ⟨u, us', e, h1, h2⟩ := h
    exact ⟨u, us', e, rel_unren hw hok hφ hn hσ x u ho.1 h1, rels_unren hw hok hφ hn hσ xs us' ho.2 h2⟩
end
mutual
theorem rel_ren {n : Nat} (hw : m'.w = m.w) (hok : ∀ b, m.ok b → m'.ok b) (hφ : ∀ i, i < n → m'.φ (r i) = m.φ i) (hr : ∀ i, i < n → r i < m'.σ.length) (hn : m.σ.length = n) (hσ : ∀ (i : Nat) o, m.σ[i]? = some o → ∃ cs, m'.σ[r i]? = some ⟨o.t, o.sz, cs⟩ ∧ cs.length = o.cs.length) :
    ∀ (v : AV) (u : Value), AV.rel m v u → AV.rel m' (v.ren r) u
  | .ro v, u, h => by
    simp only [AV.ren, AV.rel] at h ⊢
    exact RV.rel_mono ⟨by rw [hw]; exact Nat.le_refl _, fun b _ hb => ⟨hok b hb, by rw [hw]⟩⟩ v u h
  | .junk, u, _ => by simp [AV.rel, AV.ren]
  | .obj i off, u, h => by
    simp only [AV.ren, AV.rel] at h ⊢
    obtain ⟨h1, g, h2, h3⟩ := h
    exact ⟨hr i (by omega), g, (hφ i (by omega)).trans h2, h3⟩
  | .pin i off g, u, h => by
    simp only [AV.ren, AV.rel] at h ⊢
    obtain ⟨h1, h2, h3⟩ := h
    exact ⟨hr i (by omega), (hφ i (by omega)).trans h2, h3⟩
  | .own i, u, h => by
    simp only [AV.ren, AV.rel] at h ⊢
    obtain ⟨ob, k, h1, h2, h3, h4⟩ := h
    obtain ⟨cs, e1, e2⟩ := hσ i ob h1
    have hi : i < n := by have := (List.getElem?_eq_some_iff.1 h1).1; omega
    refine ⟨_, k, e1, by simp only; rw [e2]; exact h2, h3, ?_⟩
    rcases h4 with ⟨q1, q2, q3⟩ | ⟨g, cap, us, q1, q2, q3, q4⟩
    · exact .inl ⟨q1, q2, (hφ i hi).trans q3⟩
    · exact .inr ⟨g, cap, us, (hφ i hi).trans q1, q2, by rw [hw]; exact q3, q4⟩
  | .agg cs, u, h => by
    simp only [AV.ren, AV.rel] at h ⊢
    obtain ⟨us, e, h1⟩ := h
    exact ⟨us, e, rels_ren hw hok hφ hr hn hσ cs _ h1⟩
  | .tup cs, u, h => by
    simp only [AV.ren, AV.rel] at h ⊢
    obtain ⟨us, e, h1⟩ := h
    exact ⟨us, e, rels_ren hw hok hφ hr hn hσ cs _ h1⟩
  | .fn f a b, u, h => by
    simp only [AV.ren, AV.rel] at h ⊢
    obtain ⟨us, vs, e, h1, h2⟩ := h
    exact ⟨us, vs, e, rels_ren hw hok hφ hr hn hσ a _ h1, rels_ren hw hok hφ hr hn hσ b _ h2⟩
theorem rels_ren {n : Nat} (hw : m'.w = m.w) (hok : ∀ b, m.ok b → m'.ok b) (hφ : ∀ i, i < n → m'.φ (r i) = m.φ i) (hr : ∀ i, i < n → r i < m'.σ.length) (hn : m.σ.length = n) (hσ : ∀ (i : Nat) o, m.σ[i]? = some o → ∃ cs, m'.σ[r i]? = some ⟨o.t, o.sz, cs⟩ ∧ cs.length = o.cs.length) :
    ∀ (vs : List AV) (us : List Value), AV.rels m vs us → AV.rels m' (AV.rens r vs) us
  | [], us, h => by simpa [AV.rens, AV.rels] using h
  | x :: xs, us, h => by
    simp only [AV.rens, AV.rels] at h ⊢
    obtain ⟨u, us', e, h1, h2⟩ := h
    exact ⟨u, us', e, rel_ren hw hok hφ hr hn hσ x u h1, rels_ren hw hok hφ hr hn hσ xs us' h2⟩
end
mutual
theorem rel_rid (hro : RV.Kept m.w m.ok m'.w m'.ok) (hlen : m'.σ.length = m.σ.length) (hφ : ∀ i, i < m.σ.length → lent i = false ∨ st i = true → m'.φ i = m.φ i) (hσ : ∀ i, lent i = false → m'.σ[i]? = m.σ[i]?) (hb : ∀ i g, i < m.σ.length → lent i = false → m.φ i = some g → m'.w.heap[g]? = m.w.heap[g]?) :
    ∀ (v : AV) (u : Value), AV.rel m v u → AV.rel m' (v.rid lent st) u
  | .ro v, u, h => by
    simp only [AV.rid, AV.rel] at h ⊢
    exact RV.rel_mono hro v u h
  | .junk, u, _ => by simp [AV.rel, AV.rid]
  | .obj i off, u, h => by
    have key : lent i = false ∨ st i = true → AV.rel m' (.obj i off) u := fun hk => by
      simp only [AV.rel] at h ⊢
      obtain ⟨h1, g, h2, h3⟩ := h
      exact ⟨by omega, g, (hφ i h1 hk).trans h2, h3⟩
    unfold AV.rid
    cases h1 : lent i <;> cases h2 : st i <;> first | exact key (.inl h1) | exact key (.inr h2) | simp [AV.rel]
  | .pin i off g, u, h => by
    have key : lent i = false ∨ st i = true → AV.rel m' (.pin i off g) u := fun hk => by
      simp only [AV.rel] at h ⊢
      obtain ⟨h1, h2, h3⟩ := h
      exact ⟨by omega, (hφ i h1 hk).trans h2, h3⟩
    unfold AV.rid
    cases h1 : lent i <;> cases h2 : st i <;> first | exact key (.inl h1) | exact key (.inr h2) | simp [AV.rel]
  | .own i, u, h => by
    have key : lent i = false → AV.rel m' (.own i) u := fun hk => by
      simp only [AV.rel] at h ⊢
      obtain ⟨ob, k, h1, h2, h3, h4⟩ := h
      have hi := (List.getElem?_eq_some_iff.1 h1).1
      refine ⟨ob, k, (hσ i hk).trans h1, h2, h3, ?_⟩
      rcases h4 with ⟨q1, q2, q3⟩ | ⟨g, cap, us, q1, q2, q3, q4⟩
      · exact .inl ⟨q1, q2, (hφ i hi (.inl hk)).trans q3⟩
      · exact .inr ⟨g, cap, us, (hφ i hi (.inl hk)).trans q1, q2, (hb i g hi hk q1).trans q3, q4⟩
    unfold AV.rid
    cases h1 : lent i <;> first | exact key h1 | simp [AV.rel]
  | .agg cs, u, h => by
    simp only [AV.rid, AV.rel] at h ⊢
    obtain ⟨us, e, h1⟩ := h
    exact ⟨us, e, rels_rid hro hlen hφ hσ hb cs _ h1⟩
  | .tup cs, u, h => by
    simp only [AV.rid, AV.rel] at h ⊢
    obtain ⟨us, e, h1⟩ := h
    exact ⟨us, e, rels_rid hro hlen hφ hσ hb cs _ h1⟩
  | .fn f a b, u, h => by
    simp only [AV.rid, AV.rel] at h ⊢
    obtain ⟨us, vs, e, h1, h2⟩ := h
    exact ⟨us, vs, e, rels_rid hro hlen hφ hσ hb a _ h1, rels_rid hro hlen hφ hσ hb b _ h2⟩
theorem rels_rid (hro : RV.Kept m.w m.ok m'.w m'.ok) (hlen : m'.σ.length = m.σ.length) (hφ : ∀ i, i < m.σ.length → lent i = false ∨ st i = true → m'.φ i = m.φ i) (hσ : ∀ i, lent i = false → m'.σ[i]? = m.σ[i]?) (hb : ∀ i g, i < m.σ.length → lent i = false → m.φ i = some g → m'.w.heap[g]? = m.w.heap[g]?) :
    ∀ (vs : List AV) (us : List Value), AV.rels m vs us → AV.rels m' (AV.rids lent st vs) us
  | [], us, h => by simpa [AV.rids, AV.rels] using h
  | x :: xs, us, h => by
    simp only [AV.rids, AV.rels] at h ⊢
    obtain ⟨u, us', e, h1, h2⟩ := h
    exact ⟨u, us', e, rel_rid hro hlen hφ hσ hb x u h1, rels_rid hro hlen hφ hσ hb xs us' h2⟩
end
end
theorem rids_at (lent st : Nat → Bool) : ∀ (l : List AV) (j : Nat), (AV.rids lent st l)[j]? = (l[j]?).map (AV.rid lent st)
  | [], j => by simp [AV.rids]
  | x :: xs, 0 => by simp [AV.rids]
  | x :: xs, j + 1 => by simp [AV.rids, rids_at lent st xs j]
/-! Which objects are lent: the list says the number of each. -/
def rof (ι : List Nat) (i : Nat) : Nat := (ι[i]?).getD 0
def lentB (ι : List Nat) (i : Nat) : Bool := ι.any fun j => Nat.beq j i
def stB' (ι st : List Nat) (i : Nat) : Bool := st.any fun j => Nat.beq (rof ι j) i
/-- The objects, those that were lent as they are now. -/
def putObs (ι : List Nat) (σ : List Ob) : List Ob → Nat → List Ob
  | [], _ => σ
  | o :: os, j => putObs ι (σ.set (rof ι j) (o.ren (rof ι))) os (j + 1)
theorem putObs_len (ι : List Nat) : ∀ (os σ : List Ob) (j : Nat), (putObs ι σ os j).length = σ.length
  | [], σ, j => rfl
  | o :: os, σ, j => by rw [putObs, putObs_len ι os]; simp
theorem putObs_off (ι : List Nat) (i : Nat) : ∀ (os σ : List Ob) (j : Nat), (∀ k, k < os.length → rof ι (j + k) ≠ i) → (putObs ι σ os j)[i]? = σ[i]?
  | [], σ, j, _ => rfl
  | o :: os, σ, j, h => by
    rw [putObs, putObs_off ι i os _ (j + 1) fun k hk => by
      have := h (k + 1) (by simp; omega)
      rwa [show j + (k + 1) = j + 1 + k by omega] at this]
    exact List.getElem?_set_ne (h 0 (by simp))
theorem putObs_at (ι : List Nat) : ∀ (os σ : List Ob) (j : Nat), (∀ a b, a < os.length → b < os.length → rof ι (j + a) = rof ι (j + b) → a = b) → ∀ (k : Nat) o, os[k]? = some o → rof ι (j + k) < σ.length → (putObs ι σ os j)[rof ι (j + k)]? = some (o.ren (rof ι))
  | [], σ, j, _, k, o, h, _ => by simp at h
  | x :: os, σ, j, hinj, k, o, h, hlt => by
    rw [putObs]
    cases k with
    | zero =>
      simp at h; subst h
      rw [putObs_off ι _ os _ (j + 1) fun k hk e => by
        have := hinj (k + 1) 0 (by simp; omega) (by simp) (by rw [show j + (k + 1) = j + 1 + k by omega]; exact e)
        omega]
      rw [Nat.add_zero] at hlt ⊢
      exact List.getElem?_set_self hlt
    | succ k =>
      simp at h
      have := putObs_at ι os (σ.set (rof ι j) (x.ren (rof ι))) (j + 1) (fun a b ha hb e => by
        have := hinj (a + 1) (b + 1) (by simp; omega) (by simp; omega) (by rw [show j + (a + 1) = j + 1 + a by omega, show j + (b + 1) = j + 1 + b by omega]; exact e)
        omega) k o h (by rw [show j + 1 + k = j + (k + 1) by omega]; simpa using hlt)
      rwa [show j + 1 + k = j + (k + 1) by omega] at this
def LentAt (ι : List Nat) (σ : List Ob) : List Ob → Nat → Prop
  | [], _ => True
  | o :: os, j => σ[rof ι j]? = some (o.ren (rof ι)) ∧ LentAt ι σ os (j + 1)
theorem LentAt.at_ {ι : List Nat} {σ : List Ob} : ∀ {os : List Ob} {j : Nat}, LentAt ι σ os j → ∀ (k : Nat) o, os[k]? = some o → σ[rof ι (j + k)]? = some (o.ren (rof ι))
  | [], j, _, k, o, h => by simp at h
  | x :: os, j, hl, k, o, h => by
    simp only [LentAt] at hl
    cases k with
    | zero => simp at h; subst h; exact hl.1
    | succ k =>
      simp at h
      have := LentAt.at_ hl.2 k o h
      rwa [show j + 1 + k = j + (k + 1) by omega] at this
/-- Objects that are not lent speak of none that is lent. -/
def FreeR (ι st : List Nat) : Nat → List Ob → Prop
  | _, [] => True
  | i, o :: os => (lentB ι i = true ∨ AV.rids (lentB ι) (stB' ι st) o.cs = o.cs) ∧ FreeR ι st (i + 1) os
theorem FreeR.at_ {ι st : List Nat} : ∀ {os : List Ob} {i : Nat}, FreeR ι st i os → ∀ (k : Nat) o, os[k]? = some o → lentB ι (i + k) = true ∨ AV.rids (lentB ι) (stB' ι st) o.cs = o.cs
  | [], i, _, k, o, h => by simp at h
  | x :: os, i, hl, k, o, h => by
    simp only [FreeR] at hl
    cases k with
    | zero => simp at h; subst h; exact hl.1
    | succ k =>
      simp at h
      have := FreeR.at_ hl.2 k o h
      rwa [show i + 1 + k = i + (k + 1) by omega] at this
theorem rids_ros (lent st : Nat → Bool) : ∀ rs : List RV, AV.rids lent st (rs.map .ro) = rs.map .ro
  | [] => rfl
  | r :: rs => by simp only [List.map_cons, AV.rids, AV.rid, rids_ros lent st rs]
structure Lent (ι st : List Nat) (σ σ0 σ1 : List Ob) : Prop where
  len : Nat.beq σ0.length ι.length = true
  len1 : Nat.beq σ1.length ι.length = true
  lt : (ι.all fun i => Nat.ble (i + 1) σ.length) = true
  inj : ι.Nodup
  at_ : LentAt ι σ σ0 0
  closed : FreeO σ0.length σ0
  stl : (st.all fun j => Nat.ble (j + 1) ι.length) = true
  free : FreeR ι st 0 σ
def unpin : AV → AV
  | .pin i off _ => .obj i off
  | v => v
theorem unpin_rel {m : Mem} {v : AV} {u : Value} (h : AV.rel m v u) : AV.rel m (unpin v) u := by
  cases v <;> simp only [unpin] <;> try exact h
  case pin i off g =>
    simp only [AV.rel] at h ⊢
    exact ⟨h.1, g, h.2.1, h.2.2⟩
def putEnv (d : Option Nat) (v : AV) (env : Env) : Env := match d with
  | some t => (t, v) :: env
  | none => env
theorem lentB_iff {ι : List Nat} {i : Nat} : lentB ι i = true ↔ ∃ j, j < ι.length ∧ rof ι j = i := by
  unfold lentB
  rw [List.any_eq_true]
  constructor
  · rintro ⟨x, hx, hb⟩
    obtain ⟨j, hj, rfl⟩ := List.getElem_of_mem hx
    exact ⟨j, hj, by simpa [rof, hj] using Nat.eq_of_beq_eq_true hb⟩
  · rintro ⟨j, hj, rfl⟩
    refine ⟨ι[j], List.getElem_mem hj, ?_⟩
    simp [rof, hj]
theorem rof_inj {ι : List Nat} (h : ι.Nodup) {a b : Nat} (ha : a < ι.length) (hb : b < ι.length) (e : rof ι a = rof ι b) : a = b := by
  simp only [rof, List.getElem?_eq_getElem ha, List.getElem?_eq_getElem hb, Option.getD_some] at e
  exact (List.getElem_inj h).1 e
section
variable {P : Program} {C : Ctx} {ops : Array Oper} {rest : List Oper} {k : List Item} {R : Act → World → Prop} {env : Env} {σ : List Ob} {t : Nat} {ty : TypeId} {pos : String} {after : Array Edge}
theorem lent_step {ι st : List Nat} {σ0 σ1 : List Ob} {w w' : World} {φ φ1 : Nat → Option Nat} (hL : Lent ι st σ σ0 σ1) (hG : Good C ⟨w, φ, σ, C.ok⟩) {ok0 : Nat → Prop} (hok0 : ok0 = fun b => C.ok b ∧ ∀ i, i < σ.length → lentB ι i = false → φ i ≠ some b)
    (hG1 : Good ⟨w, ok0, mine (fun j => φ (rof ι j)) σ0.length, 0⟩ ⟨w', φ1, σ1, ok0⟩) (hst : ∀ i ∈ st, φ1 i = φ (rof ι i)) :
    ∃ φ', Good C ⟨w', φ', putObs ι σ σ1 0, C.ok⟩ ∧ (∀ v u, AV.rel ⟨w, φ, σ, C.ok⟩ v u → AV.rel ⟨w', φ', putObs ι σ σ1 0, C.ok⟩ (v.rid (lentB ι) (stB' ι st)) u) ∧ (∀ v u, AV.rel ⟨w', φ1, σ1, ok0⟩ v u → AV.rel ⟨w', φ', putObs ι σ σ1 0, C.ok⟩ (v.ren (rof ι)) u) := by
  subst hok0
  have hl0 : σ0.length = ι.length := Nat.eq_of_beq_eq_true hL.len
  have hl1 : σ1.length = ι.length := Nat.eq_of_beq_eq_true hL.len1
  have hlt : ∀ j, j < ι.length → rof ι j < σ.length := fun j hj => by
    have := List.all_eq_true.1 hL.lt ι[j] (List.getElem_mem hj)
    have := Nat.le_of_ble_eq_true this
    simp only [rof, List.getElem?_eq_getElem hj, Option.getD_some]
    omega
  have hinj : ∀ a b, a < ι.length → b < ι.length → rof ι a = rof ι b → a = b := fun a b ha hb e => rof_inj hL.inj ha hb e
  let φ' : Nat → Option Nat := open Classical in fun i => if h : ∃ j, j < ι.length ∧ rof ι j = i then φ1 h.choose else φ i
  have e1 : ∀ j, j < ι.length → φ' (rof ι j) = φ1 j := fun j hj => by
    have hex : ∃ j', j' < ι.length ∧ rof ι j' = rof ι j := ⟨j, hj, rfl⟩
    show (if h : ∃ j', j' < ι.length ∧ rof ι j' = rof ι j then φ1 h.choose else φ (rof ι j)) = _
    rw [dif_pos hex, hinj _ _ hex.choose_spec.1 hj hex.choose_spec.2]
  have e2 : ∀ i, lentB ι i = false → φ' i = φ i := fun i hi => by
    have hex : ¬ ∃ j', j' < ι.length ∧ rof ι j' = i := fun h => by rw [lentB_iff.2 h] at hi; cases hi
    show (if h : ∃ j', j' < ι.length ∧ rof ι j' = i then φ1 h.choose else φ i) = _
    rw [dif_neg hex]
  have hlen' : (putObs ι σ σ1 0).length = σ.length := putObs_len ι σ1 σ 0
  have hat : ∀ (j : Nat) o, σ1[j]? = some o → (putObs ι σ σ1 0)[rof ι j]? = some (o.ren (rof ι)) := fun j o hj => by
    have hjl := (List.getElem?_eq_some_iff.1 hj).1
    have := putObs_at ι σ1 σ 0 (fun a b ha hb e => hinj a b (by omega) (by omega) (by simpa using e)) j o hj (by rw [Nat.zero_add]; exact hlt j (by omega))
    rwa [Nat.zero_add] at this
  have hoff : ∀ i, lentB ι i = false → (putObs ι σ σ1 0)[i]? = σ[i]? := fun i hi => putObs_off ι i σ1 σ 0 fun k hk e => by
    rw [lentB_iff.2 ⟨0 + k, by omega, e⟩] at hi; cases hi
  have hblk : ∀ b, b < w.heap.size → (∀ j, j < ι.length → φ (rof ι j) ≠ some b) → w'.heap[b]? = w.heap[b]? := fun b hb h => hG1.frm.block b hb fun ⟨i, hi, e⟩ => h i (by omega) e
  have hm1 : ∀ j g, j < ι.length → φ1 j = some g → (∃ j', j' < ι.length ∧ φ (rof ι j') = some g) ∨ w.heap.size ≤ g := fun j g hj hg => by
    rcases hG1.mine j g (by simp only; omega) hg with ⟨i, hi, e⟩ | h
    · exact .inl ⟨i, by omega, e⟩
    · exact .inr h
  have hwl : w.heap.size ≤ w'.heap.size := hG1.frm.size
  have hGlt : ∀ i g, i < σ.length → φ i = some g → g < w.heap.size := fun i g hi hg => hG.lt hi hg
  -- a block that an object has now was one's before, or is new
  have hold : ∀ i g, i < σ.length → φ' i = some g → (∃ i', i' < σ.length ∧ φ i' = some g ∧ (lentB ι i = false → i' = i) ∧ (lentB ι i = true → lentB ι i' = true)) ∨ (w.heap.size ≤ g ∧ lentB ι i = true) := fun i g hi hg => by
    cases hb : lentB ι i with
    | false =>
      rw [e2 i hb] at hg
      exact .inl ⟨i, hi, hg, fun _ => rfl, fun h => by cases h⟩
    | true =>
      obtain ⟨j, hj, rfl⟩ := lentB_iff.1 hb
      rw [e1 j hj] at hg
      rcases hm1 j g hj hg with ⟨j', hj', h⟩ | h
      · exact .inl ⟨rof ι j', hlt j' hj', h, fun h => by simp at h, fun _ => lentB_iff.2 ⟨j', hj', rfl⟩⟩
      · exact .inr ⟨h, rfl⟩
  have hok2 : ∀ b, b < w.heap.size → AV.Mem.ok ⟨w, φ, σ, C.ok⟩ b → AV.Mem.ok ⟨w', φ', putObs ι σ σ1 0, C.ok⟩ b := fun b hb ho => ⟨ho.1, fun i hi e => by
    simp only at hi e
    rw [hlen'] at hi
    rcases hold i b hi e with ⟨i', h1, h2, _⟩ | ⟨h, _⟩
    · exact ho.2 i' h1 h2
    · omega⟩
  have hkept : RV.Kept w (AV.Mem.ok ⟨w, φ, σ, C.ok⟩) w' (AV.Mem.ok ⟨w', φ', putObs ι σ σ1 0, C.ok⟩) := ⟨hwl, fun b hb ho => ⟨hok2 b hb ho, hblk b hb fun j hj e => ho.2 (rof ι j) (hlt j hj) e⟩⟩
  have hnb : ∀ i g, i < σ.length → lentB ι i = false → φ i = some g → w'.heap[g]? = w.heap[g]? := fun i g hi hb hg => hblk g (hGlt i g hi hg) fun j hj e => by
    have := hG.inj i (rof ι j) g hi (hlt j hj) hg e
    rw [this, lentB_iff.2 ⟨j, hj, rfl⟩] at hb
    cases hb
  have hrid : ∀ v u, AV.rel ⟨w, φ, σ, C.ok⟩ v u → AV.rel ⟨w', φ', putObs ι σ σ1 0, C.ok⟩ (v.rid (lentB ι) (stB' ι st)) u := rel_rid (m := ⟨w, φ, σ, C.ok⟩) (m' := ⟨w', φ', putObs ι σ σ1 0, C.ok⟩) hkept hlen' (fun i hi h => by
    show φ' i = φ i
    rcases h with h | h
    · exact e2 i h
    · unfold stB' at h
      rw [List.any_eq_true] at h
      obtain ⟨j, hj, hb⟩ := h
      have hjl := Nat.le_of_ble_eq_true (List.all_eq_true.1 hL.stl j hj)
      have := Nat.eq_of_beq_eq_true hb
      subst this
      rw [e1 j (by omega), hst j hj]) hoff hnb
  have hren : ∀ v u, AV.rel ⟨w', φ1, σ1, fun b => C.ok b ∧ ∀ i, i < σ.length → lentB ι i = false → φ i ≠ some b⟩ v u → AV.rel ⟨w', φ', putObs ι σ σ1 0, C.ok⟩ (v.ren (rof ι)) u := rel_ren (n := ι.length) rfl (fun b ho => ⟨ho.1.1, fun i hi e => by
    simp only at hi e
    rw [hlen'] at hi
    cases hb : lentB ι i with
    | false => rw [e2 i hb] at e; exact ho.1.2 i hi hb e
    | true =>
      obtain ⟨j, hj, rfl⟩ := lentB_iff.1 hb
      rw [e1 j hj] at e
      exact ho.2 j (by simp only; omega) e⟩) (fun i hi => e1 i hi) (fun i hi => by simp only [hlen']; exact hlt i hi) hl1 (fun i o hi => ⟨AV.rens (rof ι) o.cs, hat i o hi, rens_len _ _⟩)
  refine ⟨φ', ⟨rfl, fun i j g hi hj h1 h2 => ?_, fun i o hi => ?_, fun i g hi hg => ?_, ⟨hG1.frm.os.trans hG.frm.os, hG1.frm.tape.trans hG.frm.tape, hG1.frm.output.trans hG.frm.output, Nat.le_trans hG.frm.size hwl, fun b hb hm => ?_, hG.frm.new⟩⟩, hrid, hren⟩
  · simp only [hlen'] at hi hj h1 h2
    cases hbi : lentB ι i with
    | true =>
      obtain ⟨a, ha, rfl⟩ := lentB_iff.1 hbi
      cases hbj : lentB ι j with
      | true =>
        obtain ⟨b, hb, rfl⟩ := lentB_iff.1 hbj
        rw [e1 a ha] at h1
        rw [e1 b hb] at h2
        rw [hG1.inj a b g (by simp only; omega) (by simp only; omega) h1 h2]
      | false =>
        rw [e2 j hbj] at h2
        rcases hold _ g hi h1 with ⟨i', k1, k2, _, k4⟩ | ⟨h, _⟩
        · have := hG.inj i' j g k1 hj k2 h2
          rw [this] at k4
          rw [k4 hbi] at hbj; cases hbj
        · have := hGlt j g hj h2; omega
    | false =>
      rw [e2 i hbi] at h1
      rcases hold _ g hj h2 with ⟨j', k1, k2, k3, k4⟩ | ⟨h, _⟩
      · have e := hG.inj i j' g hi k1 h1 k2
        cases hbj : lentB ι j with
        | true => rw [← e] at k4; rw [k4 hbj] at hbi; cases hbi
        | false => rw [e, k3 hbj]
      · have := hGlt i g hi h1; omega
  · show ObRel _ _ (φ' i)
    have hil : i < σ.length := by have := (List.getElem?_eq_some_iff.1 hi).1; simp only [hlen'] at this; exact this
    cases hb : lentB ι i with
    | true =>
      obtain ⟨j, hj, rfl⟩ := lentB_iff.1 hb
      have hj1 : j < σ1.length := by omega
      have hx := hat j _ (List.getElem?_eq_getElem hj1)
      simp only at hi
      rw [hx] at hi; injection hi with hi; subst hi
      have h := hG1.ob j _ (List.getElem?_eq_getElem hj1)
      rw [e1 j hj]
      simp only at h
      cases hφ : φ1 j with
      | none =>
        rw [hφ] at h
        simp only [ObRel, Ob.ren] at h ⊢
        rw [h]; rfl
      | some g =>
        rw [hφ] at h
        obtain ⟨us, q1, q2, q3⟩ := h
        refine ⟨us, q1, by simp only [Ob.ren, rens_len]; exact q2, fun m v hm => ?_⟩
        simp only [Ob.ren, rens_at] at hm
        obtain ⟨v0, hv0, rfl⟩ := Option.map_eq_some_iff.1 hm
        obtain ⟨u, k1, k2, k3⟩ := q3 m v0 hv0
        exact ⟨u, k1, k2, hren v0 u k3⟩
    | false =>
      simp only [hoff i hb] at hi
      have h := hG.ob i o hi
      rw [e2 i hb]
      simp only at h
      cases hφ : φ i with
      | none => rw [hφ] at h; exact h
      | some g =>
        rw [hφ] at h
        obtain ⟨us, q1, q2, q3⟩ := h
        refine ⟨us, (hnb i g hil hb hφ).trans q1, q2, fun m v hm => ?_⟩
        obtain ⟨u, k1, k2, k3⟩ := q3 m v hm
        refine ⟨u, k1, k2, ?_⟩
        have hf := hL.free.at_ i o hi
        rw [Nat.zero_add, hb] at hf
        rcases hf with hf | hf
        · cases hf
        · have := rids_at (lentB ι) (stB' ι st) o.cs m
          rw [hf, hm] at this
          injection this with this
          rw [this]
          exact hrid v u k3
  · simp only [hlen'] at hi hg
    rcases hold i g hi hg with ⟨i', k1, k2, _⟩ | ⟨h, _⟩
    · exact hG.mine i' g k1 k2
    · exact .inr (Nat.le_trans hG.frm.size h)
  · refine (hblk b (Nat.lt_of_lt_of_le hb hG.frm.size) fun j hj e => ?_).trans (hG.frm.block b hb hm)
    rcases hG.mine (rof ι j) b (hlt j hj) e with h | h
    · exact hm h
    · omega
theorem lent_good {ι st : List Nat} {σ0 σ1 : List Ob} {w : World} {φ : Nat → Option Nat} (hL : Lent ι st σ σ0 σ1) (hG : Good C ⟨w, φ, σ, C.ok⟩) {ok0 : Nat → Prop} (hok0 : ok0 = fun b => C.ok b ∧ ∀ i, i < σ.length → lentB ι i = false → φ i ≠ some b) :
    Good ⟨w, ok0, mine (fun j => φ (rof ι j)) σ0.length, 0⟩ ⟨w, fun j => φ (rof ι j), σ0, ok0⟩ ∧ ∀ v u, v.only (fun i => i < σ0.length) → AV.rel ⟨w, φ, σ, C.ok⟩ (v.ren (rof ι)) u → AV.rel ⟨w, fun j => φ (rof ι j), σ0, ok0⟩ v u := by
  subst hok0
  have hl0 : σ0.length = ι.length := Nat.eq_of_beq_eq_true hL.len
  have hlt : ∀ j, j < ι.length → rof ι j < σ.length := fun j hj => by
    have := List.all_eq_true.1 hL.lt ι[j] (List.getElem_mem hj)
    have := Nat.le_of_ble_eq_true this
    simp only [rof, List.getElem?_eq_getElem hj, Option.getD_some]
    omega
  have hat : ∀ (j : Nat) o, σ0[j]? = some o → σ[rof ι j]? = some (o.ren (rof ι)) := fun j o hj => by
    have := hL.at_.at_ j o hj
    rwa [Nat.zero_add] at this
  have hun : ∀ v u, v.only (fun i => i < σ0.length) → AV.rel ⟨w, φ, σ, C.ok⟩ (v.ren (rof ι)) u → AV.rel ⟨w, fun j => φ (rof ι j), σ0, fun b => C.ok b ∧ ∀ i, i < σ.length → lentB ι i = false → φ i ≠ some b⟩ v u :=
    rel_unren (m := ⟨w, φ, σ, C.ok⟩) rfl (fun b ho => ⟨⟨ho.1, fun i hi _ => ho.2 i hi⟩, fun j hj => ho.2 (rof ι j) (hlt j (by simp only at hj; omega))⟩) (fun i _ => rfl) rfl (fun i o hi ho => by
      simp only at ho
      have := hat i _ (List.getElem?_eq_getElem hi)
      rw [this] at ho; injection ho with ho; subst ho
      exact ⟨σ0[i].cs, List.getElem?_eq_getElem hi, by simp only [Ob.ren, rens_len]⟩)
  refine ⟨⟨rfl, fun i j g hi hj h1 h2 => ?_, fun j o hj => ?_, fun i g hi hg => .inl ⟨i, hi, hg⟩, ⟨rfl, rfl, rfl, Nat.le_refl _, fun _ _ _ => rfl, fun b hb => ⟨hG.frm.new b (Nat.le_trans hG.frm.size hb), fun i hi _ e => by have := hG.lt (m := ⟨w, φ, σ, C.ok⟩) hi e; simp only at this hb; omega⟩⟩⟩, hun⟩
  · simp only at hi hj
    exact rof_inj hL.inj (by omega) (by omega) (hG.inj _ _ g (hlt i (by omega)) (hlt j (by omega)) h1 h2)
  · simp only at hj
    have h := hG.ob _ _ (hat j o hj)
    show ObRel _ _ (φ (rof ι j))
    simp only at h
    cases hφ : φ (rof ι j) with
    | none =>
      rw [hφ] at h
      simp only [ObRel, Ob.ren] at h ⊢
      have := rens_len (rof ι) o.cs
      rw [h] at this
      exact List.eq_nil_of_length_eq_zero (by simpa using this.symm)
    | some g =>
      rw [hφ] at h
      obtain ⟨us, q1, q2, q3⟩ := h
      simp only [Ob.ren, rens_len] at q2
      refine ⟨us, q1, q2, fun m v hm => ?_⟩
      obtain ⟨u, k1, k2, k3⟩ := q3 m (v.ren (rof ι)) (by simp only [Ob.ren, rens_at, hm]; rfl)
      exact ⟨u, k1, k2, hun v u (onlys_mem (hL.closed.at_ j o hj) m v hm) k3⟩
theorem rels_unpin {m : Mem} : ∀ (vs : List AV) (us : List Value), AV.rels m vs us → AV.rels m (vs.map unpin) us
  | [], us, h => by simpa [AV.rels] using h
  | x :: xs, us, h => by
    simp only [List.map_cons, AV.rels] at h ⊢
    obtain ⟨u, us', e, h1, h2⟩ := h
    exact ⟨u, us', e, unpin_rel h1, rels_unpin xs us' h2⟩
/-- A call that is handed objects of the frame's own. -/
theorem op_callM {f : FuncId} {fn : Func} {xs : Array Operand} {ats : Array TypeId} {σ0 σ1 : List Ob} {st : List Nat} {args : List AV} {v : AV} {d : Option Nat} [hfn : FN P f fn] (ι : List Nat) (hf : AM P f σ0 st args σ1 v)
    (ha : (xs.toList.map (ev env)).map unpin = AV.rens (rof ι) args) (hcl : AV.onlys (fun i => i < σ0.length) args) (hL : Lent ι st σ σ0 σ1) (ht : ∀ t, d = some t → t < C.n)
    (hk : RunsL P C ops rest k R ⟨putEnv d (v.ren (rof ι)) (ridEnv (lentB ι) (stB' ι st) env), putObs ι σ σ1 0⟩) :
    RunsL P C ops (⟨d, .call { callee := .value (.func f), args := xs, argTypes := ats }, ty, pos, after, none⟩ :: rest) k R ⟨env, σ⟩ := by
  refine ⟨fun a w ⟨s1, s2, φ, hG, hH⟩ => ?_⟩
  refine wpList_plain rfl fun K hK' => ?_
  have hr := rels_unpin _ _ (rels_eval (a := a) (m := ⟨w, φ, σ, C.ok⟩) xs.toList fun x hx => ev_rel hH x)
  rw [ha] at hr
  obtain ⟨hG0, hun⟩ := lent_good hL hG rfl
  have key : ∀ (vs : List AV) (us : List Value), AV.onlys (fun i => i < σ0.length) vs → AV.rels ⟨w, φ, σ, C.ok⟩ (AV.rens (rof ι) vs) us → AV.rels ⟨w, fun j => φ (rof ι j), σ0, fun b => C.ok b ∧ ∀ i, i < σ.length → lentB ι i = false → φ i ≠ some b⟩ vs us := by
    intro vs
    induction vs with
    | nil => intro us _ h; simpa [AV.rens, AV.rels] using h
    | cons x xs ih =>
      intro us ho h
      simp only [AV.rens, AV.rels, AV.onlys] at h ho ⊢
      obtain ⟨u, us', e, h1, h2⟩ := h
      exact ⟨u, us', e, hun x u ho.1 h1, ih us' ho.2 h2⟩
  unfold Oper.wp
  rw [execOp_call_go, run_call hfn]
  simp only [Oper.upon]
  refine (hf w _ _ _ hG0 (by simpa using key args _ hcl hr)).mono ?_
  rintro e w' ⟨u, φ1, rfl, hG1, hv, hst⟩
  obtain ⟨φ', g1, g2, g3⟩ := lent_step hL hG rfl hG1 hst
  cases d with
  | none => exact hK' _ _ (hk.run _ _ ⟨s1, s2, φ', g1, fun s => by rw [show look (⟨putEnv none _ _, _⟩ : St).env s = _ from look_ridEnv _ _ _ _]; exact g2 _ _ (hH s)⟩)
  | some t => exact hK' _ _ (hk.run _ _ ⟨s1, by simp [Act.put, s2], φ', g1, Holds.put (fun s => by rw [look_ridEnv]; exact g2 _ _ (hH s)) (by rw [s2]; exact ht t rfl) (g3 _ _ hv)⟩)
end
end Go.Proofs.YtnbjncafoahclaaDoor
/- Functions that are handed the first objects of their caller's. Over any program. -/
namespace Go.Proofs.YtnbjncafoahclaaDoor
set_option linter.unusedSimpArgs false
set_option linter.unusedVariables false
open Go.RowKit
open AV (Mem Keeps)
def ltB (n i : Nat) : Bool := Nat.ble (i + 1) n
def memB (st : List Nat) (i : Nat) : Bool := st.any fun j => Nat.beq j i
def FreeP (n : Nat) (st : List Nat) : List Ob → Prop
  | [] => True
  | o :: os => AV.rids (ltB n) (memB st) o.cs = o.cs ∧ FreeP n st os
theorem rof_range {n i : Nat} (h : i < n) : rof (List.range n) i = i := by simp [rof, h]
theorem lentB_range (n : Nat) : lentB (List.range n) = ltB n := by
  funext i
  rw [Bool.eq_iff_iff, lentB_iff]
  unfold ltB
  rw [List.length_range]
  constructor
  · rintro ⟨j, hj, e⟩
    rw [rof_range hj] at e
    subst e
    exact Nat.ble_eq_true_of_le hj
  · intro h
    have := Nat.le_of_ble_eq_true h
    exact ⟨i, this, rof_range this⟩
theorem stB_range {n : Nat} {st : List Nat} (h : (st.all fun j => Nat.ble (j + 1) n) = true) : stB' (List.range n) st = memB st := by
  funext i
  unfold stB' memB
  rw [Bool.eq_iff_iff, List.any_eq_true, List.any_eq_true]
  constructor
  · rintro ⟨j, hj, e⟩
    have := Nat.le_of_ble_eq_true (List.all_eq_true.1 h j hj)
    rw [rof_range this] at e
    exact ⟨j, hj, e⟩
  · rintro ⟨j, hj, e⟩
    have := Nat.le_of_ble_eq_true (List.all_eq_true.1 h j hj)
    exact ⟨j, hj, by rw [rof_range this]; exact e⟩
mutual
theorem ren_id {r : Nat → Nat} {n : Nat} (hr : ∀ i, i < n → r i = i) : ∀ v : AV, v.only (fun i => i < n) → v.ren r = v
  | .ro _, _ | .junk, _ => rfl
  | .obj i off, h => by simp only [AV.only] at h; simp only [AV.ren, hr i h]
  | .pin i off g, h => by simp only [AV.only] at h; simp only [AV.ren, hr i h]
  | .own i, h => by simp only [AV.only] at h; simp only [AV.ren, hr i h]
  | .agg cs, h => by simp only [AV.only] at h; simp only [AV.ren, rens_id hr cs h]
  | .tup cs, h => by simp only [AV.only] at h; simp only [AV.ren, rens_id hr cs h]
  | .fn f a b, h => by simp only [AV.only] at h; simp only [AV.ren, rens_id hr a h.1, rens_id hr b h.2]
theorem rens_id {r : Nat → Nat} {n : Nat} (hr : ∀ i, i < n → r i = i) : ∀ vs : List AV, AV.onlys (fun i => i < n) vs → AV.rens r vs = vs
  | [], _ => rfl
  | x :: xs, h => by simp only [AV.onlys] at h; simp only [AV.rens, ren_id hr x h.1, rens_id hr xs h.2]
end
theorem obren_id {r : Nat → Nat} {n : Nat} (hr : ∀ i, i < n → r i = i) {o : Ob} (h : AV.onlys (fun i => i < n) o.cs) : o.ren r = o := by
  simp only [Ob.ren, rens_id hr o.cs h]
theorem lentAt_of {ι : List Nat} {σ : List Ob} : ∀ (os : List Ob) (j : Nat), (∀ (k : Nat) o, os[k]? = some o → σ[rof ι (j + k)]? = some (o.ren (rof ι))) → LentAt ι σ os j
  | [], j, _ => trivial
  | o :: os, j, h => ⟨by simpa using h 0 o rfl, lentAt_of os (j + 1) fun k o' hk => by
      have := h (k + 1) o' (by simpa using hk)
      rwa [show j + (k + 1) = j + 1 + k by omega] at this⟩
theorem freeR_of {ι st : List Nat} : ∀ (os : List Ob) (i : Nat), (∀ (k : Nat) o, os[k]? = some o → lentB ι (i + k) = true ∨ AV.rids (lentB ι) (stB' ι st) o.cs = o.cs) → FreeR ι st i os
  | [], i, _ => trivial
  | o :: os, i, h => ⟨by simpa using h 0 o rfl, freeR_of os (i + 1) fun k o' hk => by
      have := h (k + 1) o' (by simpa using hk)
      rwa [show i + (k + 1) = i + 1 + k by omega] at this⟩
theorem FreeP.at_ {n : Nat} {st : List Nat} : ∀ {os : List Ob}, FreeP n st os → ∀ (k : Nat) o, os[k]? = some o → AV.rids (ltB n) (memB st) o.cs = o.cs
  | [], _, k, o, h => by simp at h
  | x :: os, hl, k, o, h => by
    simp only [FreeP] at hl
    cases k with
    | zero => simp at h; subst h; exact hl.1
    | succ k => simp at h; exact FreeP.at_ hl.2 k o h
section
variable {P : Program} {C : Ctx} {ops : Array Oper} {rest : List Oper} {k : List Item} {R : Act → World → Prop} {env : Env} {σ : List Ob} {t : Nat} {ty : TypeId} {pos : String} {after : Array Edge}
theorem lent_range {n : Nat} {σ0 σ1 more : List Ob} {st : List Nat} (hn0 : Nat.beq σ0.length n = true) (hn1 : Nat.beq σ1.length n = true) (h0 : FreeO n σ0) (h1 : FreeO n σ1) (hst : (st.all fun j => Nat.ble (j + 1) n) = true) (hfree : FreeP n st more) :
    Lent (List.range n) st (σ0 ++ more) σ0 σ1 ∧ putObs (List.range n) (σ0 ++ more) σ1 0 = σ1 ++ more := by
  have e0 : σ0.length = n := Nat.eq_of_beq_eq_true hn0
  have e1 : σ1.length = n := Nat.eq_of_beq_eq_true hn1
  have hr : ∀ i, i < n → rof (List.range n) i = i := fun i hi => rof_range hi
  refine ⟨⟨by rw [List.length_range]; exact hn0, by rw [List.length_range]; exact hn1, ?_, List.nodup_range, lentAt_of _ _ fun j o hj => ?_, by rw [e0]; exact h0, by rw [List.length_range]; exact hst, freeR_of _ _ fun j o hj => ?_⟩, ?_⟩
  · rw [List.all_eq_true]
    intro i hi
    rw [List.mem_range] at hi
    exact Nat.ble_eq_true_of_le (by rw [List.length_append]; omega)
  · have hjl := (List.getElem?_eq_some_iff.1 hj).1
    rw [Nat.zero_add, hr j (by omega), List.getElem?_append_left hjl, hj, obren_id hr (h0.at_ j o hj)]
  · rw [Nat.zero_add, lentB_range, stB_range hst]
    rcases Nat.lt_or_ge j n with h | h
    · exact .inl (Nat.ble_eq_true_of_le h)
    · rw [List.getElem?_append_right (by omega)] at hj
      exact .inr (hfree.at_ _ o hj)
  · refine List.ext_getElem? fun i => ?_
    rcases Nat.lt_or_ge i n with h | h
    · have hx : σ1[i]? = some _ := List.getElem?_eq_getElem (show i < σ1.length by omega)
      have := putObs_at (List.range n) σ1 (σ0 ++ more) 0 (fun a b ha hb e => by
        rw [Nat.zero_add, Nat.zero_add, hr a (by omega), hr b (by omega)] at e; exact e) i _ hx (by rw [Nat.zero_add, hr i h, List.length_append]; omega)
      rw [Nat.zero_add, hr i h, obren_id hr (h1.at_ i _ hx)] at this
      rw [this, List.getElem?_append_left (by omega), hx]
    · rw [putObs_off (List.range n) i σ1 (σ0 ++ more) 0 fun k hk e => by rw [Nat.zero_add, hr k (by omega)] at e; omega]
      rw [List.getElem?_append_right (by omega), List.getElem?_append_right (by omega), e0, e1]
/-- A call that is handed the first n objects of the frame. -/
theorem op_callP {f : FuncId} {fn : Func} {xs : Array Operand} {ats : Array TypeId} {σ0 σ1 more : List Ob} {st : List Nat} {args : List AV} {v : AV} {d : Option Nat} [hfn : FN P f fn] (n : Nat) (hf : AM P f σ0 st args σ1 v)
    (ha : (xs.toList.map (ev env)).map unpin = args) (hcl : AV.onlys (fun i => i < n) args) (hv : v.only fun i => i < n) (hσ : σ = σ0 ++ more) (hn0 : Nat.beq σ0.length n = true) (hn1 : Nat.beq σ1.length n = true) (h0 : FreeO n σ0) (h1 : FreeO n σ1) (hst : (st.all fun j => Nat.ble (j + 1) n) = true) (hfree : FreeP n st more) (ht : ∀ t, d = some t → t < C.n)
    (hk : RunsL P C ops rest k R ⟨putEnv d v (ridEnv (ltB n) (memB st) env), σ1 ++ more⟩) :
    RunsL P C ops (⟨d, .call { callee := .value (.func f), args := xs, argTypes := ats }, ty, pos, after, none⟩ :: rest) k R ⟨env, σ⟩ := by
  subst hσ
  obtain ⟨hL, hp⟩ := lent_range hn0 hn1 h0 h1 hst hfree
  have hr : ∀ i, i < n → rof (List.range n) i = i := fun i hi => rof_range hi
  have e0 : σ0.length = n := Nat.eq_of_beq_eq_true hn0
  refine op_callM (List.range n) hf (by rw [ha, rens_id hr args hcl]) (by rw [e0]; exact hcl) hL ht ?_
  rw [hp, lentB_range, stB_range hst, ren_id hr v hv]
  exact hk
/-- A function value is called, and handed objects of the frame's own. -/
theorem op_callMF {f : FuncId} {fn : Func} {x : Operand} {xs : Array Operand} {ats : Array TypeId} {σ0 σ1 : List Ob} {st : List Nat} {args : List AV} {v : AV} {d : Option Nat} [hfn : FN P f fn] (ι : List Nat) (hx : ev env x = .fn (.func f) [] []) (hf : AM P f σ0 st args σ1 v)
    (ha : (xs.toList.map (ev env)).map unpin = AV.rens (rof ι) args) (hcl : AV.onlys (fun i => i < σ0.length) args) (hL : Lent ι st σ σ0 σ1) (ht : ∀ t, d = some t → t < C.n)
    (hk : RunsL P C ops rest k R ⟨putEnv d (v.ren (rof ι)) (ridEnv (lentB ι) (stB' ι st) env), putObs ι σ σ1 0⟩) :
    RunsL P C ops (⟨d, .call { callee := .value x, args := xs, argTypes := ats }, ty, pos, after, none⟩ :: rest) k R ⟨env, σ⟩ := by
  refine ⟨fun a w ⟨s1, s2, φ, hG, hH⟩ => ?_⟩
  refine wpList_plain rfl fun K hK' => ?_
  have h0 := ev_rel hH x
  rw [hx] at h0
  simp only [AV.rel, AV.rels] at h0
  obtain ⟨us, vs, e, hu, hv0⟩ := h0
  have hu' : us = #[] := by cases us; simp_all
  have hv' : vs = #[] := by cases vs; simp_all
  subst hu'; subst hv'
  have hr := rels_unpin _ _ (rels_eval (a := a) (m := ⟨w, φ, σ, C.ok⟩) xs.toList fun x hx => ev_rel hH x)
  rw [ha] at hr
  obtain ⟨hG0, hun⟩ := lent_good hL hG rfl
  have key : ∀ (vs : List AV) (us : List Value), AV.onlys (fun i => i < σ0.length) vs → AV.rels ⟨w, φ, σ, C.ok⟩ (AV.rens (rof ι) vs) us → AV.rels ⟨w, fun j => φ (rof ι j), σ0, fun b => C.ok b ∧ ∀ i, i < σ.length → lentB ι i = false → φ i ≠ some b⟩ vs us := by
    intro vs
    induction vs with
    | nil => intro us _ h; simpa [AV.rens, AV.rels] using h
    | cons x xs ih =>
      intro us ho h
      simp only [AV.rens, AV.rels, AV.onlys] at h ho ⊢
      obtain ⟨u, us', e, h1, h2⟩ := h
      exact ⟨u, us', e, hun x u ho.1 h1, ih us' ho.2 h2⟩
  unfold Oper.wp execOp
  simp only [resolve, e, Deferred.ofValue, Sem.run_bind, Sem.run_pure, Result.andThen_ok, invoke]
  rw [run_call hfn]
  simp only [Oper.upon]
  refine (hf w _ _ _ hG0 (by simpa using key args _ hcl hr)).mono ?_
  rintro e w' ⟨u, φ1, rfl, hG1, hv, hst⟩
  obtain ⟨φ', g1, g2, g3⟩ := lent_step hL hG rfl hG1 hst
  cases d with
  | none => exact hK' _ _ (hk.run _ _ ⟨s1, s2, φ', g1, fun s => by rw [show look (⟨putEnv none _ _, _⟩ : St).env s = _ from look_ridEnv _ _ _ _]; exact g2 _ _ (hH s)⟩)
  | some t => exact hK' _ _ (hk.run _ _ ⟨s1, by simp [Act.put, s2], φ', g1, Holds.put (fun s => by rw [look_ridEnv]; exact g2 _ _ (hH s)) (by rw [s2]; exact ht t rfl) (g3 _ _ hv)⟩)
theorem pu_nilCheckP {gd : Option (Nat × Bool)} {x : Operand} {i off g : Nat} (hx : ev env x = .pin i off g) : Pur P C ⟨some t, .nilCheck x, ty, pos, after, gd⟩ env σ (.pin i off g) :=
  Pur.of (fun a m hG hσ hH => by
    have h := hH x (by simp [Op.operands, Call.operands])
    rw [hx] at h
    have h' := h
    simp only [AV.rel] at h
    obtain ⟨_, _, e⟩ := h
    exact ⟨a.eval x, by simp [execOp, e], h'⟩)
theorem pu_nilCheckO {gd : Option (Nat × Bool)} {x : Operand} {i off : Nat} (hx : ev env x = .obj i off) : Pur P C ⟨some t, .nilCheck x, ty, pos, after, gd⟩ env σ (.obj i off) :=
  Pur.of (fun a m hG hσ hH => by
    have h := hH x (by simp [Op.operands, Call.operands])
    rw [hx] at h
    have h' := h
    simp only [AV.rel] at h
    obtain ⟨_, g, _, e⟩ := h
    exact ⟨a.eval x, by simp [execOp, e], h'⟩)
/-- append to a row whose cells are listed. -/
theorem op_appendB {tt e : TypeId} {z : Value} {sz bytes i : Nat} {o : Ob} {rs : List RV} {els : List (List RV)} {x y : Operand} [hs : SL P tt e z sz bytes] (hx : ev env x = .own i) (ho : σ[i]? = some o) (hc : allRo o.cs = some rs) (hy : ev env y = .ro (.seq sz els)) (het : o.t = e) (hes : o.sz = sz)
    (hn : rs.length = (rs.length / sz) * sz) (hfree : FreeI i (σ.set i ⟨o.t, o.sz, []⟩)) (b1 : rs.length / sz + els.length ≤ 4294967296) (b2 : Nat.ble bytes 256 = true) (ht : t < C.n)
    (hk : RunsL P C ops rest k R ⟨(t, .own i) :: killEnv i env, σ.set i ⟨e, sz, (rs ++ els.flatten).map .ro⟩⟩) :
    RunsL P C ops (⟨some t, .call { callee := .builtin .append, args := #[x, y], argTypes := #[tt, tt] }, ty, pos, after, none⟩ :: rest) k R ⟨env, σ⟩ :=
  op_append (n := rs.length / sz) hx ho (allRo_eq hc) hy het hes hn (fun j ob hj => by
    by_cases hji : j = i
    · subst hji
      rw [ho] at hj; injection hj with hj; subst hj
      rw [allRo_eq hc]; exact onlys_ro _ _
    · exact hfree.at_ j ob (by rw [List.getElem?_set_ne (Ne.symm hji)]; exact hj)) (by omega) (by
    have h := Nat.le_of_ble_eq_true b2
    have := Nat.mul_le_mul b1 h
    omega) ht hk
/-- A pointer at an object that stays, lent. -/
theorem Lends.pin {i off g : Nat} {o : Ob} {rs : List RV} (ho : σ[i]? = some o) (h : LendsL C σ (o.cs.drop off) rs) : Lends C σ (.pin i off g) (.rp rs) := fun m u ok' hG hσ k1 k2 hu => by
  refine Lends.obj ho h m u ok' hG hσ k1 k2 ?_
  exact unpin_rel (v := .pin i off g) hu
/-- A nil slice in a cell is a row of the frame's own, with nothing in it. -/
theorem sim_nilCell (i p : Nat) {o : Ob} {e : TypeId} {sz : Nat} (hs : 0 < sz) (ho : σ[i]? = some o) (h : o.cs[p]? = some .nil) {a : Act} {w : World} (hsim : Sim C ⟨env, σ⟩ a w) : Sim C ⟨env, σ.set i ⟨o.t, o.sz, o.cs.set p (.own σ.length)⟩ ++ [⟨e, sz, []⟩]⟩ a w := by
  obtain ⟨h1, h2, φ, hG, hH⟩ := hsim
  have hil := (List.getElem?_eq_some_iff.1 ho).1
  obtain ⟨g1, g2⟩ := good_grow (φ' := upd φ σ.length none) (new := [⟨e, sz, []⟩]) hG (Below.refl _ _) (fun i hi => upd_ne (show i ≠ σ.length from Nat.ne_of_lt hi)) (fun j hj g hg => by
      simp at hj; subst hj; simp [upd_eq] at hg) (fun i j g hi hj _ _ => by simp at hi hj; omega) (fun j o hj => by
      cases j with
      | zero => simp at hj; subst hj; simp [upd_eq, ObRel]
      | succ j => simp at hj)
  -- the cell is that row
  have hlen : (σ.set i ⟨o.t, o.sz, o.cs.set p (.own σ.length)⟩ ++ [(⟨e, sz, []⟩ : Ob)]).length = (σ ++ [(⟨e, sz, []⟩ : Ob)]).length := by simp
  have hat : ∀ j, j ≠ i → (σ.set i ⟨o.t, o.sz, o.cs.set p (.own σ.length)⟩ ++ [(⟨e, sz, []⟩ : Ob)])[j]? = (σ ++ [(⟨e, sz, []⟩ : Ob)])[j]? := fun j hj => by
    rcases Nat.lt_or_ge j σ.length with h | h
    · rw [List.getElem?_append_left (by simpa using h), List.getElem?_append_left h, List.getElem?_set_ne (Ne.symm hj)]
    · rw [List.getElem?_append_right (by simpa using h), List.getElem?_append_right h]; simp
  have hati : (σ.set i ⟨o.t, o.sz, o.cs.set p (.own σ.length)⟩ ++ [(⟨e, sz, []⟩ : Ob)])[i]? = some ⟨o.t, o.sz, o.cs.set p (.own σ.length)⟩ := by
    rw [List.getElem?_append_left (by simpa using hil), List.getElem?_set_self hil]
  have hati0 : (σ ++ [(⟨e, sz, []⟩ : Ob)])[i]? = some o := by rw [List.getElem?_append_left hil]; exact ho
  have hK : Keeps (fun _ => True) ⟨w, upd φ σ.length none, σ ++ [⟨e, sz, []⟩], C.ok⟩ ⟨w, upd φ σ.length none, σ.set i ⟨o.t, o.sz, o.cs.set p (.own σ.length)⟩ ++ [⟨e, sz, []⟩], C.ok⟩ := by
    refine ⟨⟨Nat.le_refl _, fun b _ hb => ⟨⟨hb.1, fun j hj => hb.2 j (by rw [← hlen]; exact hj)⟩, rfl⟩⟩, fun j _ hj => ⟨by rw [← hlen] at hj; exact hj, rfl⟩, fun j ob _ hj => ?_, fun j g us t _ _ _ hh => ⟨us, hh, rfl⟩⟩
    by_cases e : j = i
    · subst e
      simp only at hj
      rw [hati0] at hj; injection hj with hj; subst hj
      exact ⟨_, hati, by simp⟩
    · exact ⟨ob.cs, by simp only; rw [hat j e]; exact hj, rfl⟩
  refine ⟨h1, h2, upd φ σ.length none, ⟨rfl, fun a b g ha hb => g1.inj a b g (by rw [← hlen]; exact ha) (by rw [← hlen]; exact hb), fun j ob hj => ?_, fun j g hj => g1.mine j g (by rw [← hlen]; exact hj), g1.frm⟩, (hH.keeps g2).keeps hK⟩
  by_cases e' : j = i
  · subst e'
    simp only at hj
    rw [hati] at hj; injection hj with hj; subst hj
    have h0 := g1.ob j o hati0
    show ObRel _ _ (upd φ σ.length none j)
    simp only at h0
    cases hφ : upd φ σ.length none j with
    | none =>
      rw [hφ] at h0
      simp only [ObRel] at h0
      rw [h0] at h; simp at h
    | some g =>
      rw [hφ] at h0
      obtain ⟨us, q1, q2, q3⟩ := h0
      refine ⟨us, q1, by simpa using q2, fun m v hm => ?_⟩
      simp only [List.getElem?_set] at hm
      split at hm
      · rename_i hpm
        subst hpm
        split at hm
        · injection hm with hm; subst hm
          obtain ⟨u, k1, k2, k3⟩ := q3 p _ h
          simp only [AV.rel, RV.rel] at k3
          subst k3
          refine ⟨_, k1, rfl, ?_⟩
          simp only [AV.rel]
          exact ⟨⟨e, sz, []⟩, 0, by rw [List.getElem?_append_right (by simp)]; simp, by simp, hs, .inl ⟨by first | rfl | trivial, by first | rfl | trivial, upd_eq⟩⟩
        · cases hm
      · obtain ⟨u, k1, k2, k3⟩ := q3 m v hm
        exact ⟨u, k1, k2, AV.rel_keeps hK _ _ (AV.only_true _) k3⟩
  · simp only at hj
    rw [hat j e'] at hj
    exact (g1.ob j ob hj).keeps hK fun _ _ => rfl
theorem RunsL.nilCell {l : List Oper} (i p : Nat) {o : Ob} {e : TypeId} {sz : Nat} (hs : 0 < sz) (ho : σ[i]? = some o) (h : o.cs[p]? = some .nil) (hk : RunsL P C ops l k R ⟨env, σ.set i ⟨o.t, o.sz, o.cs.set p (.own σ.length)⟩ ++ [⟨e, sz, []⟩]⟩) : RunsL P C ops l k R ⟨env, σ⟩ :=
  ⟨fun a w hsim => hk.run a w (sim_nilCell i p hs ho h hsim)⟩
theorem Runs.nilCell (i p : Nat) {o : Ob} {e : TypeId} {sz : Nat} (hs : 0 < sz) (ho : σ[i]? = some o) (h : o.cs[p]? = some .nil) (hk : Runs P C k R ⟨env, σ.set i ⟨o.t, o.sz, o.cs.set p (.own σ.length)⟩ ++ [⟨e, sz, []⟩]⟩) : Runs P C k R ⟨env, σ⟩ :=
  ⟨fun a w hsim => hk.run a w (sim_nilCell i p hs ho h hsim)⟩
/-- A call that reads what the frame owns, and makes a row of plain cells: taken as data. -/
theorem pu_callSL {gd : Option (Nat × Bool)} {f : FuncId} {fn : Func} {xs : Array Operand} {ats : Array TypeId} {args : List RV} {e : TypeId} {sz : Nat} {vs : List Value} {els : List (List RV)} [hfn : FN P f fn] (hf : AC P f args fun rr => rr = .row e sz (vs.map .c)) (hels : els.flatten = vs.map .c) (hl : ∀ x ∈ els, x.length = sz) (ha : LendsL C σ (xs.toList.map (ev env)) args) :
    Pur P C ⟨some t, .call { callee := .value (.func f), args := xs, argTypes := ats }, ty, pos, after, gd⟩ env σ (.ro (.seq sz els)) := by
  refine ⟨fun a m hG hσ hH K Q hK => ?_⟩
  have hr := LendsL.rels (ok' := fun _ => True) hG hσ (fun _ _ => trivial) (fun _ _ _ _ => trivial) ha _ (rels_eval (a := a) (m := m) xs.toList fun x hx => hH x (by simp [Op.operands, Call.operands]; exact .inr (by simpa using hx)))
  unfold Oper.wp
  rw [execOp_call_go, run_call hfn]
  simp only [Oper.upon]
  refine (hf m.w (fun _ => True) _ (fun _ _ => trivial) (by simpa using hr)).mono ?_
  rintro e' w' ⟨u, rr, bs, rfl, rfl, h1, _, h3, h4⟩
  refine hK u w' h4 ?_
  simp only [RR.rel] at h1
  obtain ⟨n, xs', k1, k2, k3, k4, k5, rfl⟩ := h1
  have e2 := agg_flat (m := ⟨w', fun _ => none, [], fun b => True ∧ b ∉ u.ownBlock.toList⟩) vs xs' (RV.rels_mono ⟨Nat.le_refl _, fun b _ hb => ⟨⟨hb, fun i hi => by simp at hi⟩, rfl⟩⟩ _ _ k3)
  subst e2
  simp only [AV.rel]
  refine seals_rel (ok := m.ok) (ok' := m.ok) (fun b hb => hb) (.row e sz (xs'.map .c)) (.seq sz els) u u.ownBlock.toList (by simp only [Seals]; exact ⟨els, rfl, hels, hl⟩) (by simp only [RR.rel]; exact ⟨n, xs', k1, k2, rels_const xs', k4, k5, trivial⟩) fun b hb => ok_args hG b (h3 b hb).1
/-- A field, of one cell, of a struct that is data. -/
theorem pu_fieldV {gd : Option (Nat × Bool)} {s : TypeId} {x : Operand} {f off : Nat} {rs : List RV} {r : RV} {fields : Array Field} {fl : Field} (hu : P.underlying s = some (.struct fields)) (hf : fields[f]? = some fl) (ho : fl.offset = off) [h1 : T1 P fl.type] (hx : ev env x = .ro (.agg rs)) (hr : rs[off]? = some r) :
    Pur P C ⟨some t, .field s x f, ty, pos, after, gd⟩ env σ (.ro r) :=
  Pur.of (fun a m hG hσ hH => by
    have h := hH x (by simp [Op.operands, Call.operands])
    rw [hx] at h
    simp only [AV.rel, RV.rel] at h
    obtain ⟨us, e, hr'⟩ := h
    obtain ⟨u, k1, k2⟩ := RV.rels_at rs _ hr' off r hr
    have k1' : us[off]? = some u := by simpa using k1
    refine ⟨u, ?_, by simpa only [AV.rel] using k2⟩
    simp [execOp, e, Instr.field, run_underlying hu, hf, ho, asAgg, part, run_isAgg1 (P := P) (t := fl.type), k1'])
end
end Go.Proofs.YtnbjncafoahclaaDoor
/- Wrapping at 64 bits. -/
namespace Go.Proofs.YtnbjncafoahclaaDoor
set_option linter.unusedSimpArgs false
set_option linter.unusedVariables false
open Go.RowKit
abbrev w64 (x : Int) : Int := IntKind.i64.wrap x
theorem w64_add (x y : Int) : w64 (w64 x + y) = w64 (x + y) := by simp only [w64, IntKind.wrap, IntKind.bits, IntKind.signed]; simp; omega
theorem w64_add' (x y : Int) : w64 (x + w64 y) = w64 (x + y) := by simp only [w64, IntKind.wrap, IntKind.bits, IntKind.signed]; simp; omega
theorem w64_id {x : Int} (h : -9223372036854775808 ≤ x ∧ x ≤ 9223372036854775807) : w64 x = x := by simp only [w64, IntKind.wrap, IntKind.bits, IntKind.signed]; simp; omega
end Go.Proofs.YtnbjncafoahclaaDoor
/- Functions that return a pointer at a new object. Over any program. -/
namespace Go.Proofs.YtnbjncafoahclaaDoor
set_option linter.unusedSimpArgs false
set_option linter.unusedVariables false
open Go.RowKit
open AV (Mem Keeps)
/-- With this data as arguments the function returns a pointer at a new object with these cells. -/
def ANew (P : Program) (f : FuncId) (args : List RV) (e : TypeId) (cs : List RV) : Prop :=
  ∀ (w : World) (ok : Nat → Prop) (us : Array Value), (∀ b, w.heap.size ≤ b → ok b) → RV.rels w ok args us.toList →
    Calls P f us w fun ee w' => ∃ g vs, ee = .returned (.pointer (some ⟨g, 0, none⟩)) ∧ w.heap.size ≤ g ∧ w'.heap[g]? = some (.cells vs e (0, 0)) ∧ cs.length ≤ vs.size ∧
      (∀ (j : Nat) r, cs[j]? = some r → ∃ u, vs[j]? = some u ∧ u.oneCell' = true ∧ RV.rel w' (fun b => ok b ∧ b ≠ g) r u) ∧ Below w.heap.size w w'
def EndsN (P : Program) (C : Ctx) (fn : Func) (e : TypeId) (cs : List RV) (a : Act) (w : World) : Prop :=
  a.defers = [] ∧ ∃ g vs, (results fn a.tmps).run P w = .ok (.pointer (some ⟨g, 0, none⟩)) w ∧ C.w0.heap.size ≤ g ∧ w.heap[g]? = some (.cells vs e (0, 0)) ∧ cs.length ≤ vs.size ∧
      (∀ (j : Nat) r, cs[j]? = some r → ∃ u, vs[j]? = some u ∧ u.oneCell' = true ∧ RV.rel w (fun b => C.ok b ∧ b ≠ g) r u) ∧ Below C.w0.heap.size C.w0 w
theorem anew_enter {P : Program} {f : FuncId} {fn : Func} {c : Code} {args : List RV} {e : TypeId} {cs : List RV} (hf : P.funcs[f]? = some fn) (hb : fn.body = some c) (n : Nat) (hn : fn.ntmps = n) (hl : args.length ≤ n)
    (h : ∀ C : Ctx, C.n = n → (∀ b, ¬ C.mu b) → Runs P C [.code c] (EndsN P C fn e cs) ⟨startEnv 0 args, []⟩) : ANew P f args e cs := by
  intro w ok us h0 hu
  have hlen := RV.rels_len args _ hu
  refine calls_of_fin hf hb ?_
  have hs : Sim ⟨w, ok, fun _ => False, n⟩ ⟨startEnv 0 args, []⟩ { tmps := us ++ Array.replicate (fn.ntmps - us.size) undef, defers := [] } w := by
    refine ⟨rfl, by simp at hlen ⊢; omega, fun _ => none, ⟨rfl, fun i j g hi => by simp at hi, fun i o hi => by simp at hi, fun i g hi => by simp at hi, ⟨rfl, rfl, rfl, Nat.le_refl _, fun _ _ _ => rfl, h0⟩⟩, fun t => ?_⟩
    rw [start_look]
    simp only [Nat.zero_le, if_true, Nat.sub_zero]
    cases hr : args[t]? with
    | none => simp [AV.rel]
    | some r =>
      obtain ⟨u, e1, e2⟩ := RV.rels_at args _ hu t r hr
      have ht : t < us.size := by have := (List.getElem?_eq_some_iff.1 e1).1; simpa using this
      simp only [AV.rel]
      have : (us ++ Array.replicate (fn.ntmps - us.size) undef).getD t undef = u := by
        rw [Array.getD_eq_getD_getElem?, Array.getElem?_append_left ht]
        have : us[t]? = some u := by simpa using e1
        simp [this]
      rw [this]
      exact RV.rel_mono ⟨Nat.le_refl _, fun b _ hb => ⟨⟨hb, fun i hi => by simp at hi⟩, rfl⟩⟩ r u e2
  have hr := (h ⟨w, ok, fun _ => False, n⟩ rfl (fun _ h => h)).run _ w hs
  intro b cs'
  obtain ⟨a', w', todo, ⟨hd, g, vs, hv, h1, h2, h3, h4, h5⟩, hst⟩ := hr b cs'
  exact ⟨a', w', todo, ⟨hd, _, hv, g, vs, rfl, h1, h2, h3, h4, h5⟩, hst⟩
theorem endsNew {P : Program} {C : Ctx} {fn : Func} {e : TypeId} {cs : List RV} {S : St} {t i sz : Nat} (hm : ∀ b, ¬ C.mu b) (hr : fn.results = #[.tmp t]) (h1 : look S.env t = .obj i 0) (h2 : S.σ[i]? = some ⟨e, sz, cs.map .ro⟩) : ∀ a w, Sim C S a w → EndsN P C fn e cs a w := by
  rintro a w ⟨s1, s2, φ, hG, hH⟩
  have hu := hH t
  rw [h1] at hu
  simp only [AV.rel] at hu
  obtain ⟨hi, g, hg, eu⟩ := hu
  have hob := hG.ob i _ h2
  rw [show (⟨w, φ, S.σ, C.ok⟩ : Mem).φ i = some g from hg] at hob
  obtain ⟨vs, q1, q2, q3⟩ := hob
  refine ⟨s1, g, vs, by rw [results_eq, hr]; simp [resRun, eu], (hG.mine i g hi hg).resolve_left (hm g), q1, by simpa using q2, fun j r hj => ?_, hG.frm.below0 hm⟩
  obtain ⟨u, k1, k2, k3⟩ := q3 j (.ro r) (by rw [List.getElem?_map, hj]; rfl)
  simp only [AV.rel] at k3
  exact ⟨u, k1, k2, RV.rel_mono ⟨Nat.le_refl _, fun b _ hb => ⟨⟨hb.1, fun e => hb.2 i hi (e ▸ hg)⟩, rfl⟩⟩ r u k3⟩
section
variable {P : Program} {C : Ctx} {ops : Array Oper} {rest : List Oper} {k : List Item} {R : Act → World → Prop} {env : Env} {σ : List Ob} {t : Nat} {ty : TypeId} {pos : String} {after : Array Edge}
theorem op_callNew {f : FuncId} {fn : Func} {xs : Array Operand} {ats : Array TypeId} {args : List RV} {e : TypeId} {cs : List RV} [hfn : FN P f fn] (hf : ANew P f args e cs) (ha : xs.toList.map (ev env) = args.map .ro) (ht : t < C.n)
    (hk : RunsL P C ops rest k R ⟨(t, .obj σ.length 0) :: env, σ ++ [⟨e, 0, cs.map .ro⟩]⟩) :
    RunsL P C ops (⟨some t, .call { callee := .value (.func f), args := xs, argTypes := ats }, ty, pos, after, none⟩ :: rest) k R ⟨env, σ⟩ := by
  refine ⟨fun a w ⟨s1, s2, φ, hG, hH⟩ => ?_⟩
  refine wpList_plain rfl fun K hK' => ?_
  have hr := FitsL.rels (ha ▸ FitsL.ros args) _ (rels_eval (a := a) (m := ⟨w, φ, σ, C.ok⟩) xs.toList fun x hx => ev_rel hH x)
  unfold Oper.wp
  rw [execOp_call_go, run_call hfn]
  simp only [Oper.upon]
  refine (hf w _ _ (ok_args hG) (by simpa using hr)).mono ?_
  rintro ee w' ⟨g, vs, rfl, h1, h2, h3, h4, h5⟩
  obtain ⟨g1, g2⟩ := good_grow (φ' := upd φ σ.length (some g)) (new := [⟨e, 0, cs.map .ro⟩]) hG h5 (fun i hi => upd_ne (show i ≠ σ.length from Nat.ne_of_lt hi)) (fun j hj b hb => by
      simp at hj; subst hj; simp [upd_eq] at hb; subst hb; exact h1) (fun i j b hi hj _ _ => by simp at hi hj; omega) (fun j o hj => by
      cases j with
      | succ j => simp at hj
      | zero =>
        simp at hj; subst hj
        simp only [Nat.add_zero, upd_eq, ObRel]
        refine ⟨vs, h2, by simpa using h3, fun j v hv => ?_⟩
        rw [List.getElem?_map, Option.map_eq_some_iff] at hv
        obtain ⟨r, hr', rfl⟩ := hv
        obtain ⟨u, k1, k2, k3⟩ := h4 j r hr'
        refine ⟨u, k1, k2, ?_⟩
        simp only [AV.rel]
        refine RV.rel_mono ⟨Nat.le_refl _, fun b _ hb => ⟨⟨hb.1.1, fun i hi he => ?_⟩, rfl⟩⟩ r u k3
        simp only [List.length_append, List.length_cons, List.length_nil] at hi
        by_cases hiq : i = σ.length
        · subst hiq; simp only [upd_eq, Option.some.injEq] at he; exact hb.2 he.symm
        · simp only [upd_ne hiq] at he; exact hb.1.2 i (by simp only; omega) he)
  refine hK' _ _ (hk.run _ _ ⟨s1, by simp [Act.put, s2], _, g1, (hH.keeps g2).put (by rw [s2]; exact ht) ?_⟩)
  simp only [AV.rel]
  exact ⟨by simp, g, upd_eq, rfl⟩
end
end Go.Proofs.YtnbjncafoahclaaDoor
/- The draws' cursor: what it hands out, within bounds. -/
namespace Go.Proofs.YtnbjncafoahclaaDoor
set_option linter.unusedSimpArgs false
set_option linter.unusedVariables false
open Go.RowKit
open AV (Mem Keeps)
theorem and_255 (n : Int) : bits .and .i64 n 255 = n % 256 := by
  have h1 : (BitVec.ofInt 64 255).toNat = 2 ^ 8 - 1 := by decide
  have key : (BitVec.ofInt 64 n &&& BitVec.ofInt 64 255).toNat = (n % ((2 ^ 64 : Nat) : Int)).toNat % 2 ^ 8 := by
    rw [BitVec.toNat_and, BitVec.toNat_ofInt, h1, Nat.and_two_pow_sub_one_eq_mod]
  show IntKind.i64.wrap ((BitVec.ofInt 64 n &&& BitVec.ofInt 64 255).toNat : Nat) = n % 256
  rw [key, IntKind.wrap_i64]
  omega
theorem and_30 (n : Int) : bits .and .i64 n 1073741823 = n % 1073741824 := by
  have h1 : (BitVec.ofInt 64 1073741823).toNat = 2 ^ 30 - 1 := by decide
  have key : (BitVec.ofInt 64 n &&& BitVec.ofInt 64 1073741823).toNat = (n % ((2 ^ 64 : Nat) : Int)).toNat % 2 ^ 30 := by
    rw [BitVec.toNat_and, BitVec.toNat_ofInt, h1, Nat.and_two_pow_sub_one_eq_mod]
  show IntKind.i64.wrap ((BitVec.ofInt 64 n &&& BitVec.ofInt 64 1073741823).toNat : Nat) = n % 1073741824
  rw [key, IntKind.wrap_i64]
  omega
section
variable {P : Program} {C : Ctx} {env : Env} {σ : List Ob} {t : Nat} {ty : TypeId} {pos : String} {after : Array Edge} {gd : Option (Nat × Bool)} {xt yt : TypeId} {x y : Operand} {p q : Int}
theorem pu_xor (hx : ev env x = .int p) (hy : ev env y = .int q) : Pur P C ⟨some t, .binOp .xor xt x y yt, ty, pos, after, gd⟩ env σ (.int (bits .xor .i64 p q)) := pu_bin hx hy (fun w => by simp [go_sem])
theorem pu_and255 (hx : ev env x = .int p) (hy : ev env y = .int 255) : Pur P C ⟨some t, .binOp .and xt x y yt, ty, pos, after, gd⟩ env σ (.int (p % 256)) := pu_bin hx hy (fun w => by rw [← and_255]; simp [go_sem])
theorem pu_and30 (hx : ev env x = .int p) (hy : ev env y = .int 1073741823) : Pur P C ⟨some t, .binOp .and xt x y yt, ty, pos, after, gd⟩ env σ (.int (p % 1073741824)) := pu_bin hx hy (fun w => by rw [← and_30]; simp [go_sem])
end
/-- The cursor's object. -/
def curO (b : List UInt8) (i h : Int) : List Ob := [⟨54, 0, [.ro (bytesR b), .int i, .int h]⟩]
theorem curO_free (b : List UInt8) (i h : Int) : FreeO 1 (curO b i h) := by
  simp only [curO, FreeO]
  exact ⟨by simp [AV.onlys, AV.only], trivial⟩
instance : TB Tryd.prog 54 [(0, 1), (1, 1), (2, 1)] [.slice none 0 0, .int .i64 0, .int .i64 0] := ⟨_, _, _, rfl, rfl, rfl, rfl, by kernel_rfl, by decide⟩
/-- A cursor that stands within its bytes. -/
def CurOk (b : List UInt8) (i : Int) : Prop := 0 ≤ i ∧ i ≤ b.length
def curH (h : Int) : Int := w64 (w64 (h * 6364136223846793005) + 1442695040888963407)
def curX (h : Int) : Int := bits .xor .i64 (curH h / 8589934592) (curH h / 140737488355328) % 256
theorem l1Byte_am (b : List UInt8) (hb : b.length ≤ 1048576) (i h : Int) (hi : CurOk b i) : ∃ x i' h', 0 ≤ x ∧ x ≤ 255 ∧ CurOk b i' ∧ AM Tryd.prog 34 (curO b i h) [0] [.obj 0 0] (curO b i' h') (.int x) := by
  have hlb : (b.map fun z => [RV.u8 z]).length = b.length := List.length_map ..
  unfold CurOk at hi
  have hx0 : 0 ≤ curX h ∧ curX h ≤ 255 := by unfold curX; omega
  by_cases hlt : i < b.length
  · obtain ⟨c, hc⟩ : ∃ c, b[i.toNat]? = some c := ⟨_, List.getElem?_eq_getElem (by omega)⟩
    have hcl := c.toNat_lt
    refine ⟨(curX h + c.toNat) % 256, i + 1, curH h, by omega, by omega, ⟨by omega, by omega⟩, am_enter Tryd.func34 rfl _ Tryd.ntmps34 (by simp) (by simp) fun C gs hn => ?_⟩
    repeat' (first
      | refine RunsL.step tabOk hn rfl ?_
      | refine RunsL.nil ?_
      | refine Runs.toRegion 30 rfl ?_
      | ((first | refine RunsL.pe hn rfl rfl rfl ?_ | refine RunsD.pe rfl rfl ?_); first
        | refine ⟨_, pu_nilCheckP rfl, ?_⟩
        | refine ⟨_, pu_mulW rfl rfl, ?_⟩
        | refine ⟨_, pu_addW (t := 10) rfl rfl, ?_⟩
        | refine ⟨_, pu_shrK 8589934592 rfl rfl (by decide) (by decide), ?_⟩
        | refine ⟨_, pu_shrK 140737488355328 rfl rfl (by decide) (by decide), ?_⟩
        | refine ⟨_, pu_xor rfl rfl, ?_⟩
        | refine ⟨_, pu_and255 rfl rfl, ?_⟩
        | refine ⟨_, pu_ofU8 rfl, ?_⟩
        | refine ⟨_, pu_add rfl rfl (by have := c.toNat_lt; omega), ?_⟩)
      | (refine Runs.ctls 30 rfl ?_; first | refine Runs.cond_t rfl ?_ | refine Runs.cond_f rfl ?_ | ((first | refine Runs.cond_yes rfl ?_ ?_ | refine Runs.cond_nno rfl ?_ ?_); · first | omega | rfl | assumption | (simp only [List.length_map]; omega)) | ((first | refine Runs.cond_no rfl ?_ ?_ | refine Runs.cond_nyes rfl ?_ ?_); · first | omega | rfl | assumption | (simp only [List.length_map]; omega)) | refine Runs.cond_dec rfl (fun h => ?_) (fun h => ?_) | refine Runs.cond_ndec rfl (fun h => ?_) (fun h => ?_) | refine Runs.cond_nb rfl (fun h => ?_) (fun h => ?_) | refine Runs.cond_b rfl (fun h => ?_) (fun h => ?_) | refine Runs.ret (ends_ro hm rfl rfl ?_) | exact Runs.ret (ends_cellR hm rfl rfl rfl (Nat.le_of_ble_eq_true rfl) rfl rfl))
      | refine op_box rfl (tl hn rfl) ?_
      | refine op_storeF rfl rfl rfl rfl (Nat.le_of_ble_eq_true rfl) ?_
      | refine op_alloc (tl hn rfl) ?_
      | refine op_storeN rfl rfl rfl rfl (Nat.le_of_ble_eq_true rfl) ?_
      | refine RunsD.step tabOk hn rfl rfl ?_
      | refine RunsD.nil ?_
      | refine Runs.toDraw 30 mixed hn rfl (by kernel_rfl) rfl ?_
      | ((first | refine RunsL.pe hn rfl rfl rfl ?_ | refine RunsD.pe rfl rfl ?_); first
        | refine ⟨_, pu_add rfl rfl (by omega), ?_⟩
        | refine ⟨_, pu_indexAddr_map rfl rfl (by omega) (by assumption), ?_⟩
        | refine ⟨_, pu_sub rfl rfl (by omega), ?_⟩
        | refine ⟨_, pu_pick_b rfl rfl rfl, ?_⟩
        | refine ⟨_, pu_mul rfl rfl (by omega), ?_⟩
        | refine ⟨_, pu_build rfl rfl rfl rfl rfl rfl, ?_⟩))
    all_goals exact Runs.ctls 30 rfl (Runs.ret (endsA1 (fun i hi => by simp at hi; subst hi; exact ⟨0, 0, rfl⟩) rfl rfl rfl))
  · refine ⟨curX h, i, curH h, by omega, by omega, ⟨by omega, by omega⟩, am_enter Tryd.func34 rfl _ Tryd.ntmps34 (by simp) (by simp) fun C gs hn => ?_⟩
    repeat' (first
      | refine RunsL.step tabOk hn rfl ?_
      | refine RunsL.nil ?_
      | refine Runs.toRegion 30 rfl ?_
      | ((first | refine RunsL.pe hn rfl rfl rfl ?_ | refine RunsD.pe rfl rfl ?_); first
        | refine ⟨_, pu_nilCheckP rfl, ?_⟩
        | refine ⟨_, pu_mulW rfl rfl, ?_⟩
        | refine ⟨_, pu_addW (t := 10) rfl rfl, ?_⟩
        | refine ⟨_, pu_shrK 8589934592 rfl rfl (by decide) (by decide), ?_⟩
        | refine ⟨_, pu_shrK 140737488355328 rfl rfl (by decide) (by decide), ?_⟩
        | refine ⟨_, pu_xor rfl rfl, ?_⟩
        | refine ⟨_, pu_and255 rfl rfl, ?_⟩
        | refine ⟨_, pu_ofU8 rfl, ?_⟩)
      | (refine Runs.ctls 30 rfl ?_; first | refine Runs.cond_t rfl ?_ | refine Runs.cond_f rfl ?_ | ((first | refine Runs.cond_yes rfl ?_ ?_ | refine Runs.cond_nno rfl ?_ ?_); · first | omega | rfl | assumption | (simp only [List.length_map]; omega)) | ((first | refine Runs.cond_no rfl ?_ ?_ | refine Runs.cond_nyes rfl ?_ ?_); · first | omega | rfl | assumption | (simp only [List.length_map]; omega)) | refine Runs.cond_dec rfl (fun h => ?_) (fun h => ?_) | refine Runs.cond_ndec rfl (fun h => ?_) (fun h => ?_) | refine Runs.cond_nb rfl (fun h => ?_) (fun h => ?_) | refine Runs.cond_b rfl (fun h => ?_) (fun h => ?_) | refine Runs.ret (ends_ro hm rfl rfl ?_) | exact Runs.ret (ends_cellR hm rfl rfl rfl (Nat.le_of_ble_eq_true rfl) rfl rfl))
      | refine op_box rfl (tl hn rfl) ?_
      | refine op_storeF rfl rfl rfl rfl (Nat.le_of_ble_eq_true rfl) ?_
      | refine op_alloc (tl hn rfl) ?_
      | refine op_storeN rfl rfl rfl rfl (Nat.le_of_ble_eq_true rfl) ?_
      | refine RunsD.step tabOk hn rfl rfl ?_
      | refine RunsD.nil ?_
      | refine Runs.toDraw 30 mixed hn rfl (by kernel_rfl) rfl ?_
      | ((first | refine RunsL.pe hn rfl rfl rfl ?_ | refine RunsD.pe rfl rfl ?_); first
        | refine ⟨_, pu_add rfl rfl (by omega), ?_⟩
        | refine ⟨_, pu_indexAddr_map rfl rfl (by omega) (by assumption), ?_⟩
        | refine ⟨_, pu_sub rfl rfl (by omega), ?_⟩
        | refine ⟨_, pu_pick_b rfl rfl rfl, ?_⟩
        | refine ⟨_, pu_mul rfl rfl (by omega), ?_⟩
        | refine ⟨_, pu_build rfl rfl rfl rfl rfl rfl, ?_⟩))
    all_goals exact Runs.ctls 30 rfl (Runs.ret (endsA1 (fun i hi => by simp at hi; subst hi; exact ⟨0, 0, rfl⟩) rfl rfl rfl))
end Go.Proofs.YtnbjncafoahclaaDoor
/- The draws' cursor: numbers below a bound, an element of a list, the start. -/
namespace Go.Proofs.YtnbjncafoahclaaDoor
set_option linter.unusedSimpArgs false
set_option linter.unusedVariables false
open Go.RowKit
open AV (Mem Keeps)
theorem l1Below_am (b : List UInt8) (hb : b.length ≤ 1048576) (i h : Int) (hi : CurOk b i) (n : Int) (hn' : n ≤ 16777216) : ∃ x i' h', (n ≤ 0 → x = 0) ∧ (0 < n → 0 ≤ x ∧ x < n) ∧ CurOk b i' ∧
    AM Tryd.prog 31 (curO b i h) [0] [.obj 0 0, .int n] (curO b i' h') (.int x) := by
  by_cases h1 : n ≤ 0
  · refine ⟨0, i, h, fun _ => rfl, by omega, hi, am_enter Tryd.func31 rfl _ Tryd.ntmps31 (by simp) (by simp) fun C gs hn => ?_⟩
    repeat' (first
      | refine RunsL.step tabOk hn rfl ?_
      | refine RunsL.nil ?_
      | refine Runs.toRegion 30 rfl ?_
      | (refine Runs.ctls 30 rfl ?_; first | refine Runs.cond_t rfl ?_ | refine Runs.cond_f rfl ?_ | ((first | refine Runs.cond_yes rfl ?_ ?_ | refine Runs.cond_nno rfl ?_ ?_); · first | omega | rfl | assumption | (simp only [List.length_map]; omega)) | ((first | refine Runs.cond_no rfl ?_ ?_ | refine Runs.cond_nyes rfl ?_ ?_); · first | omega | rfl | assumption | (simp only [List.length_map]; omega)) | refine Runs.cond_dec rfl (fun h => ?_) (fun h => ?_) | refine Runs.cond_ndec rfl (fun h => ?_) (fun h => ?_) | refine Runs.cond_nb rfl (fun h => ?_) (fun h => ?_) | refine Runs.cond_b rfl (fun h => ?_) (fun h => ?_) | refine Runs.ret (ends_ro hm rfl rfl ?_) | exact Runs.ret (ends_cellR hm rfl rfl rfl (Nat.le_of_ble_eq_true rfl) rfl rfl))
      | refine op_box rfl (tl hn rfl) ?_
      | refine op_storeF rfl rfl rfl rfl (Nat.le_of_ble_eq_true rfl) ?_
      | refine op_alloc (tl hn rfl) ?_
      | refine op_storeN rfl rfl rfl rfl (Nat.le_of_ble_eq_true rfl) ?_
      | (refine RunsL.pe hn rfl rfl rfl ?_; first
        | refine ⟨_, pu_add rfl rfl (by omega), ?_⟩
        | refine ⟨_, pu_indexAddr_map rfl rfl (by omega) (by assumption), ?_⟩
        | refine ⟨_, pu_sub rfl rfl (by omega), ?_⟩
        | refine ⟨_, pu_pick_b rfl rfl rfl, ?_⟩
        | refine ⟨_, pu_mul rfl rfl (by omega), ?_⟩
        | refine ⟨_, pu_build rfl rfl rfl rfl rfl rfl, ?_⟩))
    all_goals exact Runs.ctls 30 rfl (Runs.ret (endsA1 (fun i hi => by simp at hi; subst hi; exact ⟨0, 0, rfl⟩) rfl rfl rfl))
  obtain ⟨x1, i1, h1', p1, q1, c1, A1⟩ := l1Byte_am b hb i h hi
  by_cases h2 : n ≤ 256
  · have hm := Int.emod_lt_of_pos x1 (show 0 < n by omega)
    have hm0 := Int.emod_nonneg x1 (show n ≠ 0 by omega)
    refine ⟨x1 % n, i1, h1', by omega, fun _ => ⟨hm0, hm⟩, c1, am_enter Tryd.func31 rfl _ Tryd.ntmps31 (by simp) (by simp) fun C gs hn => ?_⟩
    repeat' (first
      | refine op_callP 1 A1 rfl (by simp [AV.onlys, AV.only]) (by simp [AV.only, AV.onlys]) rfl rfl rfl (curO_free _ _ _) (curO_free _ _ _) rfl trivial (fun t h => by injection h with h; subst h; exact tl hn rfl) ?_
      | refine RunsL.step tabOk hn rfl ?_
      | refine RunsL.nil ?_
      | refine Runs.toRegion 30 rfl ?_
      | (refine RunsL.pe hn rfl rfl rfl ?_; first
        | refine ⟨_, pu_rem rfl rfl (by omega), ?_⟩)
      | (refine Runs.ctls 30 rfl ?_; first | refine Runs.cond_t rfl ?_ | refine Runs.cond_f rfl ?_ | ((first | refine Runs.cond_yes rfl ?_ ?_ | refine Runs.cond_nno rfl ?_ ?_); · first | omega | rfl | assumption | (simp only [List.length_map]; omega)) | ((first | refine Runs.cond_no rfl ?_ ?_ | refine Runs.cond_nyes rfl ?_ ?_); · first | omega | rfl | assumption | (simp only [List.length_map]; omega)) | refine Runs.cond_dec rfl (fun h => ?_) (fun h => ?_) | refine Runs.cond_ndec rfl (fun h => ?_) (fun h => ?_) | refine Runs.cond_nb rfl (fun h => ?_) (fun h => ?_) | refine Runs.cond_b rfl (fun h => ?_) (fun h => ?_) | refine Runs.ret (ends_ro hm rfl rfl ?_) | exact Runs.ret (ends_cellR hm rfl rfl rfl (Nat.le_of_ble_eq_true rfl) rfl rfl))
      | refine op_box rfl (tl hn rfl) ?_
      | refine op_storeF rfl rfl rfl rfl (Nat.le_of_ble_eq_true rfl) ?_
      | refine op_alloc (tl hn rfl) ?_
      | refine op_storeN rfl rfl rfl rfl (Nat.le_of_ble_eq_true rfl) ?_
      | (refine RunsL.pe hn rfl rfl rfl ?_; first
        | refine ⟨_, pu_add rfl rfl (by omega), ?_⟩
        | refine ⟨_, pu_indexAddr_map rfl rfl (by omega) (by assumption), ?_⟩
        | refine ⟨_, pu_sub rfl rfl (by omega), ?_⟩
        | refine ⟨_, pu_pick_b rfl rfl rfl, ?_⟩
        | refine ⟨_, pu_mul rfl rfl (by omega), ?_⟩
        | refine ⟨_, pu_build rfl rfl rfl rfl rfl rfl, ?_⟩))
    all_goals exact Runs.ctls 30 rfl (Runs.ret (endsA1 (fun i hi => by simp at hi; subst hi; exact ⟨0, 0, rfl⟩) rfl rfl rfl))
  obtain ⟨x2, i2, h2', p2, q2, c2, A2⟩ := l1Byte_am b hb i1 h1' c1
  obtain ⟨x3, i3, h3', p3, q3, c3, A3⟩ := l1Byte_am b hb i2 h2' c2
  have hm := Int.emod_lt_of_pos (x1 * 65536 + x2 * 256 + x3) (show 0 < n by omega)
  have hm0 := Int.emod_nonneg (x1 * 65536 + x2 * 256 + x3) (show n ≠ 0 by omega)
  refine ⟨(x1 * 65536 + x2 * 256 + x3) % n, i3, h3', by omega, fun _ => ⟨hm0, hm⟩, c3, am_enter Tryd.func31 rfl _ Tryd.ntmps31 (by simp) (by simp) fun C gs hn => ?_⟩
  repeat' (first
    | refine op_callP 1 A1 rfl (by simp [AV.onlys, AV.only]) (by simp [AV.only, AV.onlys]) rfl rfl rfl (curO_free _ _ _) (curO_free _ _ _) rfl trivial (fun t h => by injection h with h; subst h; exact tl hn rfl) ?_
    | refine op_callP 1 A2 rfl (by simp [AV.onlys, AV.only]) (by simp [AV.only, AV.onlys]) rfl rfl rfl (curO_free _ _ _) (curO_free _ _ _) rfl trivial (fun t h => by injection h with h; subst h; exact tl hn rfl) ?_
    | refine op_callP 1 A3 rfl (by simp [AV.onlys, AV.only]) (by simp [AV.only, AV.onlys]) rfl rfl rfl (curO_free _ _ _) (curO_free _ _ _) rfl trivial (fun t h => by injection h with h; subst h; exact tl hn rfl) ?_
    | refine RunsL.step tabOk hn rfl ?_
    | refine RunsL.nil ?_
    | refine Runs.toRegion 30 rfl ?_
    | (refine RunsL.pe hn rfl rfl rfl ?_; first
      | refine ⟨_, pu_rem rfl rfl (by omega), ?_⟩)
    | (refine Runs.ctls 30 rfl ?_; first | refine Runs.cond_t rfl ?_ | refine Runs.cond_f rfl ?_ | ((first | refine Runs.cond_yes rfl ?_ ?_ | refine Runs.cond_nno rfl ?_ ?_); · first | omega | rfl | assumption | (simp only [List.length_map]; omega)) | ((first | refine Runs.cond_no rfl ?_ ?_ | refine Runs.cond_nyes rfl ?_ ?_); · first | omega | rfl | assumption | (simp only [List.length_map]; omega)) | refine Runs.cond_dec rfl (fun h => ?_) (fun h => ?_) | refine Runs.cond_ndec rfl (fun h => ?_) (fun h => ?_) | refine Runs.cond_nb rfl (fun h => ?_) (fun h => ?_) | refine Runs.cond_b rfl (fun h => ?_) (fun h => ?_) | refine Runs.ret (ends_ro hm rfl rfl ?_) | exact Runs.ret (ends_cellR hm rfl rfl rfl (Nat.le_of_ble_eq_true rfl) rfl rfl))
    | refine op_box rfl (tl hn rfl) ?_
    | refine op_storeF rfl rfl rfl rfl (Nat.le_of_ble_eq_true rfl) ?_
    | refine op_alloc (tl hn rfl) ?_
    | refine op_storeN rfl rfl rfl rfl (Nat.le_of_ble_eq_true rfl) ?_
    | (refine RunsL.pe hn rfl rfl rfl ?_; first
      | refine ⟨_, pu_add rfl rfl (by omega), ?_⟩
      | refine ⟨_, pu_indexAddr_map rfl rfl (by omega) (by assumption), ?_⟩
      | refine ⟨_, pu_sub rfl rfl (by omega), ?_⟩
      | refine ⟨_, pu_pick_b rfl rfl rfl, ?_⟩
      | refine ⟨_, pu_mul rfl rfl (by omega), ?_⟩
      | refine ⟨_, pu_build rfl rfl rfl rfl rfl rfl, ?_⟩))
  all_goals exact Runs.ctls 30 rfl (Runs.ret (endsA1 (fun i hi => by simp at hi; subst hi; exact ⟨0, 0, rfl⟩) rfl rfl rfl))
theorem l1Str_am (b : List UInt8) (hb : b.length ≤ 1048576) (i h : Int) (hi : CurOk b i) (l : List ByteArray) (hl : 0 < l.length) (hl' : l.length ≤ 1000) : ∃ s i' h', s ∈ l ∧ CurOk b i' ∧
    AM Tryd.prog 30 (curO b i h) [0] [.obj 0 0, .ro (strsR l)] (curO b i' h') (.str s) := by
  have hlm : (l.map fun z => [RV.str z]).length = l.length := List.length_map ..
  obtain ⟨x, i1, h1, _, hx, c1, A1⟩ := l1Below_am b hb i h hi (l.length : Int) (by omega)
  obtain ⟨x0, x1⟩ := hx (by omega)
  obtain ⟨s, hs⟩ : ∃ s, l[x.toNat]? = some s := ⟨_, List.getElem?_eq_getElem (by omega)⟩
  refine ⟨s, i1, h1, List.mem_of_getElem? hs, c1, am_enter Tryd.func30 rfl _ Tryd.ntmps30 (by simp) (by simp) fun C gs hn => ?_⟩
  repeat' (first
    | refine op_callP 1 A1 rfl (by simp [AV.onlys, AV.only]) (by simp [AV.only, AV.onlys]) rfl rfl rfl (curO_free _ _ _) (curO_free _ _ _) rfl trivial (fun t h => by injection h with h; subst h; exact tl hn rfl) ?_
    | (refine RunsL.pe hn rfl rfl rfl ?_; first
      | refine ⟨_, pu_len_seqN l.length rfl hlm, ?_⟩)
    | refine RunsL.step tabOk hn rfl ?_
    | refine RunsL.nil ?_
    | refine Runs.toRegion 30 rfl ?_
    | (refine Runs.ctls 30 rfl ?_; first | refine Runs.cond_t rfl ?_ | refine Runs.cond_f rfl ?_ | ((first | refine Runs.cond_yes rfl ?_ ?_ | refine Runs.cond_nno rfl ?_ ?_); · first | omega | rfl | assumption | (simp only [List.length_map]; omega)) | ((first | refine Runs.cond_no rfl ?_ ?_ | refine Runs.cond_nyes rfl ?_ ?_); · first | omega | rfl | assumption | (simp only [List.length_map]; omega)) | refine Runs.cond_dec rfl (fun h => ?_) (fun h => ?_) | refine Runs.cond_ndec rfl (fun h => ?_) (fun h => ?_) | refine Runs.cond_nb rfl (fun h => ?_) (fun h => ?_) | refine Runs.cond_b rfl (fun h => ?_) (fun h => ?_) | refine Runs.ret (ends_ro hm rfl rfl ?_) | exact Runs.ret (ends_cellR hm rfl rfl rfl (Nat.le_of_ble_eq_true rfl) rfl rfl))
    | refine op_box rfl (tl hn rfl) ?_
    | refine op_storeF rfl rfl rfl rfl (Nat.le_of_ble_eq_true rfl) ?_
    | refine op_alloc (tl hn rfl) ?_
    | refine op_storeN rfl rfl rfl rfl (Nat.le_of_ble_eq_true rfl) ?_
    | (refine RunsL.pe hn rfl rfl rfl ?_; first
      | refine ⟨_, pu_add rfl rfl (by omega), ?_⟩
      | refine ⟨_, pu_indexAddr_map rfl rfl (by omega) (by assumption), ?_⟩
      | refine ⟨_, pu_sub rfl rfl (by omega), ?_⟩
      | refine ⟨_, pu_pick_b rfl rfl rfl, ?_⟩
      | refine ⟨_, pu_mul rfl rfl (by omega), ?_⟩
      | refine ⟨_, pu_build rfl rfl rfl rfl rfl rfl, ?_⟩))
  all_goals exact Runs.ctls 30 rfl (Runs.ret (endsA1 (fun i hi => by simp at hi; subst hi; exact ⟨0, 0, rfl⟩) rfl rfl rfl))
def hashN (b : List UInt8) : Nat → Int
  | 0 => 193017 + b.length
  | j + 1 => (hashN b j * 137 + ((b[j]?.getD 0).toNat : Int) + 11) % 1073741824
theorem hashN_bd (b : List UInt8) (hb : b.length ≤ 1048576) : ∀ j, 0 ≤ hashN b j ∧ hashN b j ≤ 1073741824
  | 0 => by unfold hashN; omega
  | j + 1 => by unfold hashN; omega
set_option maxRecDepth 100000 in
theorem l1New_new (b : List UInt8) (hb : b.length ≤ 1048576) : ∃ h, ANew Tryd.prog 29 [bytesR b] 54 [bytesR b, .int 0, .int h] := by
  have hlb : (b.map fun z => [RV.u8 z]).length = b.length := List.length_map ..
  refine ⟨hashN b (min b.length 4000), anew_enter Tryd.func29 rfl _ Tryd.ntmps29 (by simp) fun C hn hm => ?_⟩
  repeat' (first
    | (refine RunsL.pe hn rfl rfl rfl ?_; first
      | refine ⟨_, pu_len_seqN b.length rfl hlb, ?_⟩)
    | refine RunsL.step tabOk hn rfl ?_
    | refine RunsL.nil ?_
    | refine Runs.toRegion 30 rfl ?_
    | (refine Runs.ctls 30 rfl ?_; first | refine Runs.cond_t rfl ?_ | refine Runs.cond_f rfl ?_ | ((first | refine Runs.cond_yes rfl ?_ ?_ | refine Runs.cond_nno rfl ?_ ?_); · first | omega | rfl | assumption | (simp only [List.length_map]; omega)) | ((first | refine Runs.cond_no rfl ?_ ?_ | refine Runs.cond_nyes rfl ?_ ?_); · first | omega | rfl | assumption | (simp only [List.length_map]; omega)) | refine Runs.cond_dec rfl (fun h => ?_) (fun h => ?_) | refine Runs.cond_ndec rfl (fun h => ?_) (fun h => ?_) | refine Runs.cond_nb rfl (fun h => ?_) (fun h => ?_) | refine Runs.cond_b rfl (fun h => ?_) (fun h => ?_) | refine Runs.ret (ends_ro hm rfl rfl ?_) | exact Runs.ret (ends_cellR hm rfl rfl rfl (Nat.le_of_ble_eq_true rfl) rfl rfl))
    | refine op_box rfl (tl hn rfl) ?_
    | refine op_storeF rfl rfl rfl rfl (Nat.le_of_ble_eq_true rfl) ?_
    | refine op_alloc (tl hn rfl) ?_
    | refine op_storeN rfl rfl rfl rfl (Nat.le_of_ble_eq_true rfl) ?_
    | (refine RunsL.pe hn rfl rfl rfl ?_; first
      | refine ⟨_, pu_add rfl rfl (by omega), ?_⟩
      | refine ⟨_, pu_indexAddr_map rfl rfl (by omega) (by assumption), ?_⟩
      | refine ⟨_, pu_sub rfl rfl (by omega), ?_⟩
      | refine ⟨_, pu_pick_b rfl rfl rfl, ?_⟩
      | refine ⟨_, pu_mul rfl rfl (by omega), ?_⟩
      | refine ⟨_, pu_build rfl rfl rfl rfl rfl rfl, ?_⟩)
    | ((first | refine RunsL.guard_dec rfl rfl rfl ?_ ?_ | refine RunsL.guard_ndec rfl rfl rfl ?_ ?_ | refine RunsL.guard_nb rfl rfl rfl ?_ ?_ | refine RunsL.guard_b rfl rfl rfl ?_ ?_) <;> intro h <;> try (exfalso; first | omega | contradiction | (simp only [List.length_map] at h; omega))))
  refine Runs.loopN 30 rfl (fun j => [(0, .ro (bytesR b)), (3, .int (hashN b j)), (4, .int (j : Int))]) (fun _ => []) (fun _ => True) (min b.length 4000) 0 (Nat.zero_le _) trivial ⟨rfl, rfl, rfl, trivial⟩ rfl fun j hj _ next => ?_
  have hbd := hashN_bd b hb j
  by_cases hlt : j < min b.length 4000
  · obtain ⟨c, hc⟩ : ∃ c, b[(j : Int).toNat]? = some c := ⟨_, List.getElem?_eq_getElem (by simp; omega)⟩
    have hcl := c.toNat_lt
    repeat' (first
      | (refine RunsL.pe hn rfl rfl rfl ?_; first
        | refine ⟨_, pu_len_seqN b.length rfl hlb, ?_⟩)
      | refine RunsL.step tabOk hn rfl ?_
      | refine RunsL.nil ?_
      | refine Runs.toRegion 30 rfl ?_
      | (refine RunsL.pe hn rfl rfl rfl ?_; first
        | refine ⟨_, pu_ofU8 rfl, ?_⟩
        | refine ⟨_, pu_and30 rfl rfl, ?_⟩)
      | (refine Runs.ctls 30 rfl ?_; first | refine Runs.cond_t rfl ?_ | refine Runs.cond_f rfl ?_ | ((first | refine Runs.cond_yes rfl ?_ ?_ | refine Runs.cond_nno rfl ?_ ?_); · first | omega | rfl | assumption | (simp only [List.length_map]; omega)) | ((first | refine Runs.cond_no rfl ?_ ?_ | refine Runs.cond_nyes rfl ?_ ?_); · first | omega | rfl | assumption | (simp only [List.length_map]; omega)) | refine Runs.cond_dec rfl (fun h => ?_) (fun h => ?_) | refine Runs.cond_ndec rfl (fun h => ?_) (fun h => ?_) | refine Runs.cond_nb rfl (fun h => ?_) (fun h => ?_) | refine Runs.cond_b rfl (fun h => ?_) (fun h => ?_) | refine Runs.ret (ends_ro hm rfl rfl ?_) | exact Runs.ret (ends_cellR hm rfl rfl rfl (Nat.le_of_ble_eq_true rfl) rfl rfl))
      | refine op_box rfl (tl hn rfl) ?_
      | refine op_storeF rfl rfl rfl rfl (Nat.le_of_ble_eq_true rfl) ?_
      | refine op_alloc (tl hn rfl) ?_
      | refine op_storeN rfl rfl rfl rfl (Nat.le_of_ble_eq_true rfl) ?_
      | (refine RunsL.pe hn rfl rfl rfl ?_; first
        | refine ⟨_, pu_add rfl rfl (by omega), ?_⟩
        | refine ⟨_, pu_indexAddr_map rfl rfl (by omega) (by assumption), ?_⟩
        | refine ⟨_, pu_sub rfl rfl (by omega), ?_⟩
        | refine ⟨_, pu_pick_b rfl rfl rfl, ?_⟩
        | refine ⟨_, pu_mul rfl rfl (by omega), ?_⟩
        | refine ⟨_, pu_build rfl rfl rfl rfl rfl rfl, ?_⟩)
      | ((first | refine RunsL.guard_dec rfl rfl rfl ?_ ?_ | refine RunsL.guard_ndec rfl rfl rfl ?_ ?_ | refine RunsL.guard_nb rfl rfl rfl ?_ ?_ | refine RunsL.guard_b rfl rfl rfl ?_ ?_) <;> intro h <;> try (exfalso; first | omega | contradiction | (simp only [List.length_map] at h; omega))))
    refine next _ _ ⟨rfl, ?_, rfl, trivial⟩ hlt trivial rfl
    have hc' : b[j]? = some c := hc
    show AV.int _ = AV.int _
    rw [hashN, hc']; rfl
  · have ej : j = min b.length 4000 := by omega
    repeat' (first
      | (refine RunsL.pe hn rfl rfl rfl ?_; first
        | refine ⟨_, pu_len_seqN b.length rfl hlb, ?_⟩)
      | refine RunsL.step tabOk hn rfl ?_
      | refine RunsL.nil ?_
      | refine Runs.toRegion 30 rfl ?_
      | (refine RunsL.pe hn rfl rfl rfl ?_; first
        | refine ⟨_, pu_buildS rfl, ?_⟩)
      | (refine Runs.ctls 30 rfl ?_; first | refine Runs.cond_t rfl ?_ | refine Runs.cond_f rfl ?_ | ((first | refine Runs.cond_yes rfl ?_ ?_ | refine Runs.cond_nno rfl ?_ ?_); · first | omega | rfl | assumption | (simp only [List.length_map]; omega)) | ((first | refine Runs.cond_no rfl ?_ ?_ | refine Runs.cond_nyes rfl ?_ ?_); · first | omega | rfl | assumption | (simp only [List.length_map]; omega)) | refine Runs.cond_dec rfl (fun h => ?_) (fun h => ?_) | refine Runs.cond_ndec rfl (fun h => ?_) (fun h => ?_) | refine Runs.cond_nb rfl (fun h => ?_) (fun h => ?_) | refine Runs.cond_b rfl (fun h => ?_) (fun h => ?_) | refine Runs.ret (ends_ro hm rfl rfl ?_) | exact Runs.ret (ends_cellR hm rfl rfl rfl (Nat.le_of_ble_eq_true rfl) rfl rfl))
      | refine op_box rfl (tl hn rfl) ?_
      | refine op_storeF rfl rfl rfl rfl (Nat.le_of_ble_eq_true rfl) ?_
      | refine op_alloc (tl hn rfl) ?_
      | refine op_storeN rfl rfl rfl rfl (Nat.le_of_ble_eq_true rfl) ?_
      | (refine RunsL.pe hn rfl rfl rfl ?_; first
        | refine ⟨_, pu_add rfl rfl (by omega), ?_⟩
        | refine ⟨_, pu_indexAddr_map rfl rfl (by omega) (by assumption), ?_⟩
        | refine ⟨_, pu_sub rfl rfl (by omega), ?_⟩
        | refine ⟨_, pu_pick_b rfl rfl rfl, ?_⟩
        | refine ⟨_, pu_mul rfl rfl (by omega), ?_⟩
        | refine ⟨_, pu_build rfl rfl rfl rfl rfl rfl, ?_⟩)
      | ((first | refine RunsL.guard_dec rfl rfl rfl ?_ ?_ | refine RunsL.guard_ndec rfl rfl rfl ?_ ?_ | refine RunsL.guard_nb rfl rfl rfl ?_ ?_ | refine RunsL.guard_b rfl rfl rfl ?_ ?_) <;> intro h <;> try (exfalso; first | omega | contradiction | (simp only [List.length_map] at h; omega))))
    all_goals exact Runs.ctls 30 rfl (Runs.ret (endsNew hm rfl rfl (by rw [← ej]; rfl)))
end Go.Proofs.YtnbjncafoahclaaDoor
/- FnDigits: what is drawn; digits read, both sides. -/
namespace Go.Proofs.YtnbjncafoahclaaDoor
set_option linter.unusedSimpArgs false
set_option linter.unusedVariables false
open Go.RowKit
open AV (Mem Keeps)
theorem ends2d {P : Program} {C : Ctx} {fn : Func} {R : RR → Prop} {S : St} {t1 t2 : Nat} {r1 r2 : RV} (hm : ∀ b, ¬ C.mu b) (hr : fn.results = #[.tmp t1, .tmp t2]) (h1 : look S.env t1 = .ro r1) (h2 : look S.env t2 = .ro r2) (hR : R (.tup [.ro r1, .ro r2])) : ∀ a w, Sim C S a w → Ends P C fn R a w :=
  endsN hm (xs := [.tmp t1, .tmp t2]) hr (by simp) [.ro r1, .ro r2] ⟨_, _, rfl, h1.symm, _, _, rfl, h2.symm, rfl⟩ [.ro r1, .ro r2] [] ⟨_, _, [], [], rfl, rfl, ⟨rfl, rfl⟩, _, _, [], [], rfl, rfl, ⟨rfl, rfl⟩, rfl, rfl⟩ (by simp) hR
theorem acv_tup2 {P : Program} {f : FuncId} {args : List RV} {r1 r2 : RV} (h : AC P f args fun rr => rr = .tup [.ro r1, .ro r2]) : ACv P f args (.tup [r1, r2]) :=
  h.shut (by rintro _ rfl; simp only [Seals, SealsL]; exact ⟨_, rfl, _, _, rfl, rfl, _, _, rfl, rfl, rfl⟩)
def rdStrs : List ByteArray := [⟨#[]⟩, ⟨#[55]⟩, ⟨#[49, 50, 51, 44, 52]⟩, ⟨#[120, 57]⟩, ⟨#[48, 48]⟩, ⟨#[49, 50, 51, 52, 53, 54, 55, 56, 57, 48, 49, 50, 51, 52]⟩]
theorem drawReadDigits_ac (b : List UInt8) (hb : b.length ≤ 1048576) : ∃ s k, s ∈ rdStrs ∧ -1 ≤ k ∧ k ≤ 4 ∧ ACv Tryd.prog 15 [bytesR b] (.tup [.str s, .int k]) := by
  obtain ⟨h, hN⟩ := l1New_new b hb
  obtain ⟨s, i1, h1, hs, c1, A1⟩ := l1Str_am b hb 0 h ⟨Int.le_refl _, by omega⟩ rdStrs (by decide) (by decide)
  obtain ⟨x, i2, h2, _, hx, c2, A2⟩ := l1Below_am b hb i1 h1 c1 6 (by decide)
  obtain ⟨x0, x1⟩ := hx (by decide)
  refine ⟨s, x - 1, hs, by omega, by omega, ?_⟩
  refine acv_tup2 ?_
  refine ac_enter Tryd.func15 rfl _ Tryd.ntmps15 (by simp) fun C hn hm => ?_
  repeat' (first
    | refine op_callNew hN rfl (tl hn rfl) ?_
    | refine op_callP 1 A1 rfl (by simp [AV.onlys, AV.only]) (by simp [AV.only, AV.onlys]) rfl rfl rfl (curO_free _ _ _) (curO_free _ _ _) rfl trivial (fun t h => by injection h with h; subst h; exact tl hn rfl) ?_
    | refine op_callP 1 A2 rfl (by simp [AV.onlys, AV.only]) (by simp [AV.only, AV.onlys]) rfl rfl rfl (curO_free _ _ _) (curO_free _ _ _) rfl trivial (fun t h => by injection h with h; subst h; exact tl hn rfl) ?_
    | refine RunsL.step tabOk hn rfl ?_
    | refine RunsL.nil ?_
    | refine Runs.toRegion 30 rfl ?_
    | (refine Runs.ctls 30 rfl ?_; first | refine Runs.cond_t rfl ?_ | refine Runs.cond_f rfl ?_ | ((first | refine Runs.cond_yes rfl ?_ ?_ | refine Runs.cond_nno rfl ?_ ?_); · first | omega | rfl | assumption | (simp only [List.length_map]; omega)) | ((first | refine Runs.cond_no rfl ?_ ?_ | refine Runs.cond_nyes rfl ?_ ?_); · first | omega | rfl | assumption | (simp only [List.length_map]; omega)) | refine Runs.cond_dec rfl (fun h => ?_) (fun h => ?_) | refine Runs.cond_ndec rfl (fun h => ?_) (fun h => ?_) | refine Runs.cond_nb rfl (fun h => ?_) (fun h => ?_) | refine Runs.cond_b rfl (fun h => ?_) (fun h => ?_) | refine Runs.ret (ends_ro hm rfl rfl ?_) | exact Runs.ret (ends_cellR hm rfl rfl rfl (Nat.le_of_ble_eq_true rfl) rfl rfl))
    | refine op_box rfl (tl hn rfl) ?_
    | refine op_storeF rfl rfl rfl rfl (Nat.le_of_ble_eq_true rfl) ?_
    | refine op_alloc (tl hn rfl) ?_
    | refine op_storeN rfl rfl rfl rfl (Nat.le_of_ble_eq_true rfl) ?_
    | (refine RunsL.pe hn rfl rfl rfl ?_; first
      | refine ⟨_, pu_add rfl rfl (by omega), ?_⟩
      | refine ⟨_, pu_indexAddr_map rfl rfl (by omega) (by assumption), ?_⟩
      | refine ⟨_, pu_sub rfl rfl (by omega), ?_⟩
      | refine ⟨_, pu_pick_b rfl rfl rfl, ?_⟩
      | refine ⟨_, pu_mul rfl rfl (by omega), ?_⟩
      | refine ⟨_, pu_build rfl rfl rfl rfl rfl rfl, ?_⟩))
  all_goals exact Runs.ctls 30 rfl (Runs.ret (ends2d hm rfl rfl rfl rfl))
/-! ### Digits. -/
def scanD : List UInt8 → Nat → Int → Nat → Int × Nat
  | [], _, n, j => (n, j)
  | _ :: _, 0, n, j => (n, j)
  | c :: l, f + 1, n, j => if 48 ≤ c.toNat ∧ c.toNat ≤ 57 then scanD l f (10 * n + ((c.toNat : Int) - 48)) (j + 1) else (n, j)
theorem scanD_le : ∀ (l : List UInt8) (f : Nat) (n : Int) (j : Nat), j ≤ (scanD l f n j).2 ∧ (scanD l f n j).2 ≤ j + f
  | [], f, n, j => by simp [scanD]
  | _ :: _, 0, n, j => by simp [scanD]
  | c :: l, f + 1, n, j => by
    unfold scanD
    split
    · have := scanD_le l f (10 * n + ((c.toNat : Int) - 48)) (j + 1); omega
    · simp
def rdD (s : ByteArray) (a : Int) : Int × Int := if a < 0 then (0, a) else ((scanD (s.data.toList.drop a.toNat) 10 0 0).1, a + ((scanD (s.data.toList.drop a.toNat) 10 0 0).2 : Int))
theorem rdD_bd (s : ByteArray) (a : Int) : a ≤ (rdD s a).2 ∧ (rdD s a).2 ≤ a + 10 := by
  unfold rdD
  split
  · simp; omega
  · have := scanD_le (s.data.toList.drop a.toNat) 10 0 0
    simp only; omega
theorem ba_at {s : ByteArray} {k : Nat} {c : UInt8} (h : s.data.toList[k]? = some c) : s[k]? = some c := by
  rw [Array.getElem?_toList] at h
  obtain ⟨hk, rfl⟩ := Array.getElem?_eq_some_iff.1 h
  exact getElem?_pos s k hk
section
variable {P : Program} {C : Ctx} {env : Env} {σ : List Ob} {t : Nat} {ty : TypeId} {pos : String} {after : Array Edge} {gd : Option (Nat × Bool)} {xt yt : TypeId} {x y : Operand}
theorem wrap8 (p : Int) : IntKind.u8.wrap p = p % 256 := by simp [IntKind.wrap, IntKind.bits, IntKind.signed]
theorem pu_sub48 {c : UInt8} (hx : ev env x = .ro (.u8 c)) (hy : ev env y = .ro (.c (.int .u8 48))) (h : 48 ≤ c.toNat) : Pur P C ⟨some t, .binOp .sub xt x y yt, ty, pos, after, gd⟩ env σ (.ro (.u8 (UInt8.ofNat (c.toNat - 48)))) := by
  have hp := pu_subW (P := P) (C := C) (σ := σ) (t := t) (ty := ty) (pos := pos) (after := after) (gd := gd) (xt := xt) (yt := yt) hx hy
  have hc := c.toNat_lt
  have e : IntKind.u8.wrap ((c.toNat : Int) - 48) = ((UInt8.ofNat (c.toNat - 48)).toNat : Int) := by
    rw [wrap8, UInt8.toNat_ofNat']
    omega
  rwa [e] at hp
end
theorem impl_ReadDigits (s : ByteArray) (hs : s.size ≤ 1048576) (a : Int) (ha : -1000 ≤ a ∧ a ≤ 1000) : ACv Tryd.prog 16 [.str s, .int a] (.tup [.int (rdD s a).1, .int (rdD s a).2]) := by
  refine acv_tup2 ?_
  have hlen : s.data.toList.length = s.size := by rw [Array.length_toList]; rfl
  refine ac_enter Tryd.func16 rfl _ Tryd.ntmps16 (by simp) fun C hn hm => ?_
  by_cases h0 : a < 0 ∨ (s.size : Int) ≤ a
  · have hr : rdD s a = (0, a) := by
      unfold rdD
      split
      · rfl
      · rw [List.drop_of_length_le (by omega)]; simp [scanD]
    rw [hr]
    repeat' (first
      | refine RunsL.step tabOk hn rfl ?_
      | refine RunsL.nil ?_
      | refine Runs.toRegion 30 rfl ?_
      | (refine Runs.ctls 30 rfl ?_; first | refine Runs.cond_t rfl ?_ | refine Runs.cond_f rfl ?_ | ((first | refine Runs.cond_yes rfl ?_ ?_ | refine Runs.cond_nno rfl ?_ ?_); · first | omega | rfl | assumption | (simp only [List.length_map]; omega)) | ((first | refine Runs.cond_no rfl ?_ ?_ | refine Runs.cond_nyes rfl ?_ ?_); · first | omega | rfl | assumption | (simp only [List.length_map]; omega)) | refine Runs.cond_dec rfl (fun h => ?_) (fun h => ?_) | refine Runs.cond_ndec rfl (fun h => ?_) (fun h => ?_) | refine Runs.cond_nb rfl (fun h => ?_) (fun h => ?_) | refine Runs.cond_b rfl (fun h => ?_) (fun h => ?_) | refine Runs.ret (ends_ro hm rfl rfl ?_) | exact Runs.ret (ends_cellR hm rfl rfl rfl (Nat.le_of_ble_eq_true rfl) rfl rfl))
      | refine op_box rfl (tl hn rfl) ?_
      | refine op_storeF rfl rfl rfl rfl (Nat.le_of_ble_eq_true rfl) ?_
      | refine op_alloc (tl hn rfl) ?_
      | refine op_storeN rfl rfl rfl rfl (Nat.le_of_ble_eq_true rfl) ?_
      | (refine RunsL.pe hn rfl rfl rfl ?_; first
        | refine ⟨_, pu_add rfl rfl (by omega), ?_⟩
        | refine ⟨_, pu_indexAddr_map rfl rfl (by omega) (by assumption), ?_⟩
        | refine ⟨_, pu_sub rfl rfl (by omega), ?_⟩
        | refine ⟨_, pu_pick_b rfl rfl rfl, ?_⟩
        | refine ⟨_, pu_mul rfl rfl (by omega), ?_⟩
        | refine ⟨_, pu_build rfl rfl rfl rfl rfl rfl, ?_⟩)
      | ((first | refine RunsL.guard_dec rfl rfl rfl ?_ ?_ | refine RunsL.guard_ndec rfl rfl rfl ?_ ?_ | refine RunsL.guard_nb rfl rfl rfl ?_ ?_ | refine RunsL.guard_b rfl rfl rfl ?_ ?_) <;> intro h <;> try (exfalso; first | omega | contradiction | (simp only [List.length_map] at h; omega))))
    all_goals exact Runs.ctls 30 rfl (Runs.ret (ends2d hm rfl rfl rfl rfl))
  · have hr : rdD s a = ((scanD (s.data.toList.drop a.toNat) 10 0 0).1, a + ((scanD (s.data.toList.drop a.toNat) 10 0 0).2 : Int)) := if_neg (by omega)
    rw [hr]
    generalize hR : scanD (s.data.toList.drop a.toNat) 10 0 0 = R
    repeat' (first
      | refine RunsL.step tabOk hn rfl ?_
      | refine RunsL.nil ?_
      | refine Runs.toRegion 30 rfl ?_
      | (refine Runs.ctls 30 rfl ?_; first | refine Runs.cond_t rfl ?_ | refine Runs.cond_f rfl ?_ | ((first | refine Runs.cond_yes rfl ?_ ?_ | refine Runs.cond_nno rfl ?_ ?_); · first | omega | rfl | assumption | (simp only [List.length_map]; omega)) | ((first | refine Runs.cond_no rfl ?_ ?_ | refine Runs.cond_nyes rfl ?_ ?_); · first | omega | rfl | assumption | (simp only [List.length_map]; omega)) | refine Runs.cond_dec rfl (fun h => ?_) (fun h => ?_) | refine Runs.cond_ndec rfl (fun h => ?_) (fun h => ?_) | refine Runs.cond_nb rfl (fun h => ?_) (fun h => ?_) | refine Runs.cond_b rfl (fun h => ?_) (fun h => ?_) | refine Runs.ret (ends_ro hm rfl rfl ?_) | exact Runs.ret (ends_cellR hm rfl rfl rfl (Nat.le_of_ble_eq_true rfl) rfl rfl))
      | refine op_box rfl (tl hn rfl) ?_
      | refine op_storeF rfl rfl rfl rfl (Nat.le_of_ble_eq_true rfl) ?_
      | refine op_alloc (tl hn rfl) ?_
      | refine op_storeN rfl rfl rfl rfl (Nat.le_of_ble_eq_true rfl) ?_
      | (refine RunsL.pe hn rfl rfl rfl ?_; first
        | refine ⟨_, pu_add rfl rfl (by omega), ?_⟩
        | refine ⟨_, pu_indexAddr_map rfl rfl (by omega) (by assumption), ?_⟩
        | refine ⟨_, pu_sub rfl rfl (by omega), ?_⟩
        | refine ⟨_, pu_pick_b rfl rfl rfl, ?_⟩
        | refine ⟨_, pu_mul rfl rfl (by omega), ?_⟩
        | refine ⟨_, pu_build rfl rfl rfl rfl rfl rfl, ?_⟩)
      | ((first | refine RunsL.guard_dec rfl rfl rfl ?_ ?_ | refine RunsL.guard_ndec rfl rfl rfl ?_ ?_ | refine RunsL.guard_nb rfl rfl rfl ?_ ?_ | refine RunsL.guard_b rfl rfl rfl ?_ ?_) <;> intro h <;> try (exfalso; first | omega | contradiction | (simp only [List.length_map] at h; omega))))
    refine Runs.loopI 30 rfl (fun m E z => ∃ (j : Nat) (n : Int), j + m = 10 ∧ a + j ≤ s.size ∧ 0 ≤ n ∧ n < 10 ^ j ∧ scanD (s.data.toList.drop (a.toNat + j)) (10 - j) n j = R ∧ E = [(0, .str s), (1, .int a), (6, .int n), (7, .int (a + j))] ∧ z = []) 10 [(0, .str s), (1, .int a), (6, .int 0), (7, .int (a + (0 : Nat)))] ⟨rfl, rfl, rfl, by simp [look], trivial⟩ ⟨0, 0, rfl, by omega, by decide, by decide, hR, rfl, rfl⟩ fun m E z ⟨j, n, hj, hja, hn0, hn1, hsc, hE, hz⟩ ih => ?_
    subst hE; subst hz
    have hnb : n < 10000000000 := Int.lt_of_lt_of_le hn1 (by
      have : (10 : Int) ^ j ≤ 10 ^ 10 := by exact_mod_cast Nat.pow_le_pow_right (by decide) (by omega)
      omega)
    by_cases hl : a + j < s.size
    · obtain ⟨c, hc⟩ : ∃ c, s.data.toList[a.toNat + j]? = some c := ⟨_, List.getElem?_eq_getElem (by omega)⟩
      have hc' : s[(a + (j : Int)).toNat]? = some c := ba_at (by rw [show (a + (j : Int)).toNat = a.toNat + j by omega]; exact hc)
      have hd : s.data.toList.drop (a.toNat + j) = c :: s.data.toList.drop (a.toNat + (j + 1)) := by
        obtain ⟨hk, rfl⟩ := List.getElem?_eq_some_iff.1 hc
        rw [List.drop_eq_getElem_cons hk]; rfl
      have hcl := c.toNat_lt
      by_cases hj10 : j < 10
      · obtain ⟨f, hf⟩ : ∃ f, 10 - j = f + 1 := ⟨10 - j - 1, by omega⟩
        by_cases hdig : 48 ≤ c.toNat ∧ c.toNat ≤ 57
        · have hsub : ((UInt8.ofNat (c.toNat - 48)).toNat : Int) = (c.toNat : Int) - 48 := by rw [UInt8.toNat_ofNat']; omega
          repeat' (first
            | refine RunsL.step tabOk hn rfl ?_
            | refine RunsL.nil ?_
            | refine Runs.toRegion 30 rfl ?_
            | (refine RunsL.pe hn rfl rfl rfl ?_; first
              | refine ⟨_, pu_indexS rfl rfl (by omega) hc', ?_⟩
              | refine ⟨_, pu_sub48 rfl rfl (by omega), ?_⟩
              | refine ⟨_, pu_ofU8 rfl, ?_⟩
              | refine ⟨_, pu_add rfl rfl (by rw [hsub]; omega), ?_⟩)
            | (refine Runs.ctls 30 rfl ?_; first | refine Runs.cond_t rfl ?_ | refine Runs.cond_f rfl ?_ | ((first | refine Runs.cond_yes rfl ?_ ?_ | refine Runs.cond_nno rfl ?_ ?_); · first | omega | rfl | assumption | (simp only [List.length_map]; omega)) | ((first | refine Runs.cond_no rfl ?_ ?_ | refine Runs.cond_nyes rfl ?_ ?_); · first | omega | rfl | assumption | (simp only [List.length_map]; omega)) | refine Runs.cond_dec rfl (fun h => ?_) (fun h => ?_) | refine Runs.cond_ndec rfl (fun h => ?_) (fun h => ?_) | refine Runs.cond_nb rfl (fun h => ?_) (fun h => ?_) | refine Runs.cond_b rfl (fun h => ?_) (fun h => ?_) | refine Runs.ret (ends_ro hm rfl rfl ?_) | exact Runs.ret (ends_cellR hm rfl rfl rfl (Nat.le_of_ble_eq_true rfl) rfl rfl))
            | refine op_box rfl (tl hn rfl) ?_
            | refine op_storeF rfl rfl rfl rfl (Nat.le_of_ble_eq_true rfl) ?_
            | refine op_alloc (tl hn rfl) ?_
            | refine op_storeN rfl rfl rfl rfl (Nat.le_of_ble_eq_true rfl) ?_
            | (refine RunsL.pe hn rfl rfl rfl ?_; first
              | refine ⟨_, pu_add rfl rfl (by omega), ?_⟩
              | refine ⟨_, pu_indexAddr_map rfl rfl (by omega) (by assumption), ?_⟩
              | refine ⟨_, pu_sub rfl rfl (by omega), ?_⟩
              | refine ⟨_, pu_pick_b rfl rfl rfl, ?_⟩
              | refine ⟨_, pu_mul rfl rfl (by omega), ?_⟩
              | refine ⟨_, pu_build rfl rfl rfl rfl rfl rfl, ?_⟩)
            | ((first | refine RunsL.guard_dec rfl rfl rfl ?_ ?_ | refine RunsL.guard_ndec rfl rfl rfl ?_ ?_ | refine RunsL.guard_nb rfl rfl rfl ?_ ?_ | refine RunsL.guard_b rfl rfl rfl ?_ ?_) <;> intro h <;> try (exfalso; first | omega | contradiction | (simp only [List.length_map] at h; omega))))
          have hp : (10 : Int) ^ (j + 1) = 10 ^ j * 10 := Int.pow_succ 10 j
          rw [hd, hf, scanD, if_pos hdig] at hsc
          refine Runs.ctls 30 rfl ?_
          refine ih (m - 1) _ _ _ (by omega) ⟨j + 1, 10 * n + ((c.toNat : Int) - 48), by omega, by omega, by omega, by omega, by rw [← hsc, show 10 - (j + 1) = f by omega], rfl, rfl⟩ ⟨rfl, rfl, ?_, ?_, trivial⟩
          · show AV.int _ = AV.int _
            rw [hsub]
          · show AV.int _ = AV.int _
            congr 1; omega
        · rw [hd, hf, scanD, if_neg hdig] at hsc
          subst hsc
          repeat' (first
            | refine RunsL.step tabOk hn rfl ?_
            | refine RunsL.nil ?_
            | refine Runs.toRegion 30 rfl ?_
            | (refine RunsL.pe hn rfl rfl rfl ?_; first
              | refine ⟨_, pu_indexS rfl rfl (by omega) hc', ?_⟩)
            | (refine Runs.ctls 30 rfl ?_; first | refine Runs.cond_t rfl ?_ | refine Runs.cond_f rfl ?_ | ((first | refine Runs.cond_yes rfl ?_ ?_ | refine Runs.cond_nno rfl ?_ ?_); · first | omega | rfl | assumption | (simp only [List.length_map]; omega)) | ((first | refine Runs.cond_no rfl ?_ ?_ | refine Runs.cond_nyes rfl ?_ ?_); · first | omega | rfl | assumption | (simp only [List.length_map]; omega)) | refine Runs.cond_dec rfl (fun h => ?_) (fun h => ?_) | refine Runs.cond_ndec rfl (fun h => ?_) (fun h => ?_) | refine Runs.cond_nb rfl (fun h => ?_) (fun h => ?_) | refine Runs.cond_b rfl (fun h => ?_) (fun h => ?_) | refine Runs.ret (ends_ro hm rfl rfl ?_) | exact Runs.ret (ends_cellR hm rfl rfl rfl (Nat.le_of_ble_eq_true rfl) rfl rfl))
            | refine op_box rfl (tl hn rfl) ?_
            | refine op_storeF rfl rfl rfl rfl (Nat.le_of_ble_eq_true rfl) ?_
            | refine op_alloc (tl hn rfl) ?_
            | refine op_storeN rfl rfl rfl rfl (Nat.le_of_ble_eq_true rfl) ?_
            | (refine RunsL.pe hn rfl rfl rfl ?_; first
              | refine ⟨_, pu_add rfl rfl (by omega), ?_⟩
              | refine ⟨_, pu_indexAddr_map rfl rfl (by omega) (by assumption), ?_⟩
              | refine ⟨_, pu_sub rfl rfl (by omega), ?_⟩
              | refine ⟨_, pu_pick_b rfl rfl rfl, ?_⟩
              | refine ⟨_, pu_mul rfl rfl (by omega), ?_⟩
              | refine ⟨_, pu_build rfl rfl rfl rfl rfl rfl, ?_⟩)
            | ((first | refine RunsL.guard_dec rfl rfl rfl ?_ ?_ | refine RunsL.guard_ndec rfl rfl rfl ?_ ?_ | refine RunsL.guard_nb rfl rfl rfl ?_ ?_ | refine RunsL.guard_b rfl rfl rfl ?_ ?_) <;> intro h <;> try (exfalso; first | omega | contradiction | (simp only [List.length_map] at h; omega))))
          all_goals exact Runs.ctls 30 rfl (Runs.ret (ends2d hm rfl rfl rfl rfl))
      · rw [hd, show 10 - j = 0 by omega, scanD] at hsc
        subst hsc
        repeat' (first
          | refine RunsL.step tabOk hn rfl ?_
          | refine RunsL.nil ?_
          | refine Runs.toRegion 30 rfl ?_
          | (refine RunsL.pe hn rfl rfl rfl ?_; first
            | refine ⟨_, pu_indexS rfl rfl (by omega) hc', ?_⟩)
          | (refine Runs.ctls 30 rfl ?_; first | refine Runs.cond_t rfl ?_ | refine Runs.cond_f rfl ?_ | ((first | refine Runs.cond_yes rfl ?_ ?_ | refine Runs.cond_nno rfl ?_ ?_); · first | omega | rfl | assumption | (simp only [List.length_map]; omega)) | ((first | refine Runs.cond_no rfl ?_ ?_ | refine Runs.cond_nyes rfl ?_ ?_); · first | omega | rfl | assumption | (simp only [List.length_map]; omega)) | refine Runs.cond_dec rfl (fun h => ?_) (fun h => ?_) | refine Runs.cond_ndec rfl (fun h => ?_) (fun h => ?_) | refine Runs.cond_nb rfl (fun h => ?_) (fun h => ?_) | refine Runs.cond_b rfl (fun h => ?_) (fun h => ?_) | refine Runs.ret (ends_ro hm rfl rfl ?_) | exact Runs.ret (ends_cellR hm rfl rfl rfl (Nat.le_of_ble_eq_true rfl) rfl rfl))
          | refine op_box rfl (tl hn rfl) ?_
          | refine op_storeF rfl rfl rfl rfl (Nat.le_of_ble_eq_true rfl) ?_
          | refine op_alloc (tl hn rfl) ?_
          | refine op_storeN rfl rfl rfl rfl (Nat.le_of_ble_eq_true rfl) ?_
          | (refine RunsL.pe hn rfl rfl rfl ?_; first
            | refine ⟨_, pu_add rfl rfl (by omega), ?_⟩
            | refine ⟨_, pu_indexAddr_map rfl rfl (by omega) (by assumption), ?_⟩
            | refine ⟨_, pu_sub rfl rfl (by omega), ?_⟩
            | refine ⟨_, pu_pick_b rfl rfl rfl, ?_⟩
            | refine ⟨_, pu_mul rfl rfl (by omega), ?_⟩
            | refine ⟨_, pu_build rfl rfl rfl rfl rfl rfl, ?_⟩)
          | ((first | refine RunsL.guard_dec rfl rfl rfl ?_ ?_ | refine RunsL.guard_ndec rfl rfl rfl ?_ ?_ | refine RunsL.guard_nb rfl rfl rfl ?_ ?_ | refine RunsL.guard_b rfl rfl rfl ?_ ?_) <;> intro h <;> try (exfalso; first | omega | contradiction | (simp only [List.length_map] at h; omega))))
        all_goals exact Runs.ctls 30 rfl (Runs.ret (ends2d hm rfl rfl rfl rfl))
    · rw [List.drop_of_length_le (by omega), scanD] at hsc
      subst hsc
      repeat' (first
        | refine RunsL.step tabOk hn rfl ?_
        | refine RunsL.nil ?_
        | refine Runs.toRegion 30 rfl ?_
        | (refine Runs.ctls 30 rfl ?_; first | refine Runs.cond_t rfl ?_ | refine Runs.cond_f rfl ?_ | ((first | refine Runs.cond_yes rfl ?_ ?_ | refine Runs.cond_nno rfl ?_ ?_); · first | omega | rfl | assumption | (simp only [List.length_map]; omega)) | ((first | refine Runs.cond_no rfl ?_ ?_ | refine Runs.cond_nyes rfl ?_ ?_); · first | omega | rfl | assumption | (simp only [List.length_map]; omega)) | refine Runs.cond_dec rfl (fun h => ?_) (fun h => ?_) | refine Runs.cond_ndec rfl (fun h => ?_) (fun h => ?_) | refine Runs.cond_nb rfl (fun h => ?_) (fun h => ?_) | refine Runs.cond_b rfl (fun h => ?_) (fun h => ?_) | refine Runs.ret (ends_ro hm rfl rfl ?_) | exact Runs.ret (ends_cellR hm rfl rfl rfl (Nat.le_of_ble_eq_true rfl) rfl rfl))
        | refine op_box rfl (tl hn rfl) ?_
        | refine op_storeF rfl rfl rfl rfl (Nat.le_of_ble_eq_true rfl) ?_
        | refine op_alloc (tl hn rfl) ?_
        | refine op_storeN rfl rfl rfl rfl (Nat.le_of_ble_eq_true rfl) ?_
        | (refine RunsL.pe hn rfl rfl rfl ?_; first
          | refine ⟨_, pu_add rfl rfl (by omega), ?_⟩
          | refine ⟨_, pu_indexAddr_map rfl rfl (by omega) (by assumption), ?_⟩
          | refine ⟨_, pu_sub rfl rfl (by omega), ?_⟩
          | refine ⟨_, pu_pick_b rfl rfl rfl, ?_⟩
          | refine ⟨_, pu_mul rfl rfl (by omega), ?_⟩
          | refine ⟨_, pu_build rfl rfl rfl rfl rfl rfl, ?_⟩)
        | ((first | refine RunsL.guard_dec rfl rfl rfl ?_ ?_ | refine RunsL.guard_ndec rfl rfl rfl ?_ ?_ | refine RunsL.guard_nb rfl rfl rfl ?_ ?_ | refine RunsL.guard_b rfl rfl rfl ?_ ?_) <;> intro h <;> try (exfalso; first | omega | contradiction | (simp only [List.length_map] at h; omega))))
      all_goals exact Runs.ctls 30 rfl (Runs.ret (ends2d hm rfl rfl rfl rfl))
theorem spec_ReadDigits (s : ByteArray) (hs : s.size ≤ 1048576) (a : Int) (ha : -1000 ≤ a ∧ a ≤ 1000) : ACv Tryd.prog 17 [.str s, .int a] (.tup [.int (rdD s a).1, .int (rdD s a).2]) := by
  refine acv_tup2 ?_
  have hlen : s.data.toList.length = s.size := by rw [Array.length_toList]; rfl
  refine ac_enter Tryd.func17 rfl _ Tryd.ntmps17 (by simp) fun C hn hm => ?_
  by_cases h0 : a < 0 ∨ (s.size : Int) ≤ a
  · have hr : rdD s a = (0, a) := by
      unfold rdD
      split
      · rfl
      · rw [List.drop_of_length_le (by omega)]; simp [scanD]
    rw [hr]
    have hL := l1In_ac a 0 ((s.size : Int) - 1)
    repeat' (first
      | refine RunsL.step tabOk hn rfl ?_
      | refine RunsL.nil ?_
      | refine Runs.toRegion 30 rfl ?_
      | (refine Runs.ctls 30 rfl ?_; first | refine Runs.cond_t rfl ?_ | refine Runs.cond_f rfl ?_ | ((first | refine Runs.cond_yes rfl ?_ ?_ | refine Runs.cond_nno rfl ?_ ?_); · first | omega | rfl | assumption | (simp only [List.length_map]; omega)) | ((first | refine Runs.cond_no rfl ?_ ?_ | refine Runs.cond_nyes rfl ?_ ?_); · first | omega | rfl | assumption | (simp only [List.length_map]; omega)) | refine Runs.cond_dec rfl (fun h => ?_) (fun h => ?_) | refine Runs.cond_ndec rfl (fun h => ?_) (fun h => ?_) | refine Runs.cond_nb rfl (fun h => ?_) (fun h => ?_) | refine Runs.cond_b rfl (fun h => ?_) (fun h => ?_) | refine Runs.ret (ends_ro hm rfl rfl ?_) | exact Runs.ret (ends_cellR hm rfl rfl rfl (Nat.le_of_ble_eq_true rfl) rfl rfl))
      | refine op_box rfl (tl hn rfl) ?_
      | refine op_storeF rfl rfl rfl rfl (Nat.le_of_ble_eq_true rfl) ?_
      | refine op_alloc (tl hn rfl) ?_
      | refine op_storeN rfl rfl rfl rfl (Nat.le_of_ble_eq_true rfl) ?_
      | (refine RunsL.pe hn rfl rfl rfl ?_; first
        | refine ⟨_, pu_add rfl rfl (by omega), ?_⟩
        | refine ⟨_, pu_indexAddr_map rfl rfl (by omega) (by assumption), ?_⟩
        | refine ⟨_, pu_sub rfl rfl (by omega), ?_⟩
        | refine ⟨_, pu_pick_b rfl rfl rfl, ?_⟩
        | refine ⟨_, pu_mul rfl rfl (by omega), ?_⟩
        | refine ⟨_, pu_build rfl rfl rfl rfl rfl rfl, ?_⟩)
      | ((first | refine RunsL.guard_dec rfl rfl rfl ?_ ?_ | refine RunsL.guard_ndec rfl rfl rfl ?_ ?_ | refine RunsL.guard_nb rfl rfl rfl ?_ ?_ | refine RunsL.guard_b rfl rfl rfl ?_ ?_) <;> intro h <;> try (exfalso; first | omega | contradiction | (simp only [List.length_map] at h; omega))))
    refine Runs.loopI 30 rfl (fun m E z => E = [(0, .str s), (1, .int a), (6, .int 0), (7, .int a)] ∧ z = []) 0 [(0, .str s), (1, .int a), (6, .int 0), (7, .int a)] ⟨rfl, rfl, rfl, rfl, trivial⟩ ⟨rfl, rfl⟩ fun m E z ⟨hE, hz⟩ ih => ?_
    subst hE; subst hz
    repeat' (first
      | refine RunsL.step tabOk hn rfl ?_
      | refine RunsL.nil ?_
      | refine Runs.toRegion 30 rfl ?_
      | (refine RunsL.pe hn rfl rfl rfl ?_; first
        | refine ⟨_, pu_callR hL rfl, ?_⟩)
      | (refine Runs.ctls 30 rfl ?_; first | refine Runs.cond_t rfl ?_ | refine Runs.cond_f rfl ?_ | ((first | refine Runs.cond_yes rfl ?_ ?_ | refine Runs.cond_nno rfl ?_ ?_); · first | omega | rfl | assumption | (simp only [List.length_map]; omega)) | ((first | refine Runs.cond_no rfl ?_ ?_ | refine Runs.cond_nyes rfl ?_ ?_); · first | omega | rfl | assumption | (simp only [List.length_map]; omega)) | refine Runs.cond_dec rfl (fun h => ?_) (fun h => ?_) | refine Runs.cond_ndec rfl (fun h => ?_) (fun h => ?_) | refine Runs.cond_nb rfl (fun h => ?_) (fun h => ?_) | refine Runs.cond_b rfl (fun h => ?_) (fun h => ?_) | refine Runs.ret (ends_ro hm rfl rfl ?_) | exact Runs.ret (ends_cellR hm rfl rfl rfl (Nat.le_of_ble_eq_true rfl) rfl rfl))
      | refine op_box rfl (tl hn rfl) ?_
      | refine op_storeF rfl rfl rfl rfl (Nat.le_of_ble_eq_true rfl) ?_
      | refine op_alloc (tl hn rfl) ?_
      | refine op_storeN rfl rfl rfl rfl (Nat.le_of_ble_eq_true rfl) ?_
      | (refine RunsL.pe hn rfl rfl rfl ?_; first
        | refine ⟨_, pu_add rfl rfl (by omega), ?_⟩
        | refine ⟨_, pu_indexAddr_map rfl rfl (by omega) (by assumption), ?_⟩
        | refine ⟨_, pu_sub rfl rfl (by omega), ?_⟩
        | refine ⟨_, pu_pick_b rfl rfl rfl, ?_⟩
        | refine ⟨_, pu_mul rfl rfl (by omega), ?_⟩
        | refine ⟨_, pu_build rfl rfl rfl rfl rfl rfl, ?_⟩)
      | ((first | refine RunsL.guard_dec rfl rfl rfl ?_ ?_ | refine RunsL.guard_ndec rfl rfl rfl ?_ ?_ | refine RunsL.guard_nb rfl rfl rfl ?_ ?_ | refine RunsL.guard_b rfl rfl rfl ?_ ?_) <;> intro h <;> try (exfalso; first | omega | contradiction | (simp only [List.length_map] at h; omega))))
    all_goals exact Runs.ctls 30 rfl (Runs.ret (ends2d hm rfl rfl rfl rfl))
  · have hr : rdD s a = ((scanD (s.data.toList.drop a.toNat) 10 0 0).1, a + ((scanD (s.data.toList.drop a.toNat) 10 0 0).2 : Int)) := if_neg (by omega)
    rw [hr]
    generalize hR : scanD (s.data.toList.drop a.toNat) 10 0 0 = R
    repeat' (first
      | refine RunsL.step tabOk hn rfl ?_
      | refine RunsL.nil ?_
      | refine Runs.toRegion 30 rfl ?_
      | (refine Runs.ctls 30 rfl ?_; first | refine Runs.cond_t rfl ?_ | refine Runs.cond_f rfl ?_ | ((first | refine Runs.cond_yes rfl ?_ ?_ | refine Runs.cond_nno rfl ?_ ?_); · first | omega | rfl | assumption | (simp only [List.length_map]; omega)) | ((first | refine Runs.cond_no rfl ?_ ?_ | refine Runs.cond_nyes rfl ?_ ?_); · first | omega | rfl | assumption | (simp only [List.length_map]; omega)) | refine Runs.cond_dec rfl (fun h => ?_) (fun h => ?_) | refine Runs.cond_ndec rfl (fun h => ?_) (fun h => ?_) | refine Runs.cond_nb rfl (fun h => ?_) (fun h => ?_) | refine Runs.cond_b rfl (fun h => ?_) (fun h => ?_) | refine Runs.ret (ends_ro hm rfl rfl ?_) | exact Runs.ret (ends_cellR hm rfl rfl rfl (Nat.le_of_ble_eq_true rfl) rfl rfl))
      | refine op_box rfl (tl hn rfl) ?_
      | refine op_storeF rfl rfl rfl rfl (Nat.le_of_ble_eq_true rfl) ?_
      | refine op_alloc (tl hn rfl) ?_
      | refine op_storeN rfl rfl rfl rfl (Nat.le_of_ble_eq_true rfl) ?_
      | (refine RunsL.pe hn rfl rfl rfl ?_; first
        | refine ⟨_, pu_add rfl rfl (by omega), ?_⟩
        | refine ⟨_, pu_indexAddr_map rfl rfl (by omega) (by assumption), ?_⟩
        | refine ⟨_, pu_sub rfl rfl (by omega), ?_⟩
        | refine ⟨_, pu_pick_b rfl rfl rfl, ?_⟩
        | refine ⟨_, pu_mul rfl rfl (by omega), ?_⟩
        | refine ⟨_, pu_build rfl rfl rfl rfl rfl rfl, ?_⟩)
      | ((first | refine RunsL.guard_dec rfl rfl rfl ?_ ?_ | refine RunsL.guard_ndec rfl rfl rfl ?_ ?_ | refine RunsL.guard_nb rfl rfl rfl ?_ ?_ | refine RunsL.guard_b rfl rfl rfl ?_ ?_) <;> intro h <;> try (exfalso; first | omega | contradiction | (simp only [List.length_map] at h; omega))))
    refine Runs.loopI 30 rfl (fun m E z => ∃ (j : Nat) (n : Int), j + m = 10 ∧ a + j ≤ s.size ∧ 0 ≤ n ∧ n < 10 ^ j ∧ scanD (s.data.toList.drop (a.toNat + j)) (10 - j) n j = R ∧ E = [(0, .str s), (1, .int a), (6, .int n), (7, .int (a + j))] ∧ z = []) 10 [(0, .str s), (1, .int a), (6, .int 0), (7, .int (a + (0 : Nat)))] ⟨rfl, rfl, rfl, by simp [look], trivial⟩ ⟨0, 0, rfl, by omega, by decide, by decide, hR, rfl, rfl⟩ fun m E z ⟨j, n, hj, hja, hn0, hn1, hsc, hE, hz⟩ ih => ?_
    subst hE; subst hz
    have hnb : n < 10000000000 := Int.lt_of_lt_of_le hn1 (by
      have : (10 : Int) ^ j ≤ 10 ^ 10 := by exact_mod_cast Nat.pow_le_pow_right (by decide) (by omega)
      omega)
    have hL := l1In_ac (a + j) 0 ((s.size : Int) - 1)
    by_cases hl : a + j < s.size
    · obtain ⟨c, hc⟩ : ∃ c, s.data.toList[a.toNat + j]? = some c := ⟨_, List.getElem?_eq_getElem (by omega)⟩
      have hc' : s[(a + (j : Int)).toNat]? = some c := ba_at (by rw [show (a + (j : Int)).toNat = a.toNat + j by omega]; exact hc)
      have hd : s.data.toList.drop (a.toNat + j) = c :: s.data.toList.drop (a.toNat + (j + 1)) := by
        obtain ⟨hk, rfl⟩ := List.getElem?_eq_some_iff.1 hc
        rw [List.drop_eq_getElem_cons hk]; rfl
      have hcl := c.toNat_lt
      by_cases hj10 : j < 10
      · obtain ⟨f, hf⟩ : ∃ f, 10 - j = f + 1 := ⟨10 - j - 1, by omega⟩
        by_cases hdig : 48 ≤ c.toNat ∧ c.toNat ≤ 57
        · have hsub : ((UInt8.ofNat (c.toNat - 48)).toNat : Int) = (c.toNat : Int) - 48 := by rw [UInt8.toNat_ofNat']; omega
          repeat' (first
            | refine RunsL.step tabOk hn rfl ?_
            | refine RunsL.nil ?_
            | refine Runs.toRegion 30 rfl ?_
            | (refine RunsL.pe hn rfl rfl rfl ?_; first
              | refine ⟨_, pu_callR hL rfl, ?_⟩
              | refine ⟨_, pu_indexS rfl rfl (by omega) hc', ?_⟩
              | refine ⟨_, pu_sub48 rfl rfl (by omega), ?_⟩
              | refine ⟨_, pu_ofU8 rfl, ?_⟩
              | refine ⟨_, pu_add rfl rfl (by rw [hsub]; omega), ?_⟩)
            | (refine Runs.ctls 30 rfl ?_; first | refine Runs.cond_t rfl ?_ | refine Runs.cond_f rfl ?_ | ((first | refine Runs.cond_yes rfl ?_ ?_ | refine Runs.cond_nno rfl ?_ ?_); · first | omega | rfl | assumption | (simp only [List.length_map]; omega)) | ((first | refine Runs.cond_no rfl ?_ ?_ | refine Runs.cond_nyes rfl ?_ ?_); · first | omega | rfl | assumption | (simp only [List.length_map]; omega)) | refine Runs.cond_dec rfl (fun h => ?_) (fun h => ?_) | refine Runs.cond_ndec rfl (fun h => ?_) (fun h => ?_) | refine Runs.cond_nb rfl (fun h => ?_) (fun h => ?_) | refine Runs.cond_b rfl (fun h => ?_) (fun h => ?_) | refine Runs.ret (ends_ro hm rfl rfl ?_) | exact Runs.ret (ends_cellR hm rfl rfl rfl (Nat.le_of_ble_eq_true rfl) rfl rfl))
            | refine op_box rfl (tl hn rfl) ?_
            | refine op_storeF rfl rfl rfl rfl (Nat.le_of_ble_eq_true rfl) ?_
            | refine op_alloc (tl hn rfl) ?_
            | refine op_storeN rfl rfl rfl rfl (Nat.le_of_ble_eq_true rfl) ?_
            | (refine RunsL.pe hn rfl rfl rfl ?_; first
              | refine ⟨_, pu_add rfl rfl (by omega), ?_⟩
              | refine ⟨_, pu_indexAddr_map rfl rfl (by omega) (by assumption), ?_⟩
              | refine ⟨_, pu_sub rfl rfl (by omega), ?_⟩
              | refine ⟨_, pu_pick_b rfl rfl rfl, ?_⟩
              | refine ⟨_, pu_mul rfl rfl (by omega), ?_⟩
              | refine ⟨_, pu_build rfl rfl rfl rfl rfl rfl, ?_⟩)
            | ((first | refine RunsL.guard_dec rfl rfl rfl ?_ ?_ | refine RunsL.guard_ndec rfl rfl rfl ?_ ?_ | refine RunsL.guard_nb rfl rfl rfl ?_ ?_ | refine RunsL.guard_b rfl rfl rfl ?_ ?_) <;> intro h <;> try (exfalso; first | omega | contradiction | (simp only [List.length_map] at h; omega))))
          have hp : (10 : Int) ^ (j + 1) = 10 ^ j * 10 := Int.pow_succ 10 j
          rw [hd, hf, scanD, if_pos hdig] at hsc
          refine Runs.ctls 30 rfl ?_
          refine ih (m - 1) _ _ _ (by omega) ⟨j + 1, 10 * n + ((c.toNat : Int) - 48), by omega, by omega, by omega, by omega, by rw [← hsc, show 10 - (j + 1) = f by omega], rfl, rfl⟩ ⟨rfl, rfl, ?_, ?_, trivial⟩
          · show AV.int _ = AV.int _
            rw [hsub, Int.mul_comm n 10]
          · show AV.int _ = AV.int _
            congr 1; omega
        · rw [hd, hf, scanD, if_neg hdig] at hsc
          subst hsc
          repeat' (first
            | refine RunsL.step tabOk hn rfl ?_
            | refine RunsL.nil ?_
            | refine Runs.toRegion 30 rfl ?_
            | (refine RunsL.pe hn rfl rfl rfl ?_; first
              | refine ⟨_, pu_callR hL rfl, ?_⟩
              | refine ⟨_, pu_indexS rfl rfl (by omega) hc', ?_⟩)
            | (refine Runs.ctls 30 rfl ?_; first | refine Runs.cond_t rfl ?_ | refine Runs.cond_f rfl ?_ | ((first | refine Runs.cond_yes rfl ?_ ?_ | refine Runs.cond_nno rfl ?_ ?_); · first | omega | rfl | assumption | (simp only [List.length_map]; omega)) | ((first | refine Runs.cond_no rfl ?_ ?_ | refine Runs.cond_nyes rfl ?_ ?_); · first | omega | rfl | assumption | (simp only [List.length_map]; omega)) | refine Runs.cond_dec rfl (fun h => ?_) (fun h => ?_) | refine Runs.cond_ndec rfl (fun h => ?_) (fun h => ?_) | refine Runs.cond_nb rfl (fun h => ?_) (fun h => ?_) | refine Runs.cond_b rfl (fun h => ?_) (fun h => ?_) | refine Runs.ret (ends_ro hm rfl rfl ?_) | exact Runs.ret (ends_cellR hm rfl rfl rfl (Nat.le_of_ble_eq_true rfl) rfl rfl))
            | refine op_box rfl (tl hn rfl) ?_
            | refine op_storeF rfl rfl rfl rfl (Nat.le_of_ble_eq_true rfl) ?_
            | refine op_alloc (tl hn rfl) ?_
            | refine op_storeN rfl rfl rfl rfl (Nat.le_of_ble_eq_true rfl) ?_
            | (refine RunsL.pe hn rfl rfl rfl ?_; first
              | refine ⟨_, pu_add rfl rfl (by omega), ?_⟩
              | refine ⟨_, pu_indexAddr_map rfl rfl (by omega) (by assumption), ?_⟩
              | refine ⟨_, pu_sub rfl rfl (by omega), ?_⟩
              | refine ⟨_, pu_pick_b rfl rfl rfl, ?_⟩
              | refine ⟨_, pu_mul rfl rfl (by omega), ?_⟩
              | refine ⟨_, pu_build rfl rfl rfl rfl rfl rfl, ?_⟩)
            | ((first | refine RunsL.guard_dec rfl rfl rfl ?_ ?_ | refine RunsL.guard_ndec rfl rfl rfl ?_ ?_ | refine RunsL.guard_nb rfl rfl rfl ?_ ?_ | refine RunsL.guard_b rfl rfl rfl ?_ ?_) <;> intro h <;> try (exfalso; first | omega | contradiction | (simp only [List.length_map] at h; omega))))
          all_goals exact Runs.ctls 30 rfl (Runs.ret (ends2d hm rfl rfl rfl rfl))
      · rw [hd, show 10 - j = 0 by omega, scanD] at hsc
        subst hsc
        repeat' (first
          | refine RunsL.step tabOk hn rfl ?_
          | refine RunsL.nil ?_
          | refine Runs.toRegion 30 rfl ?_
          | (refine RunsL.pe hn rfl rfl rfl ?_; first
            | refine ⟨_, pu_callR hL rfl, ?_⟩
            | refine ⟨_, pu_indexS rfl rfl (by omega) hc', ?_⟩)
          | (refine Runs.ctls 30 rfl ?_; first | refine Runs.cond_t rfl ?_ | refine Runs.cond_f rfl ?_ | ((first | refine Runs.cond_yes rfl ?_ ?_ | refine Runs.cond_nno rfl ?_ ?_); · first | omega | rfl | assumption | (simp only [List.length_map]; omega)) | ((first | refine Runs.cond_no rfl ?_ ?_ | refine Runs.cond_nyes rfl ?_ ?_); · first | omega | rfl | assumption | (simp only [List.length_map]; omega)) | refine Runs.cond_dec rfl (fun h => ?_) (fun h => ?_) | refine Runs.cond_ndec rfl (fun h => ?_) (fun h => ?_) | refine Runs.cond_nb rfl (fun h => ?_) (fun h => ?_) | refine Runs.cond_b rfl (fun h => ?_) (fun h => ?_) | refine Runs.ret (ends_ro hm rfl rfl ?_) | exact Runs.ret (ends_cellR hm rfl rfl rfl (Nat.le_of_ble_eq_true rfl) rfl rfl))
          | refine op_box rfl (tl hn rfl) ?_
          | refine op_storeF rfl rfl rfl rfl (Nat.le_of_ble_eq_true rfl) ?_
          | refine op_alloc (tl hn rfl) ?_
          | refine op_storeN rfl rfl rfl rfl (Nat.le_of_ble_eq_true rfl) ?_
          | (refine RunsL.pe hn rfl rfl rfl ?_; first
            | refine ⟨_, pu_add rfl rfl (by omega), ?_⟩
            | refine ⟨_, pu_indexAddr_map rfl rfl (by omega) (by assumption), ?_⟩
            | refine ⟨_, pu_sub rfl rfl (by omega), ?_⟩
            | refine ⟨_, pu_pick_b rfl rfl rfl, ?_⟩
            | refine ⟨_, pu_mul rfl rfl (by omega), ?_⟩
            | refine ⟨_, pu_build rfl rfl rfl rfl rfl rfl, ?_⟩)
          | ((first | refine RunsL.guard_dec rfl rfl rfl ?_ ?_ | refine RunsL.guard_ndec rfl rfl rfl ?_ ?_ | refine RunsL.guard_nb rfl rfl rfl ?_ ?_ | refine RunsL.guard_b rfl rfl rfl ?_ ?_) <;> intro h <;> try (exfalso; first | omega | contradiction | (simp only [List.length_map] at h; omega))))
        all_goals exact Runs.ctls 30 rfl (Runs.ret (ends2d hm rfl rfl rfl rfl))
    · rw [List.drop_of_length_le (by omega), scanD] at hsc
      subst hsc
      repeat' (first
        | refine RunsL.step tabOk hn rfl ?_
        | refine RunsL.nil ?_
        | refine Runs.toRegion 30 rfl ?_
        | (refine RunsL.pe hn rfl rfl rfl ?_; first
          | refine ⟨_, pu_callR hL rfl, ?_⟩)
        | (refine Runs.ctls 30 rfl ?_; first | refine Runs.cond_t rfl ?_ | refine Runs.cond_f rfl ?_ | ((first | refine Runs.cond_yes rfl ?_ ?_ | refine Runs.cond_nno rfl ?_ ?_); · first | omega | rfl | assumption | (simp only [List.length_map]; omega)) | ((first | refine Runs.cond_no rfl ?_ ?_ | refine Runs.cond_nyes rfl ?_ ?_); · first | omega | rfl | assumption | (simp only [List.length_map]; omega)) | refine Runs.cond_dec rfl (fun h => ?_) (fun h => ?_) | refine Runs.cond_ndec rfl (fun h => ?_) (fun h => ?_) | refine Runs.cond_nb rfl (fun h => ?_) (fun h => ?_) | refine Runs.cond_b rfl (fun h => ?_) (fun h => ?_) | refine Runs.ret (ends_ro hm rfl rfl ?_) | exact Runs.ret (ends_cellR hm rfl rfl rfl (Nat.le_of_ble_eq_true rfl) rfl rfl))
        | refine op_box rfl (tl hn rfl) ?_
        | refine op_storeF rfl rfl rfl rfl (Nat.le_of_ble_eq_true rfl) ?_
        | refine op_alloc (tl hn rfl) ?_
        | refine op_storeN rfl rfl rfl rfl (Nat.le_of_ble_eq_true rfl) ?_
        | (refine RunsL.pe hn rfl rfl rfl ?_; first
          | refine ⟨_, pu_add rfl rfl (by omega), ?_⟩
          | refine ⟨_, pu_indexAddr_map rfl rfl (by omega) (by assumption), ?_⟩
          | refine ⟨_, pu_sub rfl rfl (by omega), ?_⟩
          | refine ⟨_, pu_pick_b rfl rfl rfl, ?_⟩
          | refine ⟨_, pu_mul rfl rfl (by omega), ?_⟩
          | refine ⟨_, pu_build rfl rfl rfl rfl rfl rfl, ?_⟩)
        | ((first | refine RunsL.guard_dec rfl rfl rfl ?_ ?_ | refine RunsL.guard_ndec rfl rfl rfl ?_ ?_ | refine RunsL.guard_nb rfl rfl rfl ?_ ?_ | refine RunsL.guard_b rfl rfl rfl ?_ ?_) <;> intro h <;> try (exfalso; first | omega | contradiction | (simp only [List.length_map] at h; omega))))
      all_goals exact Runs.ctls 30 rfl (Runs.ret (ends2d hm rfl rfl rfl rfl))
end Go.Proofs.YtnbjncafoahclaaDoor
/- Regions that draw their order, with some operations that look at operands alone and may come late. Over any program. -/
namespace Go.Proofs.YtnbjncafoahclaaDoor
set_option linter.unusedSimpArgs false
set_option linter.unusedVariables false
open Go.RowKit
open AV (Mem Keeps)
/-! ### An operation that looks at operands alone. -/
section
variable {P : Program} {md : Region.Mode} {ops : Array Oper}
def YA (P : Program) (ops : Array Oper) (o : Oper) (v : Value) (a : Act) : Prop := Region.wanted o (yielded ops a.tmps) = true ∧ ∀ w, (execOp a.eval o).run P w = .ok (.value v) w
theorem YA.put {oi oj : Oper} {v u : Value} {a : Act} (hsi : ∀ cs b, oi.op ≠ .select cs b) (h3 : ∀ d, oj.dst = some d → d ∉ oi.looksAt ops) (h : YA P ops oi v a) : YA P ops oi v (a.put oj.dst u) :=
  ⟨by rw [wanted_put oi a oj.dst u h3]; exact h.1, fun w => by rw [execOp_put oi hsi a oj.dst u h3]; exact h.2 w⟩
theorem wpOp_ya {F : Act → World → Prop} {j : Nat} {oi oj : Oper} {v : Value} (hj : ops[j]? = some oj) (hap : oi.apart ops oj = true) (hsi : ∀ cs b, oi.op ≠ .select cs b) (hsj : ∀ cs b, oj.op ≠ .select cs b) {K K' : Act → World → Prop} {a : Act} {w : World} (hy : YA P ops oi v a)
    (h : wpOp P ops (nrm F) j K' (a.put oi.dst v) w) (hK : ∀ a' w', YA P ops oi v a' → K' (a'.put oi.dst v) w' → K a' w') : wpOp P ops (nrm F) j K a w := by
  obtain ⟨h1, h2, h3⟩ := Oper.apart_spec hap
  unfold wpOp at *
  simp only [hj] at *
  rw [wanted_put oj a oi.dst _ h1] at h
  have key : ∀ u w', K' ((a.put oi.dst v).put oj.dst u) w' → K (a.put oj.dst u) w' := fun u w' hk => hK _ _ (hy.put hsi h3) (by rwa [← Act.put_comm a v u h2])
  split
  · rename_i hw
    simp only [hw, if_true] at h
    refine h.imp (fun h => ?_) (fun h => ⟨?_, h.2⟩)
    · unfold Oper.wp at *
      rw [execOp_put oj hsj a oi.dst _ h1] at h
      generalize (execOp a.eval oj).run P w = r at *
      cases r with
      | ok n w' =>
        cases n with
        | value u => exact key u w' h
        | skip => exact key undef w' h
        | enter f args => exact Calls.mono h (fun e w'' he => by cases e <;> first | exact key _ w'' he | exact he | exact he.elim)
        | row r args => exact Rows.mono h fun v w'' he => key v w'' he
        | defer d =>
          simp only [Oper.upon] at h ⊢
          have e : ({ a.put oi.dst v with defers := d :: (a.put oi.dst v).defers } : Act).put oj.dst undef = (({ a with defers := d :: a.defers } : Act).put oj.dst undef).put oi.dst v := by
            have := Act.put_comm ({ a with defers := d :: a.defers } : Act) v undef h2
            rw [← this]
            cases oi.dst <;> rfl
          rw [e] at h
          refine hK _ _ ?_ h
          have hy' : YA P ops oi v ({ a with defers := d :: a.defers } : Act) := hy
          exact hy'.put hsi h3
        | _ => exact h
      | halt x w' => cases x <;> exact h
    · have := h.1
      unfold Oper.asks at this ⊢
      rwa [execOp_put oj hsj a oi.dst _ h1] at this
  · rename_i hw
    simp only [hw] at h
    exact key undef w h
theorem wpAny_ya {F : Act → World → Prop} {i : Nat} {oi : Oper} {v : Value} (hi : ops[i]? = some oi) (hsel : ∀ (j : Nat) (o : Oper) cs b, ops[j]? = some o → o.op ≠ .select cs b) :
    ∀ (fuel : Nat) (listed : Array Bool) (a : Act) (w : World), YA P ops oi v a →
      (∀ j oj, ops[j]? = some oj → j ≠ i → listed.getD j true = false → (∀ e ∈ oj.after, Region.binds md e = true → e.on ≠ i) → oi.apart ops oj = true) →
      i ∈ Region.ready md ops listed →
      wpAny P md ops (nrm F) fuel (listed.setIfInBounds i true) (a.put oi.dst v) w → wpAny P md ops (nrm F) (fuel + 1) listed a w := by
  have own : ∀ {K : Act → World → Prop} {a : Act} {w : World}, YA P ops oi v a → K (a.put oi.dst v) w → wpOp P ops (nrm F) i K a w := by
    intro K a w hy h
    unfold wpOp
    simp only [hi]
    rw [if_pos hy.1]
    refine .inl ?_
    unfold Oper.wp
    rw [hy.2 w]
    exact h
  intro fuel
  induction fuel with
  | zero =>
    intro listed a w hy _ hr H
    refine ⟨fun h => (by rw [h] at hr; cases hr), fun j hj => ?_⟩
    by_cases hji : j = i
    · subst hji; exact own hy H
    · have := ready_mono hj hji
      rw [H.1] at this
      cases this
  | succ fuel ih =>
    intro listed a w hy hfree hr H
    refine ⟨fun h => (by rw [h] at hr; cases hr), fun j hj => ?_⟩
    by_cases hji : j = i
    · subst hji; exact own hy H
    · have h1 := H.2 j (ready_mono hj hji)
      obtain ⟨hjun, oj, hoj, hall⟩ := mem_ready.1 hj
      have hnot : ∀ e ∈ oj.after, Region.binds md e = true → e.on ≠ i := fun e he hb heq => by
        have h1 := hall e he hb
        have h0 := (mem_ready.1 hr).1
        rw [heq, getD_both h0] at h1
        cases h1
      have hfree' : ∀ k ok, ops[k]? = some ok → k ≠ i → (listed.setIfInBounds j true).getD k true = false →
          (∀ e ∈ ok.after, Region.binds md e = true → e.on ≠ i) → oi.apart ops ok = true := fun k ok hk hki hun hno => by
        refine hfree k ok hk hki ?_ hno
        by_cases hjk : j = k
        · subst hjk; exact hjun
        · rw [getD_set_ne true hjk] at hun; exact hun
      refine wpOp_ya hoj (hfree j oj hoj hji hjun hnot) (fun cs b => hsel i oi cs b hi) (fun cs b => hsel j oj cs b hoj) hy h1 fun a' w' hy' h3 => ih (listed.setIfInBounds j true) a' w' hy' hfree' (ready_mono hr (Ne.symm hji)) ?_
      rw [Array.setIfInBounds_comm _ _ hji]
      exact h3
def isMv (o : Oper) : Bool := match o with
  | ⟨some _, .move _, _, _, _, none⟩ => true
  | ⟨some _, .extract _ _, _, _, _, none⟩ => true
  | _ => false
/-- Such an operation yields a value whatever the world, or none at all. -/
theorem isMv_ya {o : Oper} (h : isMv o = true) (a : Act) : (∃ u, YA P ops o u a) ∨ ∀ w x w', (execOp a.eval o).run P w ≠ .ok x w' ∧ ∀ v, (execOp a.eval o).run P w ≠ .halt (.panic v) w' := by
  obtain ⟨dst, op, ty, pos, after, g⟩ := o
  unfold isMv at h
  split at h
  · rename_i he; injection he with e1 e2 e3 e4 e5 e6; subst e1; subst e2; subst e6
    exact .inl ⟨_, by simp [Region.wanted], fun w => by simp [execOp]; rfl⟩
  · rename_i t x j _ _ _ he; injection he with e1 e2 e3 e4 e5 e6; subst e1; subst e2; subst e6
    cases hx : a.eval x with
    | tuple vs =>
      cases hv : vs[j]? with
      | some u => exact .inl ⟨u, by simp [Region.wanted], fun w => by simp [execOp, Instr.extract, hx, hv]⟩
      | none => exact .inr fun w x w' => by simp [execOp, Instr.extract, hx, hv, stuck]
    | _ => exact .inr fun w x w' => by simp [execOp, Instr.extract, hx, stuck]
  · cases h
end
/-! ### Any order, abstractly. -/
def backB (md : Region.Mode) (ops : Array Oper) (e : Nat) : Bool := match ops[e]? with
  | some o => o.after.all fun ed => !Region.binds md ed || decide (ed.on < e)
  | none => false
def sinkQ (md : Region.Mode) (ops : Array Oper) (pri : List Nat) (n : Nat) : Bool :=
  (List.range n).all fun i => (pri.contains i && backB md ops i) || (!pri.contains i && (List.range (n + 1)).any fun j => decide (i < j) && (decide (j = n) || !pri.contains j) && Region.waitsFor md ops j i)
def freeAll (md : Region.Mode) (ops : Array Oper) (e : Nat) : Bool := match ops[e]? with
  | some o => isMv o && (List.range ops.size).all fun j => decide (j = e) || Region.waitsFor md ops j e || Region.waitsFor md ops e j || match ops[j]? with
    | some oj => o.apart ops oj
    | none => true
  | none => false
theorem freeAll_spec {md : Region.Mode} {ops : Array Oper} {e : Nat} {oe : Oper} (he : ops[e]? = some oe) (h : freeAll md ops e = true) : isMv oe = true ∧ ∀ j oj, ops[j]? = some oj → j ≠ e → (∀ ed ∈ oj.after, Region.binds md ed = true → ed.on ≠ e) → (∀ ed ∈ oe.after, Region.binds md ed = true → ed.on ≠ j) → oe.apart ops oj = true := by
  unfold freeAll at h
  rw [he] at h
  simp only [Bool.and_eq_true] at h
  refine ⟨h.1, fun j oj hj hje hno hno' => ?_⟩
  have hjl : j < ops.size := (Array.getElem?_eq_some_iff.1 hj).1
  have := List.all_eq_true.1 h.2 j (List.mem_range.2 hjl)
  rw [hj] at this
  simp only [Bool.or_eq_true, decide_eq_true_eq] at this
  rcases this with ((h1 | h1) | h1) | h1
  · exact absurd h1 hje
  · obtain ⟨o', ho', ed, hed, hb, hon⟩ := Region.waitsFor_spec h1
    have : o' = oj := Option.some.inj (ho'.symm.trans hj)
    subst this
    exact absurd hon (hno ed hed hb)
  · obtain ⟨o', ho', ed, hed, hb, hon⟩ := Region.waitsFor_spec h1
    have : o' = oe := Option.some.inj (ho'.symm.trans he)
    subst this
    exact absurd hon (hno' ed hed hb)
  · exact h1
section
variable {P : Program} {C : Ctx} {ops : Array Oper} {σ : List Ob} {md : Region.Mode} {rs : Res} {pri : List Nat}
def wpAnyQ (P : Program) (C : Ctx) (md : Region.Mode) (ops : Array Oper) (σ : List Ob) (rs : Res) (pri : List Nat) (n : Nat) (L : Array Bool → EE → Prop) : Nat → Array Bool → EE → Prop
  | 0, listed, E => L listed E
  | f + 1, listed, E => (∃ e ∈ pri, e ∈ Region.ready md ops listed ∧ e < n ∧ aOpR P C ops σ rs e (wpAnyQ P C md ops σ rs pri n L f (listed.setIfInBounds e true)) E) ∨
      ((∀ e ∈ pri, e ∉ Region.ready md ops listed) ∧ Region.ready md ops listed ≠ [] ∧ ∀ i ∈ Region.ready md ops listed, i < n ∧ aOpR P C ops σ rs i (wpAnyQ P C md ops σ rs pri n L f (listed.setIfInBounds i true)) E)
theorem notready {listed : Array Bool} {e : Nat} {o : Oper} (he : ops[e]? = some o) (hun : listed.getD e true = false) (h : e ∉ Region.ready md ops listed) : ∃ ed ∈ o.after, Region.binds md ed = true ∧ listed.getD ed.on false = false := by
  apply Classical.byContradiction
  intro hno
  refine h (mem_ready.2 ⟨hun, o, he, fun ed hed hb => ?_⟩)
  cases hl : listed.getD ed.on false with
  | true => rfl
  | false => exact absurd ⟨ed, hed, hb, hl⟩ hno
theorem unlisted_plain {n : Nat} {listed : Array Bool} (hs : sinkQ md ops pri n = true) (hn : n < ops.size) (hsz : listed.size = ops.size) (hno : ∀ e ∈ pri, e ∉ Region.ready md ops listed) :
    ∀ i, i < n → listed.getD i true = false → ∃ i', i' < n ∧ listed.getD i' true = false ∧ pri.contains i' = false := by
  intro i
  induction i using Nat.strongRecOn with
  | _ i ih =>
    intro hi hun
    have h1 := List.all_eq_true.1 hs i (List.mem_range.2 hi)
    rw [Bool.or_eq_true, Bool.and_eq_true, Bool.and_eq_true, Bool.not_eq_true'] at h1
    rcases h1 with ⟨hp, hb⟩ | ⟨hp, _⟩
    · have hmem : i ∈ pri := by simpa using hp
      obtain ⟨o, ho⟩ : ∃ o, ops[i]? = some o := ⟨_, Array.getElem?_eq_getElem (by omega)⟩
      obtain ⟨ed, hed, hbi, hl⟩ := notready ho hun (hno i hmem)
      unfold backB at hb
      rw [ho] at hb
      have := Array.all_eq_true'.1 hb ed hed
      rw [hbi] at this
      simp only [Bool.not_true, Bool.false_or, decide_eq_true_eq] at this
      exact ih ed.on this (by omega) (getD_in (by rw [hsz]; omega) hl)
    · exact ⟨i, hi, hun, hp⟩
theorem tail_waitsQ {n : Nat} {listed : Array Bool} (hs : sinkQ md ops pri n = true) (hc : Region.chainB md ops n = true) (hn : n < ops.size) (inv : HeadInv md ops n listed) (hno : ∀ e ∈ pri, e ∉ Region.ready md ops listed) {i : Nat} (hi : i < n) (hun : listed.getD i true = false) :
    ∀ t, n ≤ t → t ∉ Region.ready md ops listed := by
  obtain ⟨i0, hi0, hun0, hp0⟩ := unlisted_plain hs hn inv.size hno i hi hun
  have key : ∀ (d i : Nat), n - i = d → i < n → listed.getD i true = false → pri.contains i = false → n ∉ Region.ready md ops listed := by
    intro d
    induction d using Nat.strongRecOn with
    | _ d ih =>
      intro i hd hi hun hp hr
      obtain ⟨_, ot, hot, hall⟩ := mem_ready.1 hr
      have h1 := List.all_eq_true.1 hs i (List.mem_range.2 hi)
      rw [hp] at h1
      simp only [Bool.false_and, Bool.false_or, Bool.not_false, Bool.true_and] at h1
      obtain ⟨j, hj, hj2⟩ := List.any_eq_true.1 h1
      simp only [Bool.and_eq_true, Bool.or_eq_true, decide_eq_true_eq, Bool.not_eq_true'] at hj2
      obtain ⟨⟨hij, hjp⟩, hw⟩ := hj2
      obtain ⟨oj, hoj, e, he, hb, hon⟩ := Region.waitsFor_spec hw
      have hjle : j ≤ n := by have := List.mem_range.1 hj; omega
      by_cases hjt : j = n
      · subst hjt
        have : oj = ot := Option.some.inj (hoj.symm.trans hot)
        subst this
        have h2 := hall e he hb
        rw [hon, getD_both hun] at h2
        cases h2
      · have hjp' : pri.contains j = false := hjp.resolve_left hjt
        cases hl : listed.getD j false with
        | true =>
          have h2 := inv.closed j oj hoj hl e he hb
          rw [hon, getD_both hun] at h2
          cases h2
        | false =>
          have hjs : j < listed.size := by rw [inv.size]; omega
          exact ih (n - j) (by omega) j rfl (by omega) (getD_in hjs hl) hjp' hr
  intro t ht hr
  obtain ⟨_, ot, hot, hall⟩ := mem_ready.1 hr
  have htlt : t < ops.size := (Array.getElem?_eq_some_iff.1 hot).1
  by_cases htn : t = n
  · subst htn; exact key _ i0 rfl hi0 hun0 hp0 hr
  · have h1 := List.all_eq_true.1 hc t (List.mem_range.2 htlt)
    simp only [Bool.or_eq_true, decide_eq_true_eq] at h1
    rcases h1 with h1 | h1
    · omega
    · obtain ⟨o', ho', e, he, hb, hon⟩ := Region.waitsFor_spec h1
      have : o' = ot := Option.some.inj (ho'.symm.trans hot)
      subst this
      have h2 := hall e he hb
      rw [hon, getD_both (inv.tail (t - 1) (by omega) (by omega))] at h2
      cases h2
theorem not_waits {listed : Array Bool} {i j : Nat} {oj : Oper} (hi : i ∈ Region.ready md ops listed) (hj : j ∈ Region.ready md ops listed) (hoj : ops[j]? = some oj) : ∀ e ∈ oj.after, Region.binds md e = true → e.on ≠ i := fun e he hb heq => by
  obtain ⟨_, o', ho', hall⟩ := mem_ready.1 hj
  have : o' = oj := Option.some.inj (ho'.symm.trans hoj)
  subst this
  have h1 := hall e he hb
  rw [heq, getD_both (mem_ready.1 hi).1] at h1
  cases h1
theorem Q_any {n : Nat} {L : Array Bool → EE → Prop} (hpri : ∀ e ∈ pri, freeAll md ops e = true) (hdone : ∀ listed E, L listed E → ∀ j ∈ Region.ready md ops listed, n ≤ j) :
    ∀ (f : Nat) (listed : Array Bool) (E : EE), wpAnyQ P C md ops σ rs pri n L f listed E → ∀ j ∈ Region.ready md ops listed, j < n → ∃ f', f = f' + 1 ∧ aOpR P C ops σ rs j (wpAnyQ P C md ops σ rs pri n L f' (listed.setIfInBounds j true)) E
  | 0, listed, E, h, j, hj, hjn => by have := hdone _ _ h j hj; omega
  | f + 1, listed, E, h, j, hj, hjn => by
    rcases h with ⟨e, he, her, hen, o, v, ho, hy, hK⟩ | ⟨_, _, h⟩
    · by_cases hej : e = j
      · subst hej; exact ⟨f, rfl, o, v, ho, hy, hK⟩
      · obtain ⟨f', rfl, h2⟩ := Q_any hpri hdone f _ _ hK j (ready_mono hj (Ne.symm hej)) hjn
        refine ⟨f' + 1, rfl, ?_⟩
        obtain ⟨_, oj, hoj, _⟩ := mem_ready.1 hj
        have hap := (freeAll_spec ho (hpri e he)).2 j oj hoj (Ne.symm hej) (not_waits her hj hoj) (not_waits hj her ho)
        refine aOpR_mono (fun E' h3 => .inl ⟨e, he, ready_mono her hej, hen, o, v, ho, h3.1, ?_⟩) (aOpR_put hoj hap hy h2)
        rw [Array.setIfInBounds_comm _ _ (Ne.symm hej)]
        exact h3.2
    · exact ⟨f, rfl, (h j hj).2⟩
theorem Q_first {n i : Nat} {oi : Oper} {v : AV} {L : Array Bool → EE → Prop} (hi : ops[i]? = some oi) (hpri : ∀ e ∈ pri, freeAll md ops e = true)
    (hs : sinkQ md ops pri n = true) (hc : Region.chainB md ops n = true) (hn : n < ops.size) (hin : i < n) (hpn : ∀ e ∈ pri, e < n)
    (hdone : ∀ listed E, L listed E → ∀ j ∈ Region.ready md ops listed, n ≤ j) :
    ∀ (f : Nat) (listed : Array Bool) (E : EE), HeadInv md ops n listed →
      (∀ j oj, ops[j]? = some oj → j ≠ i → listed.getD j true = false → (∀ e ∈ oj.after, Region.binds md e = true → e.on ≠ i) → oi.apart ops oj = true) →
      i ∈ Region.ready md ops listed → YF P C ops σ rs i oi v E →
      wpAnyQ P C md ops σ rs pri n L f (listed.setIfInBounds i true) (putE E oi.dst v) → wpAnyQ P C md ops σ rs pri n L (f + 1) listed E := by
  intro f
  induction f with
  | zero =>
    intro listed E inv hfree hr hy H
    by_cases hp : i ∈ pri
    · exact .inl ⟨i, hp, hr, hin, oi, v, hi, hy, H⟩
    · have no : ∀ j ∈ Region.ready md ops listed, j < n → j = i := fun j hj hjn => by
        apply Classical.byContradiction
        intro hji
        have := hdone _ _ H j (ready_mono hj hji)
        omega
      have hnp : ∀ e ∈ pri, e ∉ Region.ready md ops listed := fun e he her => hp (no e her (hpn e he) ▸ he)
      refine .inr ⟨hnp, fun h => (by rw [h] at hr; cases hr), fun j hj => ?_⟩
      have hjn : j < n := by
        rcases Nat.lt_or_ge j n with h | h
        · exact h
        · exact absurd hj (tail_waitsQ hs hc hn inv hnp hin (mem_ready.1 hr).1 j h)
      obtain rfl := no j hj hjn
      exact ⟨hjn, oi, v, hi, hy, H⟩
  | succ f ih =>
    intro listed E inv hfree hr hy H
    by_cases hp : i ∈ pri
    · exact .inl ⟨i, hp, hr, hin, oi, v, hi, hy, H⟩
    · have step : ∀ j ∈ Region.ready md ops listed, j < n → j ≠ i → aOpR P C ops σ rs j (wpAnyQ P C md ops σ rs pri n L (f + 1) (listed.setIfInBounds j true)) E := fun j hj hjn hji => by
        obtain ⟨f', hf, h1⟩ := Q_any hpri hdone _ _ _ H j (ready_mono hj hji) hjn
        injection hf with hf
        have hf : f' = f := hf.symm
        subst hf
        obtain ⟨hjun, oj, hoj, hall⟩ := mem_ready.1 hj
        have hfree' : ∀ k ok, ops[k]? = some ok → k ≠ i → (listed.setIfInBounds j true).getD k true = false →
            (∀ e ∈ ok.after, Region.binds md e = true → e.on ≠ i) → oi.apart ops ok = true := fun k ok hk hki hun hno => by
          refine hfree k ok hk hki ?_ hno
          by_cases hjk : j = k
          · subst hjk; exact hjun
          · rw [getD_set_ne true hjk] at hun; exact hun
        refine aOpR_mono (fun E' h3 => ih (listed.setIfInBounds j true) E' (inv.set hj hjn) hfree' (ready_mono hr (Ne.symm hji)) h3.1 ?_) (aOpR_put hoj (hfree j oj hoj hji hjun (not_waits hr hj hoj)) hy h1)
        rw [Array.setIfInBounds_comm _ _ hji]
        exact h3.2
      by_cases he : ∃ e ∈ pri, e ∈ Region.ready md ops listed
      · obtain ⟨e, he, her⟩ := he
        exact .inl ⟨e, he, her, hpn e he, step e her (hpn e he) (by rintro rfl; exact hp he)⟩
      · have hnp : ∀ e ∈ pri, e ∉ Region.ready md ops listed := fun e h1 h2 => he ⟨e, h1, h2⟩
        refine .inr ⟨hnp, fun h => (by rw [h] at hr; cases hr), fun j hj => ?_⟩
        have hjn : j < n := by
          rcases Nat.lt_or_ge j n with h | h
          · exact h
          · exact absurd hj (tail_waitsQ hs hc hn inv hnp hin (mem_ready.1 hr).1 j h)
        refine ⟨hjn, ?_⟩
        by_cases hji : j = i
        · subst hji; exact ⟨oi, v, hi, hy, H⟩
        · exact step j hj hjn hji
theorem wpAnyQ_lex {n g : Nat} {Lq : EE → Prop} (hpri : ∀ e ∈ pri, freeAll md ops e = true) (hpn : ∀ e ∈ pri, e < n) (hs : sinkQ md ops pri n = true) (hc : Region.chainB md ops n = true) (hn : n < ops.size) :
    ∀ (l : List (Nat × Oper)) (listed : Array Bool) (E : EE), (∀ p ∈ l, ops[p.1]? = some p.2) → HeadInv md ops n listed →
    lexIdx md ops g n (l.map (·.1)) listed = true → wpLexR P C ops σ rs Lq l E →
    wpAnyQ P C md ops σ rs pri n (fun listed' E' => Region.seqB md ops g n listed' = true ∧ (∀ j, j < n → listed'.getD j false = true) ∧ Lq E') l.length listed E
  | [], listed, E, _, _, hB, h => by
    simp only [List.map_nil, lexIdx, Bool.and_eq_true] at hB
    exact ⟨hB.1, fun j hj => List.all_eq_true.1 hB.2 j (List.mem_range.2 hj), h⟩
  | (k, o) :: l, listed, E, hl, inv, hB, h => by
    have h0 : ops[k]? = some o := hl (k, o) (by simp)
    simp only [List.map_cons, lexIdx, Bool.and_eq_true, decide_eq_true_eq] at hB
    obtain ⟨⟨⟨hr, hf⟩, hkn⟩, hB'⟩ := hB
    have hr' : k ∈ Region.ready md ops listed := by simpa using hr
    obtain ⟨v, hy, hK⟩ := h
    exact Q_first h0 hpri hs hc hn hkn hpn (fun listed' E' hL => seqB_ready hL.1) l.length listed E inv (Region.free_spec h0 hf) hr' hy
      (wpAnyQ_lex hpri hpn hs hc hn l _ _ (fun p hp => hl p (by simp [hp])) (inv.set hr' hkn) hB' hK)
/-! ### .. and what really runs. -/
variable {listed : Array Bool} {E : EE} {a : Act} {w : World}
theorem SimR.mv {i : Nat} {o : Oper} {v : AV} (hs : SimR C σ rs listed E a w) (ho : ops[i]? = some o) (hd : ∀ t, o.dst = some t → t < C.n) (hm : isMv o = true)
    (hy : YF P C ops σ rs i o v E) : ∃ u, YA P ops o u a ∧ SimR C σ rs (listed.setIfInBounds i true) (putE E o.dst v) (a.put o.dst u) w := by
  obtain ⟨s1, s2, φ, hG, hφ, hE⟩ := hs
  obtain ⟨dst, op, ty, pos, after, g⟩ := o
  obtain ⟨t, rfl, rfl⟩ : ∃ t, dst = some t ∧ g = none := by
    unfold isMv at hm
    split at hm
    · rename_i he; injection he with e1 e2 e3 e4 e5 e6; exact ⟨_, e1, e6⟩
    · rename_i he; injection he with e1 e2 e3 e4 e5 e6; exact ⟨_, e1, e6⟩
    · cases hm
  have htn := hd t rfl
  rcases hy with ⟨h0, ⟨hg, hv⟩ | ⟨hg, _⟩⟩ | ⟨p, e, zs, hp, hop, _⟩
  · have hwp := hv (res rs listed) a ⟨w, φ, σ ++ res rs listed, C.ok⟩ hG rfl (fun x _ => ev_evE' hE x) (fun a' w' => ∃ u, a' = a.put (some t) u ∧ AV.rel ⟨w', φ, σ ++ res rs listed, C.ok⟩ v u) (fun _ _ _ => False) fun u w' hb hu => ⟨u, rfl, hu⟩
    rcases isMv_ya (P := P) (ops := ops) hm a with ⟨u, hya⟩ | hno
    · refine ⟨u, hya, ?_⟩
      unfold Oper.wp at hwp
      rw [hya.2 w] at hwp
      simp only [Oper.upon] at hwp
      obtain ⟨u', he, hu⟩ := hwp
      have hu' : u = u' := by
        have h1 := getD_put a t t u (by rw [s2]; exact htn)
        have h2 := getD_put a t t u' (by rw [s2]; exact htn)
        rw [if_pos rfl] at h1 h2
        rw [← h1, ← h2, he]
      subst hu'
      refine ⟨s1, by simp [Act.put, s2], φ, ?_, fun p r hp hl => hφ p r hp ?_, fun s => ?_⟩
      · rw [res_same h0]; exact hG
      · rwa [getD_set_ne false (Ne.symm (h0 r (List.mem_of_getElem? hp)))] at hl
      · rw [res_same h0, getD_put a t s u (by rw [s2]; exact htn)]
        simp only [putE]
        split
        · exact hu
        · exact hE s
    · exfalso
      unfold Oper.wp at hwp
      cases hr : (execOp a.eval (⟨some t, op, ty, pos, after, none⟩ : Oper)).run P w with
      | ok x w' => exact (hno w x w').1 hr
      | halt q w' =>
        rw [hr] at hwp
        cases q <;> first | exact hwp | exact (hno w .skip w').2 _ hr
  · simp [gsayE] at hg
  · exfalso
    simp only at hop
    subst hop
    simp [isMv] at hm
theorem wpAny_of_Q {n g : Nat} {L : Array Bool → EE → Prop} {F : Act → World → Prop} (hpri : ∀ e ∈ pri, freeAll md ops e = true) (hsel : ∀ (j : Nat) (o : Oper) cs b, ops[j]? = some o → o.op ≠ .select cs b) (hnd : (rs.map (·.1)).Nodup) (hd : ∀ (i : Nat) o t, ops[i]? = some o → o.dst = some t → t < C.n)
    (hL : ∀ listed E a w, L listed E → SimR C σ rs listed E a w → wpAny P md ops (nrm F) g listed a w) :
    ∀ (f : Nat) (listed : Array Bool) (E : EE) (a : Act) (w : World), SimR C σ rs listed E a w → wpAnyQ P C md ops σ rs pri n L f listed E → wpAny P md ops (nrm F) (f + g) listed a w
  | 0, listed, E, a, w, hs, h => by rw [Nat.zero_add]; exact hL _ _ _ _ h hs
  | f + 1, listed, E, a, w, hs, h => by
    rw [show f + 1 + g = (f + g) + 1 by omega]
    rcases h with ⟨e, he, her, hen, o, v, ho, hy, hK⟩ | ⟨_, h0, h⟩
    · obtain ⟨hmv, hap⟩ := freeAll_spec ho (hpri e he)
      obtain ⟨u, hya, hs'⟩ := SimR.mv hs ho (fun t ht => hd e o t ho ht) hmv hy
      exact wpAny_ya ho hsel _ listed a w hya (fun j oj hj hje hun hno => hap j oj hj hje hno fun ed hed hb hon => by
        obtain ⟨_, o', ho', hall⟩ := mem_ready.1 her
        have : o' = o := Option.some.inj (ho'.symm.trans ho)
        subst this
        have h1 := hall ed hed hb
        rw [hon, getD_both hun] at h1
        cases h1) her (wpAny_of_Q hpri hsel hnd hd hL f _ _ _ w hs' hK)
    · refine ⟨fun h1 => absurd h1 h0, fun i hi => ?_⟩
      obtain ⟨o, v, ho, hy, hK⟩ := (h i hi).2
      exact SimR.op hnd hs (mem_ready.1 hi).1 ho (fun t ht => hd i o t ho ht) hy fun a' w' hs' => wpAny_of_Q hpri hsel hnd hd hL f _ _ a' w' hs' hK
end
def drawQB (l : List Oper) (pri head : List Nat) (n : Nat) : Bool :=
  Region.noSelect l.toArray && decide (n < l.length) && sinkQ .any l.toArray pri n && Region.chainB .any l.toArray n && decide ((pick l head).length = n) && (pri.all fun e => decide (e < n) && freeAll .any l.toArray e) &&
  lexIdx .any l.toArray (l.length - n) n ((pick l head).map (·.1)) (Array.replicate l.length false)
section
variable {P : Program} {C : Ctx} {k : List Item} {R : Act → World → Prop} {env : Env} {σ : List Ob}
theorem Runs.drawQ {id : Nat} {l : List Oper} {cn : Nat} (pri head : List Nat) (n : Nat) (rs : Res) (hf : P.follows .mixedOrders = true) (hn : C.n = cn) (hB : drawQB l pri head n = true) (hd : dstOk cn l = true)
    (hnd : (rs.map (·.1)).Nodup) (hrs : ∀ r ∈ rs, r.1 < n)
    (h : RunsT P C l.toArray rs (l.drop n) (pick l head) k R ⟨env, σ⟩) : Runs P C (.code (.region id l.toArray true) :: k) R ⟨env, σ⟩ := by
  refine ⟨fun a w hs => Fin.of_wp (wp_region_any hf ?_)⟩
  unfold drawQB at hB
  simp only [Bool.and_eq_true, decide_eq_true_eq] at hB
  obtain ⟨⟨⟨⟨⟨⟨hsel, hnl⟩, hsk⟩, hch⟩, hlen⟩, hpr⟩, hlex⟩ := hB
  have hpri : ∀ e ∈ pri, freeAll .any l.toArray e = true := fun e he => by have := List.all_eq_true.1 hpr e he; simp only [Bool.and_eq_true] at this; exact this.2
  have hpn : ∀ e ∈ pri, e < n := fun e he => by have := List.all_eq_true.1 hpr e he; simp only [Bool.and_eq_true, decide_eq_true_eq] at this; exact this.1
  obtain ⟨s1, s2, φ, hG, hE⟩ := hs
  have hb : Below w.heap.size w { w with drawn := w.drawn + 1 } := ⟨rfl, rfl, rfl, Nat.le_refl _, fun _ _ => rfl⟩
  obtain ⟨g1, g2⟩ := good_below hG hb
  let φ0 : Nat → Option Nat := fun i => if i < σ.length then φ i else none
  have hφ0 : ∀ j, φ0 (σ.length + j) = none := fun j => if_neg (by omega)
  obtain ⟨G1, G2⟩ := good_grow (φ' := φ0) (new := res rs (Array.replicate l.length false)) g1 (Below.refl _ _) (fun i hi => if_pos hi) (fun j hj g hg => by rw [hφ0] at hg; cases hg) (fun i j g hi hj e1 e2 => by rw [hφ0] at e1; cases e1) (fun j o hj => by rw [hφ0]; exact res_none j o hj)
  have hE1 : ∀ t, AV.rel ⟨{ w with drawn := w.drawn + 1 }, φ0, σ ++ res rs (Array.replicate l.length false), C.ok⟩ (look env t) (a.tmps.getD t undef) := fun t => AV.rel_keeps G2 _ _ (AV.only_true _) (AV.rel_keeps g2 _ _ (AV.only_true _) (hE t))
  have hdd : ∀ (i : Nat) o t, l.toArray[i]? = some o → o.dst = some t → t < C.n := fun i o t hi ht => by rw [hn]; exact dstOk_at hd i o t (by simpa using hi) ht
  have inv0 : HeadInv .any l.toArray n (Array.replicate l.length false) :=
    ⟨by simp, fun j oj _ hl => (by rw [getD_replicate_false] at hl; cases hl), fun t _ ht => getD_in (by simpa using ht) (getD_replicate_false _ _)⟩
  have hmemH : ∀ p ∈ pick l head, l.toArray[p.1]? = some p.2 := fun p hp => by simpa using pick_mem hp
  have hsz : l.toArray.size = (pick l head).length + (l.length - n) := by simp; omega
  refine (show ∀ m, m = l.toArray.size → wpAny P .any l.toArray (nrm (Fin P k R)) m (Array.replicate l.toArray.size false) a { w with drawn := w.drawn + 1 } from ?_) _ rfl
  intro m hm
  obtain rfl := hm.trans hsz
  have H := wpAnyQ_lex (P := P) (C := C) (σ := σ) (md := .any) (ops := l.toArray) (g := l.length - n) hpri hpn hsk hch (by simpa using hnl) (pick l head) (Array.replicate l.toArray.size false) (look env) hmemH (by simpa using inv0) (by simpa using hlex) h.run
  refine wpAny_of_Q hpri (Region.noSelect_spec hsel) hnd hdd (fun listed' E' a'' w'' hL hS => ?_) _ _ (look env) a _ ⟨s1, s2, φ0, by simpa using G1, fun p r _ _ => hφ0 p, by simpa using hE1⟩ H
  obtain ⟨hsq, hall, env'', rfl, hR⟩ := hL
  have hfl := res_full (rs := rs) (listed := listed') fun r hr => hall r.1 (hrs r hr)
  obtain ⟨u1, u2, φ', G', _, hE''⟩ := hS
  rw [hfl] at G' hE''
  have := wpAny_of_seq (md := .any) (Q' := nrm (Fin P k R)) (l.drop n) n listed' a'' w'' (fun j => by simp [List.getElem?_drop]) (by rw [List.length_drop]; exact hsq) (hR.run a'' w'' ⟨u1, u2, φ', G', hE''⟩)
  rwa [List.length_drop] at this
theorem Runs.toDrawQ {id : Nat} {l : List Oper} {k' : List Item} {cn : Nat} (m : Nat) (pri head : List Nat) (n : Nat) (rs : Res) (hf : P.follows .mixedOrders = true) (hn : C.n = cn) (hc : Proofs.YtnbjncafoahclaaDoor.ctls m k = .code (.region id l.toArray true) :: k') (hB : drawQB l pri head n = true) (hd : dstOk cn l = true)
    (hnd : (rs.map (·.1)).Nodup) (hrs : ∀ r ∈ rs, r.1 < n)
    (h : RunsT P C l.toArray rs (l.drop n) (pick l head) k' R ⟨env, σ⟩) : Runs P C k R ⟨env, σ⟩ := Runs.ctls m hc (Runs.drawQ pri head n rs hf hn hB hd hnd hrs h)
end
end Go.Proofs.YtnbjncafoahclaaDoor
/- Regions that draw their order, in which objects and rows are made: each has its place from the first. Over any program. Printed by gen/dru.py. -/
namespace Go.Proofs.YtnbjncafoahclaaDoor
set_option linter.unusedSimpArgs false
set_option linter.unusedVariables false
open Go.RowKit
open AV (Mem Keeps)
/-! ### A block for a place that has none as yet. -/
section
variable {C : Ctx} {w w' : World} {φ : Nat → Option Nat} {σ : List Ob} {q g sz : Nat} {e : TypeId} {cs : List AV}
theorem keeps_fillU (hb : Below w.heap.size w w') (hg : w.heap.size ≤ g) (hq : σ[q]? = some ⟨e, 0, []⟩) (hφ : φ q = none) :
    Keeps (fun k => k ≠ q) ⟨w, φ, σ, C.ok⟩ ⟨w', upd φ q (some g), σ.set q ⟨e, sz, cs⟩, C.ok⟩ := by
  have hql : q < σ.length := (List.getElem?_eq_some_iff.1 hq).1
  refine ⟨⟨hb.size, fun b hlt hok => ⟨⟨hok.1, fun i hi he => ?_⟩, hb.block b hlt⟩⟩, fun i hi hil => ⟨by simpa using hil, upd_ne hi⟩, fun i ob hi ho => ⟨ob.cs, by simp only [List.getElem?_set_ne (Ne.symm hi)]; exact ho, rfl⟩, fun i b us t hi hil he hh => ⟨us, (hb.block b (Array.getElem?_eq_some_iff.1 hh).1).trans hh, rfl⟩⟩
  by_cases hiq : i = q
  · subst hiq; simp only [upd_eq, Option.some.injEq] at he; subst he; simp only at hlt; omega
  · simp only [upd_ne hiq] at he; exact hok.2 i (by simpa using hi) he
mutual
/-- Nothing is a value of a place that has no block. -/
theorem only_place (hq : σ[q]? = some ⟨e, 0, []⟩) (hφ : φ q = none) : ∀ (v : AV) (u : Value), AV.rel ⟨w, φ, σ, C.ok⟩ v u → v.only (fun k => k ≠ q)
  | .ro r, u, h => by simp [AV.only]
  | .junk, u, _ => by simp [AV.only]
  | .obj i off, u, h => by
    simp only [AV.rel] at h
    obtain ⟨_, g, h2, _⟩ := h
    simp only [AV.only]
    rintro rfl; rw [hφ] at h2; cases h2
  | .pin i off g, u, h => by
    simp only [AV.rel] at h
    obtain ⟨_, h2, _⟩ := h
    simp only [AV.only]
    rintro rfl; rw [hφ] at h2; cases h2
  | .own i, u, h => by
    simp only [AV.rel] at h
    obtain ⟨ob, n, h1, h2, h3, _⟩ := h
    simp only [AV.only]
    rintro rfl; rw [hq] at h1; injection h1 with h1; subst h1; exact absurd h3 (Nat.lt_irrefl 0)
  | .agg vs, u, h => by
    simp only [AV.rel] at h
    obtain ⟨us', _, h1⟩ := h
    simp only [AV.only]; exact onlys_place hq hφ vs _ h1
  | .tup vs, u, h => by
    simp only [AV.rel] at h
    obtain ⟨us', _, h1⟩ := h
    simp only [AV.only]; exact onlys_place hq hφ vs _ h1
  | .fn f a b, u, h => by
    simp only [AV.rel] at h
    obtain ⟨us', vs', _, h1, h2⟩ := h
    simp only [AV.only]; exact ⟨onlys_place hq hφ a _ h1, onlys_place hq hφ b _ h2⟩
theorem onlys_place (hq : σ[q]? = some ⟨e, 0, []⟩) (hφ : φ q = none) : ∀ (vs : List AV) (us' : List Value), AV.rels ⟨w, φ, σ, C.ok⟩ vs us' → AV.onlys (fun k => k ≠ q) vs
  | [], us', h => by simp [AV.onlys]
  | x :: xs, us', h => by
    simp only [AV.rels] at h
    obtain ⟨u, us'', _, h1, h2⟩ := h
    simp only [AV.onlys]; exact ⟨only_place hq hφ x u h1, onlys_place hq hφ xs us'' h2⟩
end
theorem rel_fillU (hb : Below w.heap.size w w') (hg : w.heap.size ≤ g) (hq : σ[q]? = some ⟨e, 0, []⟩) (hφ : φ q = none) (v : AV) (u : Value) (h : AV.rel ⟨w, φ, σ, C.ok⟩ v u) : AV.rel ⟨w', upd φ q (some g), σ.set q ⟨e, sz, cs⟩, C.ok⟩ v u :=
  AV.rel_keeps (keeps_fillU hb hg hq hφ) v u (only_place hq hφ v u h) h
theorem good_fillU (hG : Good C ⟨w, φ, σ, C.ok⟩) (hb : Below w.heap.size w w') (hg : w.heap.size ≤ g) (hq : σ[q]? = some ⟨e, 0, []⟩) (hφ : φ q = none) (hob : ObRel ⟨w', upd φ q (some g), σ.set q ⟨e, sz, cs⟩, C.ok⟩ ⟨e, sz, cs⟩ (some g)) :
    Good C ⟨w', upd φ q (some g), σ.set q ⟨e, sz, cs⟩, C.ok⟩ := by
  have hql : q < σ.length := (List.getElem?_eq_some_iff.1 hq).1
  refine ⟨rfl, fun i j b hi hj e1 e2 => ?_, fun i o hi => ?_, fun i b hi hbi => ?_, hG.frm.below hb⟩
  · simp only [List.length_set] at hi hj
    by_cases hiq : i = q <;> by_cases hjq : j = q
    · omega
    · subst hiq; simp only [upd_eq, Option.some.injEq] at e1; simp only [upd_ne hjq] at e2
      have := hG.lt hj e2; simp only at this; omega
    · subst hjq; simp only [upd_eq, Option.some.injEq] at e2; simp only [upd_ne hiq] at e1
      have := hG.lt hi e1; simp only at this; omega
    · simp only [upd_ne hiq] at e1; simp only [upd_ne hjq] at e2
      exact hG.inj i j b hi hj e1 e2
  · by_cases hiq : i = q
    · subst hiq
      simp only [List.getElem?_set_self hql, Option.some.injEq] at hi
      subst hi
      simp only [upd_eq]
      exact hob
    · simp only [List.getElem?_set_ne (Ne.symm hiq)] at hi
      have h := hG.ob i o hi
      simp only [upd_ne hiq]
      simp only at h
      cases hgi : φ i with
      | none => rw [hgi] at h; exact h
      | some b =>
        rw [hgi] at h
        obtain ⟨vs, q1, q2, q3⟩ := h
        refine ⟨vs, (hb.block b (Array.getElem?_eq_some_iff.1 q1).1).trans q1, q2, fun j v hj => ?_⟩
        obtain ⟨x, k1, k2, k3⟩ := q3 j v hj
        exact ⟨x, k1, k2, rel_fillU hb hg hq hφ v x k3⟩
  · simp only [List.length_set] at hi
    by_cases hiq : i = q
    · subst hiq; simp only [upd_eq, Option.some.injEq] at hbi; subst hbi; exact .inr (Nat.le_trans hG.frm.size hg)
    · simp only [upd_ne hiq] at hbi; exact hG.mine i b hi hbi
end
/-! ### Places. -/
/-- What is made in a place: by operation idx; of a row that operation pre has laid empty, in its slot. -/
structure RE where
  idx : Nat
  pre : Option (Nat × Nat)
  t : TypeId
  sz : Nat
  cs : List RV
abbrev ResU := List RE
def RE.ob (r : RE) : Ob := ⟨r.t, r.sz, r.cs.map .ro⟩
def RE.all (r : RE) : List Nat := r.idx :: match r.pre with
  | some p => [p.1]
  | none => []
def reOb (listed : Array Bool) (r : RE) : Ob :=
  if listed.getD r.idx false = true then r.ob else match r.pre with
    | some p => if listed.getD p.1 false = true then ⟨r.t, r.sz, []⟩ else ⟨r.t, 0, []⟩
    | none => ⟨r.t, 0, []⟩
def resU (rs : ResU) (listed : Array Bool) : List Ob := rs.map (reOb listed)
def fullU (rs : ResU) : List Ob := rs.map RE.ob
/-- The operation makes, in an empty place, such an object. -/
def MkN (P : Program) (C : Ctx) (o : Oper) (E : EE) (ob : Ob) (q : Nat) (v : AV) : Prop :=
  (v = .own q ∨ v = .obj q 0) ∧ ∀ (a : Act) (w : World) (φ : Nat → Option Nat) (σ : List Ob), Good C ⟨w, φ, σ, C.ok⟩ → σ[q]? = some ⟨ob.t, 0, []⟩ → φ q = none → (∀ x ∈ o.op.operands, AV.rel ⟨w, φ, σ, C.ok⟩ (evE E x) (a.eval x)) → ∀ (K : Act → World → Prop) (Q : Exit → Act → World → Prop),
    (∀ u w' g, Below w.heap.size w w' → w.heap.size ≤ g → ObRel ⟨w', upd φ q (some g), σ.set q ob, C.ok⟩ ob (some g) → AV.rel ⟨w', upd φ q (some g), σ.set q ob, C.ok⟩ v u → K (a.put o.dst u) w') → o.wp P a w K Q
/-- The operation makes, of the empty row that lies in slot s, such a row. -/
def MkQ (P : Program) (C : Ctx) (o : Oper) (E : EE) (r : RE) (s q : Nat) : Prop :=
  ∀ (a : Act) (w : World) (φ : Nat → Option Nat) (σ : List Ob), Good C ⟨w, φ, σ, C.ok⟩ → σ[q]? = some ⟨r.t, r.sz, []⟩ → AV.rel ⟨w, φ, σ, C.ok⟩ (.own q) (a.tmps.getD s undef) → (∀ (j : Nat) ob, σ[j]? = some ob → AV.onlys (fun k => k ≠ q) ob.cs) →
    (∀ x ∈ o.op.operands, AV.rel ⟨w, φ, σ, C.ok⟩ (evE E x) (a.eval x)) → ∀ (K : Act → World → Prop) (Q : Exit → Act → World → Prop),
    (∀ u w' b, Good C ⟨w', upd φ q b, σ.set q r.ob, C.ok⟩ → Keeps (fun k => k ≠ q) ⟨w, φ, σ, C.ok⟩ ⟨w', upd φ q b, σ.set q r.ob, C.ok⟩ → AV.rel ⟨w', upd φ q b, σ.set q r.ob, C.ok⟩ (.own q) u → K (a.put o.dst u) w') → o.wp P a w K Q
theorem MkN.congr {P : Program} {C : Ctx} {o : Oper} {E E' : EE} {ob : Ob} {q : Nat} {v : AV} (h : MkN P C o E ob q v) (he : ∀ x ∈ o.op.operands, evE E' x = evE E x) : MkN P C o E' ob q v :=
  ⟨h.1, fun a w φ σ hG h1 h2 hx => h.2 a w φ σ hG h1 h2 fun x hm => by rw [← he x hm]; exact hx x hm⟩
theorem MkQ.congr {P : Program} {C : Ctx} {o : Oper} {E E' : EE} {r : RE} {s q : Nat} (h : MkQ P C o E r s q) (he : ∀ x ∈ o.op.operands, evE E' x = evE E x) : MkQ P C o E' r s q :=
  fun a w φ σ hG h1 h2 h3 hx => h a w φ σ hG h1 h2 h3 fun x hm => by rw [← he x hm]; exact hx x hm
/-! ### Any order, abstractly. -/
def staged (rs : ResU) (n : Nat) (v : AV) : Prop := ∀ p r, rs[p]? = some r → r.pre.isSome = true → v.only (fun k => k ≠ n + p)
def YU (P : Program) (C : Ctx) (ops : Array Oper) (σ : List Ob) (rs : ResU) (i : Nat) (o : Oper) (v : AV) (E : EE) : Prop :=
  ((∀ r ∈ rs, i ∉ r.all) ∧ staged rs σ.length v ∧ ((gsayE ops E o.guard = some true ∧ ∀ more, PurF P C o E (σ ++ more) v) ∨ (gsayE ops E o.guard = some false ∧ v = .ro (.c undef)))) ∨
  (∃ p r, rs[p]? = some r ∧ r.idx = i ∧ r.pre = none ∧ o.guard = none ∧ o.dst.isSome = true ∧ MkN P C o E r.ob (σ.length + p) v) ∨
  (∃ p r s, rs[p]? = some r ∧ r.pre = some (i, s) ∧ o.guard = none ∧ o.dst = some s ∧ MkN P C o E ⟨r.t, r.sz, []⟩ (σ.length + p) (.own (σ.length + p)) ∧ v = .junk) ∨
  (∃ p r j s, rs[p]? = some r ∧ r.idx = i ∧ r.pre = some (j, s) ∧ o.guard = none ∧ o.dst.isSome = true ∧ MkQ P C o E r s (σ.length + p) ∧ v = .own (σ.length + p))
section
variable {P : Program} {C : Ctx} {ops : Array Oper} {σ : List Ob} {md : Region.Mode} {rs : ResU} {pri : List Nat}
theorem YU.put {i : Nat} {oi oj : Oper} {v u : AV} {E : EE} (hy : YU P C ops σ rs i oi v E) (h3 : ∀ d, oj.dst = some d → d ∉ oi.looksAt ops) : YU P C ops σ rs i oi v (putE E oj.dst u) := by
  have hc : ∀ x ∈ oi.op.operands, evE (putE E oj.dst u) x = evE E x := fun x hx => evE_put fun t ht => mem_looks_op (h3 t ht) x hx
  unfold YU at *
  rw [gsay_put h3]
  rcases hy with ⟨h0, hs, ⟨hw, hv⟩ | hy⟩ | ⟨p, r, k1, k2, k3, k4, k5, k6⟩ | ⟨p, r, s, k1, k2, k3, k4, k5, k6⟩ | ⟨p, r, j, s, k1, k2, k3, k4, k5, k6, k7⟩
  · exact .inl ⟨h0, hs, .inl ⟨hw, fun more => (hv more).congr hc⟩⟩
  · exact .inl ⟨h0, hs, .inr hy⟩
  · exact .inr (.inl ⟨p, r, k1, k2, k3, k4, k5, k6.congr hc⟩)
  · exact .inr (.inr (.inl ⟨p, r, s, k1, k2, k3, k4, k5.congr hc, k6⟩))
  · exact .inr (.inr (.inr ⟨p, r, j, s, k1, k2, k3, k4, k5, k6.congr hc, k7⟩))
theorem YU.unput {i : Nat} {oi : Oper} {d : Option Nat} {v u : AV} {E : EE} (hy : YU P C ops σ rs i oi v (putE E d u)) (h3 : ∀ t, d = some t → t ∉ oi.looksAt ops) : YU P C ops σ rs i oi v E := by
  have hc : ∀ x ∈ oi.op.operands, evE E x = evE (putE E d u) x := fun x hx => (evE_put fun t ht => mem_looks_op (h3 t ht) x hx).symm
  unfold YU at *
  rw [gsay_put h3] at hy
  rcases hy with ⟨h0, hs, ⟨hw, hv⟩ | hy⟩ | ⟨p, r, k1, k2, k3, k4, k5, k6⟩ | ⟨p, r, s, k1, k2, k3, k4, k5, k6⟩ | ⟨p, r, j, s, k1, k2, k3, k4, k5, k6, k7⟩
  · exact .inl ⟨h0, hs, .inl ⟨hw, fun more => (hv more).congr hc⟩⟩
  · exact .inl ⟨h0, hs, .inr hy⟩
  · exact .inr (.inl ⟨p, r, k1, k2, k3, k4, k5, k6.congr hc⟩)
  · exact .inr (.inr (.inl ⟨p, r, s, k1, k2, k3, k4, k5.congr hc, k6⟩))
  · exact .inr (.inr (.inr ⟨p, r, j, s, k1, k2, k3, k4, k5, k6.congr hc, k7⟩))
def aOpV (P : Program) (C : Ctx) (ops : Array Oper) (σ : List Ob) (rs : ResU) (i : Nat) (K : EE → Prop) (E : EE) : Prop := ∃ o v, ops[i]? = some o ∧ YU P C ops σ rs i o v E ∧ K (putE E o.dst v)
theorem aOpV_mono {i : Nat} {E : EE} {K K' : EE → Prop} (h : ∀ E, K E → K' E) (hh : aOpV P C ops σ rs i K E) : aOpV P C ops σ rs i K' E := by
  obtain ⟨o, v, h1, h2, h3⟩ := hh
  exact ⟨o, v, h1, h2, h _ h3⟩
theorem aOpV_put {i j : Nat} {oi oj : Oper} {v : AV} (hj : ops[j]? = some oj) (hap : oi.apart ops oj = true) {K : EE → Prop} {E : EE} (hy : YU P C ops σ rs i oi v E) (h : aOpV P C ops σ rs j K (putE E oi.dst v)) :
    aOpV P C ops σ rs j (fun E' => YU P C ops σ rs i oi v E' ∧ K (putE E' oi.dst v)) E := by
  obtain ⟨h1, h2, h3⟩ := Oper.apart_spec hap
  obtain ⟨o, u, k1, k2, k3⟩ := h
  rw [hj] at k1; injection k1 with k1; subst k1
  refine ⟨oj, u, hj, k2.unput h1, hy.put h3, ?_⟩
  rw [← putE_comm h2]; exact k3
def wpAnyV (P : Program) (C : Ctx) (md : Region.Mode) (ops : Array Oper) (σ : List Ob) (rs : ResU) (pri : List Nat) (n : Nat) (L : Array Bool → EE → Prop) : Nat → Array Bool → EE → Prop
  | 0, listed, E => L listed E
  | f + 1, listed, E => (∃ e ∈ pri, e ∈ Region.ready md ops listed ∧ e < n ∧ aOpV P C ops σ rs e (wpAnyV P C md ops σ rs pri n L f (listed.setIfInBounds e true)) E) ∨
      ((∀ e ∈ pri, e ∉ Region.ready md ops listed) ∧ Region.ready md ops listed ≠ [] ∧ ∀ i ∈ Region.ready md ops listed, i < n ∧ aOpV P C ops σ rs i (wpAnyV P C md ops σ rs pri n L f (listed.setIfInBounds i true)) E)
/-- The head in the order of the text. -/
def wpLexV (P : Program) (C : Ctx) (ops : Array Oper) (σ : List Ob) (rs : ResU) (Q : EE → Prop) : List (Nat × Oper) → EE → Prop
  | [], E => Q E
  | (i, o) :: rest, E => ∃ v, YU P C ops σ rs i o v E ∧ wpLexV P C ops σ rs Q rest (putE E o.dst v)
theorem V_any {n : Nat} {L : Array Bool → EE → Prop} (hpri : ∀ e ∈ pri, freeAll md ops e = true) (hdone : ∀ listed E, L listed E → ∀ j ∈ Region.ready md ops listed, n ≤ j) :
    ∀ (f : Nat) (listed : Array Bool) (E : EE), wpAnyV P C md ops σ rs pri n L f listed E → ∀ j ∈ Region.ready md ops listed, j < n → ∃ f', f = f' + 1 ∧ aOpV P C ops σ rs j (wpAnyV P C md ops σ rs pri n L f' (listed.setIfInBounds j true)) E
  | 0, listed, E, h, j, hj, hjn => by have := hdone _ _ h j hj; omega
  | f + 1, listed, E, h, j, hj, hjn => by
    rcases h with ⟨e, he, her, hen, o, v, ho, hy, hK⟩ | ⟨_, _, h⟩
    · by_cases hej : e = j
      · subst hej; exact ⟨f, rfl, o, v, ho, hy, hK⟩
      · obtain ⟨f', rfl, h2⟩ := V_any hpri hdone f _ _ hK j (ready_mono hj (Ne.symm hej)) hjn
        refine ⟨f' + 1, rfl, ?_⟩
        obtain ⟨_, oj, hoj, _⟩ := mem_ready.1 hj
        have hap := (freeAll_spec ho (hpri e he)).2 j oj hoj (Ne.symm hej) (not_waits her hj hoj) (not_waits hj her ho)
        refine aOpV_mono (fun E' h3 => .inl ⟨e, he, ready_mono her hej, hen, o, v, ho, h3.1, ?_⟩) (aOpV_put hoj hap hy h2)
        rw [Array.setIfInBounds_comm _ _ (Ne.symm hej)]
        exact h3.2
    · exact ⟨f, rfl, (h j hj).2⟩
theorem V_first {n i : Nat} {oi : Oper} {v : AV} {L : Array Bool → EE → Prop} (hi : ops[i]? = some oi) (hpri : ∀ e ∈ pri, freeAll md ops e = true)
    (hs : sinkQ md ops pri n = true) (hc : Region.chainB md ops n = true) (hn : n < ops.size) (hin : i < n) (hpn : ∀ e ∈ pri, e < n)
    (hdone : ∀ listed E, L listed E → ∀ j ∈ Region.ready md ops listed, n ≤ j) :
    ∀ (f : Nat) (listed : Array Bool) (E : EE), HeadInv md ops n listed →
      (∀ j oj, ops[j]? = some oj → j ≠ i → listed.getD j true = false → (∀ e ∈ oj.after, Region.binds md e = true → e.on ≠ i) → oi.apart ops oj = true) →
      i ∈ Region.ready md ops listed → YU P C ops σ rs i oi v E →
      wpAnyV P C md ops σ rs pri n L f (listed.setIfInBounds i true) (putE E oi.dst v) → wpAnyV P C md ops σ rs pri n L (f + 1) listed E := by
  intro f
  induction f with
  | zero =>
    intro listed E inv hfree hr hy H
    by_cases hp : i ∈ pri
    · exact .inl ⟨i, hp, hr, hin, oi, v, hi, hy, H⟩
    · have no : ∀ j ∈ Region.ready md ops listed, j < n → j = i := fun j hj hjn => by
        apply Classical.byContradiction
        intro hji
        have := hdone _ _ H j (ready_mono hj hji)
        omega
      have hnp : ∀ e ∈ pri, e ∉ Region.ready md ops listed := fun e he her => hp (no e her (hpn e he) ▸ he)
      refine .inr ⟨hnp, fun h => (by rw [h] at hr; cases hr), fun j hj => ?_⟩
      have hjn : j < n := by
        rcases Nat.lt_or_ge j n with h | h
        · exact h
        · exact absurd hj (tail_waitsQ hs hc hn inv hnp hin (mem_ready.1 hr).1 j h)
      obtain rfl := no j hj hjn
      exact ⟨hjn, oi, v, hi, hy, H⟩
  | succ f ih =>
    intro listed E inv hfree hr hy H
    by_cases hp : i ∈ pri
    · exact .inl ⟨i, hp, hr, hin, oi, v, hi, hy, H⟩
    · have step : ∀ j ∈ Region.ready md ops listed, j < n → j ≠ i → aOpV P C ops σ rs j (wpAnyV P C md ops σ rs pri n L (f + 1) (listed.setIfInBounds j true)) E := fun j hj hjn hji => by
        obtain ⟨f', hf, h1⟩ := V_any hpri hdone _ _ _ H j (ready_mono hj hji) hjn
        injection hf with hf
        have hf : f' = f := hf.symm
        subst hf
        obtain ⟨hjun, oj, hoj, hall⟩ := mem_ready.1 hj
        have hfree' : ∀ k ok, ops[k]? = some ok → k ≠ i → (listed.setIfInBounds j true).getD k true = false →
            (∀ e ∈ ok.after, Region.binds md e = true → e.on ≠ i) → oi.apart ops ok = true := fun k ok hk hki hun hno => by
          refine hfree k ok hk hki ?_ hno
          by_cases hjk : j = k
          · subst hjk; exact hjun
          · rw [getD_set_ne true hjk] at hun; exact hun
        refine aOpV_mono (fun E' h3 => ih (listed.setIfInBounds j true) E' (inv.set hj hjn) hfree' (ready_mono hr (Ne.symm hji)) h3.1 ?_) (aOpV_put hoj (hfree j oj hoj hji hjun (not_waits hr hj hoj)) hy h1)
        rw [Array.setIfInBounds_comm _ _ hji]
        exact h3.2
      by_cases he : ∃ e ∈ pri, e ∈ Region.ready md ops listed
      · obtain ⟨e, he, her⟩ := he
        exact .inl ⟨e, he, her, hpn e he, step e her (hpn e he) (by rintro rfl; exact hp he)⟩
      · have hnp : ∀ e ∈ pri, e ∉ Region.ready md ops listed := fun e h1 h2 => he ⟨e, h1, h2⟩
        refine .inr ⟨hnp, fun h => (by rw [h] at hr; cases hr), fun j hj => ?_⟩
        have hjn : j < n := by
          rcases Nat.lt_or_ge j n with h | h
          · exact h
          · exact absurd hj (tail_waitsQ hs hc hn inv hnp hin (mem_ready.1 hr).1 j h)
        refine ⟨hjn, ?_⟩
        by_cases hji : j = i
        · subst hji; exact ⟨oi, v, hi, hy, H⟩
        · exact step j hj hjn hji
theorem wpAnyV_lex {n g : Nat} {Lq : EE → Prop} (hpri : ∀ e ∈ pri, freeAll md ops e = true) (hpn : ∀ e ∈ pri, e < n) (hs : sinkQ md ops pri n = true) (hc : Region.chainB md ops n = true) (hn : n < ops.size) :
    ∀ (l : List (Nat × Oper)) (listed : Array Bool) (E : EE), (∀ p ∈ l, ops[p.1]? = some p.2) → HeadInv md ops n listed →
    lexIdx md ops g n (l.map (·.1)) listed = true → wpLexV P C ops σ rs Lq l E →
    wpAnyV P C md ops σ rs pri n (fun listed' E' => Region.seqB md ops g n listed' = true ∧ (∀ j, j < n → listed'.getD j false = true) ∧ Lq E') l.length listed E
  | [], listed, E, _, _, hB, h => by
    simp only [List.map_nil, lexIdx, Bool.and_eq_true] at hB
    exact ⟨hB.1, fun j hj => List.all_eq_true.1 hB.2 j (List.mem_range.2 hj), h⟩
  | (k, o) :: l, listed, E, hl, inv, hB, h => by
    have h0 : ops[k]? = some o := hl (k, o) (by simp)
    simp only [List.map_cons, lexIdx, Bool.and_eq_true, decide_eq_true_eq] at hB
    obtain ⟨⟨⟨hr, hf⟩, hkn⟩, hB'⟩ := hB
    have hr' : k ∈ Region.ready md ops listed := by simpa using hr
    obtain ⟨v, hy, hK⟩ := h
    exact V_first h0 hpri hs hc hn hkn hpn (fun listed' E' hL => seqB_ready hL.1) l.length listed E inv (Region.free_spec h0 hf) hr' hy
      (wpAnyV_lex hpri hpn hs hc hn l _ _ (fun p hp => hl p (by simp [hp])) (inv.set hr' hkn) hB' hK)
end
/-! ### .. and what really runs. -/
structure WfU (md : Region.Mode) (ops : Array Oper) (rs : ResU) : Prop where
  one : ∀ (p : Nat) r (p' : Nat) r' i, rs[p]? = some r → rs[p']? = some r' → i ∈ r.all → i ∈ r'.all → p = p'
  two : ∀ (p : Nat) r j s, rs[p]? = some r → r.pre = some (j, s) → r.idx ≠ j
  edge : ∀ (p : Nat) r j s, rs[p]? = some r → r.pre = some (j, s) → ∃ o, ops[r.idx]? = some o ∧ ∃ e ∈ o.after, Region.binds md e = true ∧ e.on = j
  slot : ∀ (p : Nat) r j s, rs[p]? = some r → r.pre = some (j, s) → ∀ i o, ops[i]? = some o → o.dst = some s → i = j
theorem RE.mem_idx (r : RE) : r.idx ∈ r.all := by simp [RE.all]
theorem RE.mem_pre {r : RE} {j s : Nat} (h : r.pre = some (j, s)) : j ∈ r.all := by simp [RE.all, h]
theorem RE.mem_all {r : RE} {i : Nat} (h : i ∈ r.all) : i = r.idx ∨ ∃ s, r.pre = some (i, s) := by
  unfold RE.all at h
  rcases List.mem_cons.1 h with h | h
  · exact .inl h
  · right
    cases hp : r.pre with
    | none => simp [hp] at h
    | some p => obtain ⟨j, s⟩ := p; simp [hp] at h; subst h; exact ⟨s, rfl⟩
structure StU (C : Ctx) (σ : List Ob) (rs : ResU) (listed : Array Bool) (a : Act) (w : World) (φ : Nat → Option Nat) : Prop where
  made : ∀ (p : Nat) r, rs[p]? = some r → listed.getD r.idx false = false → (∀ j s, r.pre = some (j, s) → listed.getD j false = true → AV.rel ⟨w, φ, σ ++ resU rs listed, C.ok⟩ (.own (σ.length + p)) (a.tmps.getD s undef)) ∧
    ((∀ j s, r.pre = some (j, s) → listed.getD j false = false) → φ (σ.length + p) = none)
structure SimU (C : Ctx) (σ : List Ob) (rs : ResU) (listed : Array Bool) (E : EE) (a : Act) (w : World) : Prop where
  defers : a.defers = []
  size : a.tmps.size = C.n
  lsz : ∀ (p : Nat) r, rs[p]? = some r → ∀ i ∈ r.all, i < listed.size
  cl : ∀ (p : Nat) r j s, rs[p]? = some r → r.pre = some (j, s) → listed.getD r.idx false = true → listed.getD j false = true
  free : ∀ (p : Nat) r, rs[p]? = some r → r.pre.isSome = true → ∀ o ∈ σ, AV.onlys (fun k => k ≠ σ.length + p) o.cs
  only : ∀ (p : Nat) r, rs[p]? = some r → r.pre.isSome = true → listed.getD r.idx false = false → ∀ t, (E t).only (fun k => k ≠ σ.length + p)
  mem : ∃ φ, Good C ⟨w, φ, σ ++ resU rs listed, C.ok⟩ ∧ StU C σ rs listed a w φ ∧ ∀ t, AV.rel ⟨w, φ, σ ++ resU rs listed, C.ok⟩ (E t) (a.tmps.getD t undef)
theorem reOb_off {listed : Array Bool} {r : RE} {i : Nat} (h : i ∉ r.all) : reOb (listed.setIfInBounds i true) r = reOb listed r := by
  have h1 : i ≠ r.idx := fun e => h (e ▸ r.mem_idx)
  unfold reOb
  rw [getD_set_ne false h1]
  cases hp : r.pre with
  | none => rfl
  | some p =>
    obtain ⟨j, s⟩ := p
    have h2 : i ≠ j := fun e => h (e ▸ RE.mem_pre hp)
    simp only [getD_set_ne false h2]
theorem resU_same {rs : ResU} {listed : Array Bool} {i : Nat} (h : ∀ r ∈ rs, i ∉ r.all) : resU rs (listed.setIfInBounds i true) = resU rs listed := by
  unfold resU
  exact List.map_congr_left fun r hr => reOb_off (h r hr)
theorem getD_set_self {listed : Array Bool} {i : Nat} (hi : i < listed.size) : (listed.setIfInBounds i true).getD i false = true := by simp [hi]
theorem resU_set {md : Region.Mode} {ops : Array Oper} {rs : ResU} {listed : Array Bool} {i p : Nat} {r : RE} {ob : Ob} (hw : WfU md ops rs) (hp : rs[p]? = some r) (hm : i ∈ r.all) (ho : reOb (listed.setIfInBounds i true) r = ob) :
    resU rs (listed.setIfInBounds i true) = (resU rs listed).set p ob := by
  apply List.ext_getElem?
  intro j
  rw [List.getElem?_set]
  unfold resU
  rw [List.getElem?_map]
  by_cases e : p = j
  · subst e
    have hlt : p < rs.length := (List.getElem?_eq_some_iff.1 hp).1
    rw [hp]
    simp [hlt, ho]
  · rw [if_neg e, List.getElem?_map]
    cases hj : rs[j]? with
    | none => rfl
    | some r' =>
      simp only [Option.map_some, Option.some.injEq]
      exact reOb_off fun hm' => e (hw.one p r j r' i hp hj hm hm')
theorem onlys_of_ros {p : Nat → Prop} {o : Ob} {listed : Array Bool} {rs : ResU} (h : o ∈ resU rs listed) : AV.onlys p o.cs := by
  unfold resU at h
  obtain ⟨r, _, rfl⟩ := List.mem_map.1 h
  unfold reOb RE.ob
  split
  · exact onlys_ro _ _
  · split
    · split <;> exact onlys_ro _ []
    · exact onlys_ro _ []
section
variable {P : Program} {C : Ctx} {ops : Array Oper} {σ : List Ob} {md : Region.Mode} {rs : ResU} {pri : List Nat} {listed : Array Bool} {E : EE} {a : Act} {w : World}
theorem SimU.op {Q : Exit → Act → World → Prop} {i : Nat} {o : Oper} {v : AV} {K : Act → World → Prop} (hw : WfU md ops rs) (hs : SimU C σ rs listed E a w) (hi : i ∈ Region.ready md ops listed) (ho : ops[i]? = some o) (hd : ∀ t, o.dst = some t → t < C.n)
    (hy : YU P C ops σ rs i o v E) (hK : ∀ a' w', SimU C σ rs (listed.setIfInBounds i true) (putE E o.dst v) a' w' → K a' w') : wpOp P ops Q i K a w := by
  obtain ⟨s1, s2, s3, scl, s4, s5, φ, hG, hst, hE⟩ := hs
  have hi0 := (mem_ready.1 hi).1
  obtain ⟨dst, op, ty, pos, after, g⟩ := o
  simp only at hd
  have putA : ∀ (u : Value) (t : Nat), dst ≠ some t → (a.put dst u).tmps.getD t undef = a.tmps.getD t undef := by
    intro u t hne
    cases dst with
    | none => rfl
    | some s => rw [getD_put a s t u (by rw [s2]; exact hd s rfl), if_neg fun e => hne (by rw [e])]
  have putR : ∀ {φ' : Nat → Option Nat} {σ' : List Ob} {w' : World} {u : Value}, (∀ t, AV.rel ⟨w', φ', σ', C.ok⟩ (E t) (a.tmps.getD t undef)) → AV.rel ⟨w', φ', σ', C.ok⟩ v u → ∀ t, AV.rel ⟨w', φ', σ', C.ok⟩ (putE E dst v t) ((a.put dst u).tmps.getD t undef) := by
    intro φ' σ' w' u h1 h2 t
    cases dst with
    | none => exact h1 t
    | some s =>
      rw [getD_put a s t u (by rw [s2]; exact hd s rfl)]
      simp only [putE]
      split
      · exact h2
      · exact h1 t
  have putJ : ∀ {φ' : Nat → Option Nat} {σ' : List Ob} {w' : World} {u : Value}, (∀ t, AV.rel ⟨w', φ', σ', C.ok⟩ (E t) (a.tmps.getD t undef)) → ∀ t, AV.rel ⟨w', φ', σ', C.ok⟩ (putE E dst .junk t) ((a.put dst u).tmps.getD t undef) := by
    intro φ' σ' w' u h1 t
    cases dst with
    | none => exact h1 t
    | some s =>
      rw [getD_put a s t u (by rw [s2]; exact hd s rfl)]
      simp only [putE]
      split
      · simp [AV.rel]
      · exact h1 t
  have szR : ∀ u, (a.put dst u).tmps.size = C.n := fun u => by cases dst <;> simp [Act.put, s2]
  have dfR : ∀ u, (a.put dst u).defers = [] := fun u => by cases dst <;> exact s1
  have s3' : ∀ (p : Nat) r, rs[p]? = some r → ∀ k ∈ r.all, k < (listed.setIfInBounds i true).size := fun p r hp k hk => by simpa using s3 p r hp k hk
  have scl' : ∀ (p : Nat) r j s, rs[p]? = some r → r.pre = some (j, s) → (listed.setIfInBounds i true).getD r.idx false = true → (listed.setIfInBounds i true).getD j false = true := by
    intro p r j s hp hpr hl
    have hjs := s3 p r hp j (RE.mem_pre hpr)
    by_cases hij : i = j
    · rw [hij]; exact getD_set_self hjs
    rw [getD_set_ne false hij]
    by_cases hir : i = r.idx
    · obtain ⟨o', ho', e, he, hb, hon⟩ := hw.edge p r j s hp hpr
      obtain ⟨_, o'', ho'', hall⟩ := mem_ready.1 hi
      have : o'' = o' := Option.some.inj (ho''.symm.trans (hir ▸ ho'))
      subst this
      have := hall e he hb
      rw [hon] at this
      exact this
    · rw [getD_set_ne false hir] at hl
      exact scl p r j s hp hpr hl
  have onlyR : ∀ {v' : AV}, (∀ (p : Nat) r, rs[p]? = some r → r.pre.isSome = true → (listed.setIfInBounds i true).getD r.idx false = false → v'.only (fun k => k ≠ σ.length + p)) → ∀ (p : Nat) r, rs[p]? = some r → r.pre.isSome = true → (listed.setIfInBounds i true).getD r.idx false = false → ∀ t, (putE E dst v' t).only (fun k => k ≠ σ.length + p) := by
    intro v' h p r hp hpr hl t
    have hl0 : listed.getD r.idx false = false := by
      by_cases e : i = r.idx
      · rw [e, getD_set_self (s3 p r hp _ r.mem_idx)] at hl; cases hl
      · rwa [getD_set_ne false e] at hl
    cases dst with
    | none => exact s5 p r hp hpr hl0 t
    | some s =>
      simp only [putE]
      split
      · exact h p r hp hpr hl
      · exact s5 p r hp hpr hl0 t
  -- other places' rows lie where they lay
  have slotR : ∀ (p : Nat) r j s, rs[p]? = some r → r.pre = some (j, s) → i ≠ j → ∀ u, (a.put dst u).tmps.getD s undef = a.tmps.getD s undef := fun p r j s hp hpr hij u => putA u s fun e => hij (hw.slot p r j s hp hpr i _ ho e)
  unfold wpOp
  simp only [ho]
  rcases hy with ⟨h0, hsg, ⟨hg, hv⟩ | ⟨hg, rfl⟩⟩ | ⟨p, r, hp, hri, hrp, hgd, hds, hmk⟩ | ⟨p, r, s, hp, hrp, hgd, hds, hmk, rfl⟩ | ⟨p, r, j, s, hp, hri, hrp, hgd, hds, hmk, rfl⟩
  · have hres := resU_same (listed := listed) (fun r hr => h0 r hr)
    have hne : ∀ (p : Nat) r, rs[p]? = some r → i ≠ r.idx := fun p r hp e => h0 r (List.mem_of_getElem? hp) (e ▸ r.mem_idx)
    have hnj : ∀ (p : Nat) r j s, rs[p]? = some r → r.pre = some (j, s) → i ≠ j := fun p r j s hp hpr e => h0 r (List.mem_of_getElem? hp) (e ▸ RE.mem_pre hpr)
    rw [if_pos (gsay_yes hg a _ hE)]
    refine .inl (hv (resU rs listed) a ⟨w, φ, σ ++ resU rs listed, C.ok⟩ hG rfl (fun x _ => ev_evE' hE x) _ _ fun u w' hb hu => hK _ _ ?_)
    obtain ⟨g1, g2⟩ := good_below hG hb
    refine ⟨dfR u, szR u, s3', scl', s4, onlyR fun p r hp hpr _ => hsg p r hp hpr, φ, by rw [hres]; exact g1, ⟨fun p r hp hl => ?_⟩, by rw [hres]; exact putR (fun t => AV.rel_keeps g2 _ _ (AV.only_true _) (hE t)) hu⟩
    rw [getD_set_ne false (hne p r hp)] at hl
    obtain ⟨k1, k2⟩ := hst.made p r hp hl
    refine ⟨fun j s hpr hj => ?_, fun h => k2 fun j s hpr => ?_⟩
    · rw [getD_set_ne false (hnj p r j s hp hpr)] at hj
      rw [hres, slotR p r j s hp hpr (hnj p r j s hp hpr)]
      exact AV.rel_keeps g2 _ _ (AV.only_true _) (k1 j s hpr hj)
    · have := h j s hpr
      rwa [getD_set_ne false (hnj p r j s hp hpr)] at this
  · have hres := resU_same (listed := listed) (fun r hr => h0 r hr)
    have hne : ∀ (p : Nat) r, rs[p]? = some r → i ≠ r.idx := fun p r hp e => h0 r (List.mem_of_getElem? hp) (e ▸ r.mem_idx)
    have hnj : ∀ (p : Nat) r j s, rs[p]? = some r → r.pre = some (j, s) → i ≠ j := fun p r j s hp hpr e => h0 r (List.mem_of_getElem? hp) (e ▸ RE.mem_pre hpr)
    rw [gsay_no hg a _ hE, if_neg (by simp)]
    refine hK _ _ ⟨dfR _, szR _, s3', scl', s4, onlyR fun p r hp hpr _ => hsg p r hp hpr, φ, by rw [hres]; exact hG, ⟨fun p r hp hl => ?_⟩, by rw [hres]; exact putR hE (by simp [AV.rel, RV.rel])⟩
    rw [getD_set_ne false (hne p r hp)] at hl
    obtain ⟨k1, k2⟩ := hst.made p r hp hl
    refine ⟨fun j s hpr hj => ?_, fun h => k2 fun j s hpr => ?_⟩
    · rw [getD_set_ne false (hnj p r j s hp hpr)] at hj
      rw [hres, slotR p r j s hp hpr (hnj p r j s hp hpr)]
      exact k1 j s hpr hj
    · have := h j s hpr
      rwa [getD_set_ne false (hnj p r j s hp hpr)] at this
  · -- an object or a row is made in its place
    simp only at hgd hds
    subst hgd; subst hri
    have his := s3 p r hp _ r.mem_idx
    have hlf : listed.getD r.idx false = false := getD_both hi0
    have hpl : p < rs.length := (List.getElem?_eq_some_iff.1 hp).1
    have hob0 : reOb listed r = ⟨r.t, 0, []⟩ := by unfold reOb; rw [hlf]; simp [hrp]
    have hq : (σ ++ resU rs listed)[σ.length + p]? = some ⟨r.ob.t, 0, []⟩ := by
      rw [List.getElem?_append_right (by omega), show σ.length + p - σ.length = p by omega]
      unfold resU
      rw [List.getElem?_map, hp]
      simp only [Option.map_some, hob0, RE.ob]
    have hφq : φ (σ.length + p) = none := (hst.made p r hp hlf).2 fun j s h => by rw [hrp] at h; cases h
    have hset := resU_set (ob := r.ob) (listed := listed) hw hp r.mem_idx (by unfold reOb; rw [getD_set_self his]; rfl)
    have hσ : (σ ++ resU rs listed).set (σ.length + p) r.ob = σ ++ resU rs (listed.setIfInBounds r.idx true) := by
      rw [List.set_append_right _ _ (by omega), show σ.length + p - σ.length = p by omega, hset]
    rw [if_pos (by simp [Region.wanted])]
    refine .inl (hmk.2 a w φ _ hG hq hφq (fun x _ => ev_evE' hE x) _ _ fun u w' g hb hg hor hu => hK _ _ ?_)
    have g1 := good_fillU hG hb hg hq hφq hor
    have hall : ∀ t, AV.rel ⟨w', upd φ (σ.length + p) (some g), (σ ++ resU rs listed).set (σ.length + p) r.ob, C.ok⟩ (E t) (a.tmps.getD t undef) := fun t => rel_fillU hb hg hq hφq _ _ (hE t)
    have hoth : ∀ p' r' , rs[p']? = some r' → p' ≠ p → r.idx ∉ r'.all := fun p' r' hp' hne hm => hne (hw.one p' r' p r r.idx hp' hp hm r.mem_idx)
    refine ⟨dfR u, szR u, s3', scl', s4, onlyR fun p' r' hp' hpr' hl => ?_, upd φ (σ.length + p) (some g), by rw [← hσ]; exact g1, ⟨fun p' r' hp' hl => ?_⟩, by rw [← hσ]; exact putR hall hu⟩
    · have hne : p' ≠ p := by
        rintro rfl
        rw [hp] at hp'; injection hp' with hp'; subst hp'
        rw [hrp] at hpr'; cases hpr'
      rcases hmk.1 with rfl | rfl <;> (simp only [AV.only]; omega)
    · by_cases hpp : p' = p
      · subst hpp
        rw [hp] at hp'; injection hp' with hp'; subst hp'
        rw [getD_set_self his] at hl; cases hl
      · have hno := hoth p' r' hp' hpp
        have hri : r.idx ≠ r'.idx := fun e => hno (e ▸ r'.mem_idx)
        rw [getD_set_ne false hri] at hl
        obtain ⟨k1, k2⟩ := hst.made p' r' hp' hl
        refine ⟨fun j s hpr hj => ?_, fun h => ?_⟩
        · have hij : r.idx ≠ j := fun e => hno (e ▸ RE.mem_pre hpr)
          rw [getD_set_ne false hij] at hj
          rw [← hσ, slotR p' r' j s hp' hpr hij]
          exact rel_fillU hb hg hq hφq _ _ (k1 j s hpr hj)
        · rw [upd_ne (by omega)]
          refine k2 fun j s hpr => ?_
          have hij : r.idx ≠ j := fun e => hno (e ▸ RE.mem_pre hpr)
          have := h j s hpr
          rwa [getD_set_ne false hij] at this
  · -- a row is laid empty
    simp only at hgd hds
    subst hgd; subst hds
    have his := s3 p r hp _ (RE.mem_pre hrp)
    have hlf : listed.getD i false = false := getD_both hi0
    have hij := hw.two p r i s hp hrp
    have hlx : listed.getD r.idx false = false := by
      cases hh : listed.getD r.idx false with
      | false => rfl
      | true => rw [scl p r i s hp hrp hh] at hlf; cases hlf
    have hlx' : (listed.setIfInBounds i true).getD r.idx false = false := by rw [getD_set_ne false (Ne.symm hij)]; exact hlx
    have hob0 : reOb listed r = ⟨r.t, 0, []⟩ := by unfold reOb; rw [hlx]; simp [hrp, hlf]
    have hob1 : reOb (listed.setIfInBounds i true) r = ⟨r.t, r.sz, []⟩ := by unfold reOb; rw [hlx']; simp only [hrp, getD_set_self his]; rfl
    have hq : (σ ++ resU rs listed)[σ.length + p]? = some ⟨r.t, 0, []⟩ := by
      rw [List.getElem?_append_right (by omega), show σ.length + p - σ.length = p by omega]
      unfold resU
      rw [List.getElem?_map, hp]
      simp only [Option.map_some, hob0]
    have hφq : φ (σ.length + p) = none := (hst.made p r hp hlx).2 fun j s' h => by rw [hrp] at h; injection h with h; injection h with h; subst h; exact hlf
    have hset := resU_set (listed := listed) hw hp (RE.mem_pre hrp) hob1
    have hσ : (σ ++ resU rs listed).set (σ.length + p) ⟨r.t, r.sz, []⟩ = σ ++ resU rs (listed.setIfInBounds i true) := by
      rw [List.set_append_right _ _ (by omega), show σ.length + p - σ.length = p by omega, hset]
    rw [if_pos (by simp [Region.wanted])]
    refine .inl (hmk.2 a w φ _ hG hq hφq (fun x _ => ev_evE' hE x) _ _ fun u w' g hb hg hor hu => hK _ _ ?_)
    have g1 := good_fillU hG hb hg hq hφq hor
    have hall : ∀ t, AV.rel ⟨w', upd φ (σ.length + p) (some g), (σ ++ resU rs listed).set (σ.length + p) ⟨r.t, r.sz, []⟩, C.ok⟩ (E t) (a.tmps.getD t undef) := fun t => rel_fillU hb hg hq hφq _ _ (hE t)
    refine ⟨dfR u, szR u, s3', scl', s4, onlyR fun p' r' hp' hpr' hl => by simp [AV.only], upd φ (σ.length + p) (some g), by rw [← hσ]; exact g1, ⟨fun p' r' hp' hl => ?_⟩, by rw [← hσ]; exact putJ hall⟩
    by_cases hpp : p' = p
    · subst hpp
      rw [hp] at hp'; injection hp' with hp'; subst hp'
      refine ⟨fun j s' hpr hj => ?_, fun h => ?_⟩
      · rw [hrp] at hpr; injection hpr with hpr; injection hpr with e1 e2; subst e2
        rw [← hσ, getD_put a s s u (by rw [s2]; exact hd s rfl), if_pos rfl]
        exact hu
      · have := h i s hrp
        rw [getD_set_self his] at this; cases this
    · have hno : i ∉ r'.all := fun hm => hpp (hw.one p' r' p r i hp' hp hm (RE.mem_pre hrp))
      have hri : i ≠ r'.idx := fun e => hno (e ▸ r'.mem_idx)
      rw [getD_set_ne false hri] at hl
      obtain ⟨k1, k2⟩ := hst.made p' r' hp' hl
      refine ⟨fun j s' hpr hj => ?_, fun h => ?_⟩
      · have hij' : i ≠ j := fun e => hno (e ▸ RE.mem_pre hpr)
        rw [getD_set_ne false hij'] at hj
        rw [← hσ, slotR p' r' j s' hp' hpr hij']
        exact rel_fillU hb hg hq hφq _ _ (k1 j s' hpr hj)
      · rw [upd_ne (by omega)]
        refine k2 fun j s' hpr => ?_
        have hij' : i ≠ j := fun e => hno (e ▸ RE.mem_pre hpr)
        have := h j s' hpr
        rwa [getD_set_ne false hij'] at this
  · -- what was laid empty grows
    simp only at hgd hds
    subst hgd; subst hri
    have his := s3 p r hp _ r.mem_idx
    have hlf : listed.getD r.idx false = false := getD_both hi0
    have hij := hw.two p r j s hp hrp
    have hpl : p < rs.length := (List.getElem?_eq_some_iff.1 hp).1
    have hlj : listed.getD j false = true := by
      have := scl' p r j s hp hrp (getD_set_self his)
      rwa [getD_set_ne false hij] at this
    have hob0 : reOb listed r = ⟨r.t, r.sz, []⟩ := by unfold reOb; rw [hlf]; simp [hrp, hlj]
    have hq : (σ ++ resU rs listed)[σ.length + p]? = some ⟨r.t, r.sz, []⟩ := by
      rw [List.getElem?_append_right (by omega), show σ.length + p - σ.length = p by omega]
      unfold resU
      rw [List.getElem?_map, hp]
      simp only [Option.map_some, hob0]
    have hset := resU_set (ob := r.ob) (listed := listed) hw hp r.mem_idx (by unfold reOb; rw [getD_set_self his]; rfl)
    have hσ : (σ ++ resU rs listed).set (σ.length + p) r.ob = σ ++ resU rs (listed.setIfInBounds r.idx true) := by
      rw [List.set_append_right _ _ (by omega), show σ.length + p - σ.length = p by omega, hset]
    have hfr : ∀ (k : Nat) ob, (σ ++ resU rs listed)[k]? = some ob → AV.onlys (fun z => z ≠ σ.length + p) ob.cs := fun k ob hk => by
      rcases List.mem_append.1 (List.mem_of_getElem? hk) with h | h
      · exact s4 p r hp (by rw [hrp]; rfl) ob h
      · exact onlys_of_ros h
    have hE5 := s5 p r hp (by rw [hrp]; rfl) hlf
    rw [if_pos (by simp [Region.wanted])]
    refine .inl (hmk a w φ _ hG hq ((hst.made p r hp hlf).1 j s hrp hlj) hfr (fun x _ => ev_evE' hE x) _ _ fun u w' b g1 g2 hu => hK _ _ ?_)
    have hall : ∀ t, AV.rel ⟨w', upd φ (σ.length + p) b, (σ ++ resU rs listed).set (σ.length + p) r.ob, C.ok⟩ (E t) (a.tmps.getD t undef) := fun t => AV.rel_keeps g2 _ _ (hE5 t) (hE t)
    have hoth : ∀ p' r' , rs[p']? = some r' → p' ≠ p → r.idx ∉ r'.all := fun p' r' hp' hne hm => hne (hw.one p' r' p r r.idx hp' hp hm r.mem_idx)
    refine ⟨dfR u, szR u, s3', scl', s4, onlyR fun p' r' hp' hpr' hl => ?_, upd φ (σ.length + p) b, by rw [← hσ]; exact g1, ⟨fun p' r' hp' hl => ?_⟩, by rw [← hσ]; exact putR hall hu⟩
    · have hne : p' ≠ p := by
        rintro rfl
        rw [hp] at hp'; injection hp' with hp'; subst hp'
        rw [getD_set_self his] at hl; cases hl
      simp only [AV.only]; omega
    · by_cases hpp : p' = p
      · subst hpp
        rw [hp] at hp'; injection hp' with hp'; subst hp'
        rw [getD_set_self his] at hl; cases hl
      · have hno := hoth p' r' hp' hpp
        have hri : r.idx ≠ r'.idx := fun e => hno (e ▸ r'.mem_idx)
        rw [getD_set_ne false hri] at hl
        obtain ⟨k1, k2⟩ := hst.made p' r' hp' hl
        refine ⟨fun j' s' hpr hj => ?_, fun h => ?_⟩
        · have hij' : r.idx ≠ j' := fun e => hno (e ▸ RE.mem_pre hpr)
          rw [getD_set_ne false hij'] at hj
          rw [← hσ, slotR p' r' j' s' hp' hpr hij']
          exact AV.rel_keeps g2 _ _ (by simp only [AV.only]; omega) (k1 j' s' hpr hj)
        · rw [upd_ne (by omega)]
          refine k2 fun j' s' hpr => ?_
          have hij' : r.idx ≠ j' := fun e => hno (e ▸ RE.mem_pre hpr)
          have := h j' s' hpr
          rwa [getD_set_ne false hij'] at this
theorem SimU.mv {i : Nat} {o : Oper} {v : AV} (hw : WfU md ops rs) (hs : SimU C σ rs listed E a w) (ho : ops[i]? = some o) (hd : ∀ t, o.dst = some t → t < C.n) (hm : isMv o = true) (hmr : ∀ r ∈ rs, i ∉ r.all)
    (hy : YU P C ops σ rs i o v E) : ∃ u, YA P ops o u a ∧ SimU C σ rs (listed.setIfInBounds i true) (putE E o.dst v) (a.put o.dst u) w := by
  obtain ⟨s1, s2, s3, scl, s4, s5, φ, hG, hst, hE⟩ := hs
  obtain ⟨dst, op, ty, pos, after, g⟩ := o
  obtain ⟨t, rfl, rfl⟩ : ∃ t, dst = some t ∧ g = none := by
    unfold isMv at hm
    split at hm
    · rename_i he; injection he with e1 e2 e3 e4 e5 e6; exact ⟨_, e1, e6⟩
    · rename_i he; injection he with e1 e2 e3 e4 e5 e6; exact ⟨_, e1, e6⟩
    · cases hm
  have htn := hd t rfl
  have hres := resU_same (listed := listed) hmr
  have hne : ∀ (p : Nat) r, rs[p]? = some r → i ≠ r.idx := fun p r hp e => hmr r (List.mem_of_getElem? hp) (e ▸ r.mem_idx)
  have hnj : ∀ (p : Nat) r j s, rs[p]? = some r → r.pre = some (j, s) → i ≠ j := fun p r j s hp hpr e => hmr r (List.mem_of_getElem? hp) (e ▸ RE.mem_pre hpr)
  have bad : ∀ (p : Nat) r, rs[p]? = some r → i ∈ r.all → False := fun p r hp hm => hmr r (List.mem_of_getElem? hp) hm
  rcases hy with ⟨h0, hsg, ⟨hg, hv⟩ | ⟨hg, _⟩⟩ | ⟨p, r, hp, hri, _⟩ | ⟨p, r, s, hp, hrp, _⟩ | ⟨p, r, j, s, hp, hri, _⟩
  · have hwp := hv (resU rs listed) a ⟨w, φ, σ ++ resU rs listed, C.ok⟩ hG rfl (fun x _ => ev_evE' hE x) (fun a' w' => ∃ u, a' = a.put (some t) u ∧ AV.rel ⟨w', φ, σ ++ resU rs listed, C.ok⟩ v u) (fun _ _ _ => False) fun u w' hb hu => ⟨u, rfl, hu⟩
    rcases isMv_ya (P := P) (ops := ops) hm a with ⟨u, hya⟩ | hno
    · refine ⟨u, hya, ?_⟩
      unfold Oper.wp at hwp
      rw [hya.2 w] at hwp
      simp only [Oper.upon] at hwp
      obtain ⟨u', he, hu⟩ := hwp
      have hu' : u = u' := by
        have h1 := getD_put a t t u (by rw [s2]; exact htn)
        have h2 := getD_put a t t u' (by rw [s2]; exact htn)
        rw [if_pos rfl] at h1 h2
        rw [← h1, ← h2, he]
      subst hu'
      refine ⟨s1, by simp [Act.put, s2], fun p r hp k hk => by simpa using s3 p r hp k hk, fun p r j s hp hpr hl => ?_, s4, fun p r hp hpr hl s => ?_, φ, by rw [hres]; exact hG, ⟨fun p r hp hl => ?_⟩, fun s => ?_⟩
      · rw [getD_set_ne false (hne p r hp)] at hl
        rw [getD_set_ne false (hnj p r j s hp hpr)]
        exact scl p r j s hp hpr hl
      · rw [getD_set_ne false (hne p r hp)] at hl
        simp only [putE]
        split
        · exact hsg p r hp hpr
        · exact s5 p r hp hpr hl s
      · rw [getD_set_ne false (hne p r hp)] at hl
        obtain ⟨k1, k2⟩ := hst.made p r hp hl
        refine ⟨fun j s hpr hj => ?_, fun h => k2 fun j s hpr => ?_⟩
        · rw [getD_set_ne false (hnj p r j s hp hpr)] at hj
          rw [hres, getD_put a t s u (by rw [s2]; exact htn), if_neg fun e => hnj p r j s hp hpr (hw.slot p r j s hp hpr i _ ho (by rw [e]))]
          exact k1 j s hpr hj
        · have := h j s hpr
          rwa [getD_set_ne false (hnj p r j s hp hpr)] at this
      · rw [hres, getD_put a t s u (by rw [s2]; exact htn)]
        simp only [putE]
        split
        · exact hu
        · exact hE s
    · exfalso
      unfold Oper.wp at hwp
      cases hr : (execOp a.eval (⟨some t, op, ty, pos, after, none⟩ : Oper)).run P w with
      | ok x w' => exact (hno w x w').1 hr
      | halt q w' =>
        rw [hr] at hwp
        cases q <;> first | exact hwp | exact (hno w .skip w').2 _ hr
  · simp [gsayE] at hg
  · exact (bad p r hp (hri ▸ r.mem_idx)).elim
  · exact (bad p r hp (RE.mem_pre hrp)).elim
  · exact (bad p r hp (hri ▸ r.mem_idx)).elim
theorem wpAny_of_V {n g : Nat} {L : Array Bool → EE → Prop} {F : Act → World → Prop} (hpri : ∀ e ∈ pri, freeAll md ops e = true) (hsel : ∀ (j : Nat) (o : Oper) cs b, ops[j]? = some o → o.op ≠ .select cs b) (hw : WfU md ops rs) (hpm : ∀ e ∈ pri, ∀ r ∈ rs, e ∉ r.all) (hd : ∀ (i : Nat) o t, ops[i]? = some o → o.dst = some t → t < C.n)
    (hL : ∀ listed E a w, L listed E → SimU C σ rs listed E a w → wpAny P md ops (nrm F) g listed a w) :
    ∀ (f : Nat) (listed : Array Bool) (E : EE) (a : Act) (w : World), SimU C σ rs listed E a w → wpAnyV P C md ops σ rs pri n L f listed E → wpAny P md ops (nrm F) (f + g) listed a w
  | 0, listed, E, a, w, hs, h => by rw [Nat.zero_add]; exact hL _ _ _ _ h hs
  | f + 1, listed, E, a, w, hs, h => by
    rw [show f + 1 + g = (f + g) + 1 by omega]
    rcases h with ⟨e, he, her, hen, o, v, ho, hy, hK⟩ | ⟨_, h0, h⟩
    · obtain ⟨hmv, hap⟩ := freeAll_spec ho (hpri e he)
      obtain ⟨u, hya, hs'⟩ := SimU.mv hw hs ho (fun t ht => hd e o t ho ht) hmv (hpm e he) hy
      exact wpAny_ya ho hsel _ listed a w hya (fun j oj hj hje hun hno => hap j oj hj hje hno fun ed hed hb hon => by
        obtain ⟨_, o', ho', hall⟩ := mem_ready.1 her
        have : o' = o := Option.some.inj (ho'.symm.trans ho)
        subst this
        have h1 := hall ed hed hb
        rw [hon, getD_both hun] at h1
        cases h1) her (wpAny_of_V hpri hsel hw hpm hd hL f _ _ _ w hs' hK)
    · refine ⟨fun h1 => absurd h1 h0, fun i hi => ?_⟩
      obtain ⟨o, v, ho, hy, hK⟩ := (h i hi).2
      exact SimU.op hw hs hi ho (fun t ht => hd i o t ho ht) hy fun a' w' hs' => wpAny_of_V hpri hsel hw hpm hd hL f _ _ a' w' hs' hK
end
/-! ### All of it. -/
def keyAll (k : Nat × Option (Nat × Nat)) : List Nat := k.1 :: match k.2 with
  | some p => [p.1]
  | none => []
def wfB (l : List Oper) (pri : List Nat) (n : Nat) (keys : List (Nat × Option (Nat × Nat))) : Bool :=
  decide (keys.flatMap keyAll).Nodup && (keys.flatMap keyAll).all (fun i => decide (i < n) && !pri.contains i) && keys.all fun k => match k.2 with
    | none => true
    | some p => (match l[k.1]? with
      | some o => o.after.any fun e => Region.binds .any e && decide (e.on = p.1)
      | none => false) && (List.range l.length).all fun i => match l[i]? with
        | some o => decide (o.dst ≠ some p.2) || decide (i = p.1)
        | none => true
theorem nd_flat {κ : Type} {f : κ → List Nat} : ∀ {l : List κ}, (l.flatMap f).Nodup → ∀ (p : Nat) a (p' : Nat) a' i, l[p]? = some a → l[p']? = some a' → i ∈ f a → i ∈ f a' → p = p'
  | [], _, p, a, _, _, _, h, _, _, _ => by simp at h
  | x :: l, hn, p, a, p', a', i, h, h', hi, hi' => by
    rw [List.flatMap_cons, List.nodup_append] at hn
    obtain ⟨_, h2, h3⟩ := hn
    cases p with
    | zero =>
      cases p' with
      | zero => rfl
      | succ p' =>
        simp only [List.getElem?_cons_zero, Option.some.injEq, List.getElem?_cons_succ] at h h'
        subst h
        exact absurd rfl (h3 i hi i (List.mem_flatMap.2 ⟨a', List.mem_of_getElem? h', hi'⟩))
    | succ p =>
      cases p' with
      | zero =>
        simp only [List.getElem?_cons_zero, Option.some.injEq, List.getElem?_cons_succ] at h h'
        subst h'
        exact absurd rfl (h3 i hi' i (List.mem_flatMap.2 ⟨a, List.mem_of_getElem? h, hi⟩))
      | succ p' =>
        simp only [List.getElem?_cons_succ] at h h'
        rw [nd_flat h2 p a p' a' i h h' hi hi']
theorem nd_in {κ : Type} {f : κ → List Nat} : ∀ {l : List κ}, (l.flatMap f).Nodup → ∀ a ∈ l, (f a).Nodup
  | [], _, a, h => by cases h
  | x :: l, hn, a, h => by
    rw [List.flatMap_cons, List.nodup_append] at hn
    rcases List.mem_cons.1 h with rfl | h
    · exact hn.1
    · exact nd_in hn.2.1 a h
def RE.key (r : RE) : Nat × Option (Nat × Nat) := (r.idx, r.pre)
theorem RE.all_key (r : RE) : r.all = keyAll r.key := by
  unfold RE.all keyAll RE.key
  cases r.pre <;> rfl
theorem wf_of {l : List Oper} {rs : ResU} {pri : List Nat} {n : Nat} {keys : List (Nat × Option (Nat × Nat))} (hk : rs.map RE.key = keys) (h : wfB l pri n keys = true) :
    WfU .any l.toArray rs ∧ (∀ r ∈ rs, ∀ i ∈ r.all, i < n) ∧ ∀ e ∈ pri, ∀ r ∈ rs, e ∉ r.all := by
  subst hk
  unfold wfB at h
  simp only [Bool.and_eq_true, decide_eq_true_eq] at h
  obtain ⟨⟨h1, h2⟩, h3⟩ := h
  have hin : ∀ r ∈ rs, ∀ i ∈ r.all, i < n ∧ i ∉ pri := fun r hr i hi => by
    have := List.all_eq_true.1 h2 i (List.mem_flatMap.2 ⟨r.key, List.mem_map_of_mem hr, r.all_key ▸ hi⟩)
    simpa using this
  have at_ : ∀ (p : Nat) r, rs[p]? = some r → (rs.map RE.key)[p]? = some r.key := fun p r hp => by rw [List.getElem?_map, hp]; rfl
  have h4 : ∀ (p : Nat) r j s, rs[p]? = some r → r.pre = some (j, s) → (∃ o, l[r.idx]? = some o ∧ ∃ e ∈ o.after, Region.binds .any e = true ∧ e.on = j) ∧ ∀ i o, l[i]? = some o → o.dst = some s → i = j := by
    intro p r j s hp hpr
    have := List.all_eq_true.1 h3 r.key (List.mem_map_of_mem (List.mem_of_getElem? hp))
    simp only [RE.key, hpr, Bool.and_eq_true] at this
    obtain ⟨k1, k2⟩ := this
    refine ⟨?_, fun i o hi hd => ?_⟩
    · split at k1
      · rename_i o ho
        rw [Array.any_eq_true'] at k1
        obtain ⟨e, he, hb⟩ := k1
        simp only [Bool.and_eq_true, decide_eq_true_eq] at hb
        exact ⟨o, ho, e, he, hb.1, hb.2⟩
      · cases k1
    · have := List.all_eq_true.1 k2 i (List.mem_range.2 (List.getElem?_eq_some_iff.1 hi).1)
      rw [hi] at this
      simp only [Bool.or_eq_true, decide_eq_true_eq] at this
      rcases this with h | h
      · exact absurd hd h
      · exact h
  refine ⟨⟨fun p r p' r' i hp hp' hm hm' => nd_flat h1 p r.key p' r'.key i (at_ p r hp) (at_ p' r' hp') (r.all_key ▸ hm) (r'.all_key ▸ hm'), fun p r j s hp hpr he => ?_, fun p r j s hp hpr => ?_, fun p r j s hp hpr i o hi hd => (h4 p r j s hp hpr).2 i o (by simpa using hi) hd⟩, fun r hr i hi => (hin r hr i hi).1, fun e he r hr hm => (hin r hr e hm).2 he⟩
  · have := nd_in h1 r.key (List.mem_of_getElem? (at_ p r hp))
    rw [← r.all_key] at this
    unfold RE.all at this
    simp [hpr] at this
    exact this he
  · obtain ⟨o, ho, he⟩ := (h4 p r j s hp hpr).1
    exact ⟨o, by simpa using ho, he⟩
theorem reOb_blank {m : Nat} (r : RE) : reOb (Array.replicate m false) r = ⟨r.t, 0, []⟩ := by
  unfold reOb
  rw [getD_replicate_false]
  simp only [Bool.false_eq_true, if_false]
  split
  · rw [getD_replicate_false]; rfl
  · rfl
theorem resU_full {rs : ResU} {listed : Array Bool} (h : ∀ r ∈ rs, listed.getD r.idx false = true) : resU rs listed = fullU rs := by
  unfold resU fullU
  refine List.map_congr_left fun r hr => ?_
  unfold reOb
  rw [if_pos (h r hr)]
section
variable {P : Program} {C : Ctx} {k : List Item} {R : Act → World → Prop} {env : Env} {σ : List Ob}
/-- A drawn region's walk: the head, then the tail. -/
structure RunsU (P : Program) (C : Ctx) (ops : Array Oper) (rs : ResU) (tail : List Oper) (l : List (Nat × Oper)) (k : List Item) (R : Act → World → Prop) (S : St) : Prop where
  run : wpLexV P C ops S.σ rs (fun E => ∃ env', E = look env' ∧ RunsL P C ops tail k R ⟨env', S.σ ++ fullU rs⟩) l (look S.env)
theorem Runs.drawV {id : Nat} {l : List Oper} {cn : Nat} {keys : List (Nat × Option (Nat × Nat))} (pri head : List Nat) (n : Nat) (rs : ResU) (hf : P.follows .mixedOrders = true) (hn : C.n = cn) (hB : drawQB l pri head n = true) (hd : dstOk cn l = true)
    (hk : rs.map RE.key = keys) (hwf : wfB l pri n keys = true)
    (h : RunsU P C l.toArray rs (l.drop n) (pick l head) k R ⟨env, σ⟩) : Runs P C (.code (.region id l.toArray true) :: k) R ⟨env, σ⟩ := by
  refine ⟨fun a w hs => Fin.of_wp (wp_region_any hf ?_)⟩
  unfold drawQB at hB
  simp only [Bool.and_eq_true, decide_eq_true_eq] at hB
  obtain ⟨⟨⟨⟨⟨⟨hsel, hnl⟩, hsk⟩, hch⟩, hlen⟩, hpr⟩, hlex⟩ := hB
  obtain ⟨hw, hin, hpm⟩ := wf_of (l := l) (pri := pri) (n := n) hk hwf
  have hpri : ∀ e ∈ pri, freeAll .any l.toArray e = true := fun e he => by have := List.all_eq_true.1 hpr e he; simp only [Bool.and_eq_true] at this; exact this.2
  have hpn : ∀ e ∈ pri, e < n := fun e he => by have := List.all_eq_true.1 hpr e he; simp only [Bool.and_eq_true, decide_eq_true_eq] at this; exact this.1
  obtain ⟨s1, s2, φ, hG, hE⟩ := hs
  have hb : Below w.heap.size w { w with drawn := w.drawn + 1 } := ⟨rfl, rfl, rfl, Nat.le_refl _, fun _ _ => rfl⟩
  obtain ⟨g1, g2⟩ := good_below hG hb
  let φ0 : Nat → Option Nat := fun i => if i < σ.length then φ i else none
  have hφ0 : ∀ j, φ0 (σ.length + j) = none := fun j => if_neg (by omega)
  have hblank : ∀ (j : Nat) r, rs[j]? = some r → (resU rs (Array.replicate l.length false))[j]? = some ⟨r.t, 0, []⟩ := fun j r hj => by unfold resU; rw [List.getElem?_map, hj]; simp only [Option.map_some, reOb_blank]
  obtain ⟨G1, G2⟩ := good_grow (φ' := φ0) (new := resU rs (Array.replicate l.length false)) g1 (Below.refl _ _) (fun i hi => if_pos hi) (fun j hj g hg => by rw [hφ0] at hg; cases hg) (fun i j g hi hj e1 e2 => by rw [hφ0] at e1; cases e1) (fun j o hj => by
    rw [hφ0]
    unfold resU at hj
    rw [List.getElem?_map, Option.map_eq_some_iff] at hj
    obtain ⟨r, _, rfl⟩ := hj
    rw [reOb_blank]; rfl)
  have hE1 : ∀ t, AV.rel ⟨{ w with drawn := w.drawn + 1 }, φ0, σ ++ resU rs (Array.replicate l.length false), C.ok⟩ (look env t) (a.tmps.getD t undef) := fun t => AV.rel_keeps G2 _ _ (AV.only_true _) (AV.rel_keeps g2 _ _ (AV.only_true _) (hE t))
  have hplace : ∀ (p : Nat) r, rs[p]? = some r → (σ ++ resU rs (Array.replicate l.length false))[σ.length + p]? = some ⟨r.t, 0, []⟩ := fun p r hp => by
    rw [List.getElem?_append_right (by omega), show σ.length + p - σ.length = p by omega]
    exact hblank p r hp
  have hdd : ∀ (i : Nat) o t, l.toArray[i]? = some o → o.dst = some t → t < C.n := fun i o t hi ht => by rw [hn]; exact dstOk_at hd i o t (by simpa using hi) ht
  have inv0 : HeadInv .any l.toArray n (Array.replicate l.length false) :=
    ⟨by simp, fun j oj _ hl => (by rw [getD_replicate_false] at hl; cases hl), fun t _ ht => getD_in (by simpa using ht) (getD_replicate_false _ _)⟩
  have hmemH : ∀ p ∈ pick l head, l.toArray[p.1]? = some p.2 := fun p hp => by simpa using pick_mem hp
  have hsz : l.toArray.size = (pick l head).length + (l.length - n) := by simp; omega
  refine (show ∀ m, m = l.toArray.size → wpAny P .any l.toArray (nrm (Fin P k R)) m (Array.replicate l.toArray.size false) a { w with drawn := w.drawn + 1 } from ?_) _ rfl
  intro m hm
  obtain rfl := hm.trans hsz
  have H := wpAnyV_lex (P := P) (C := C) (σ := σ) (md := .any) (ops := l.toArray) (g := l.length - n) hpri hpn hsk hch (by simpa using hnl) (pick l head) (Array.replicate l.toArray.size false) (look env) hmemH (by simpa using inv0) (by simpa using hlex) h.run
  have hS0 : SimU C σ rs (Array.replicate l.length false) (look env) a { w with drawn := w.drawn + 1 } := by
    refine ⟨s1, s2, fun p r hp i hi => ?_, fun p r j s hp hpr hl => ?_, fun p r hp hpr o ho => ?_, fun p r hp hpr hl t => ?_, φ0, G1, ⟨fun p r hp hl => ⟨fun j s hpr hj => ?_, fun _ => hφ0 p⟩⟩, hE1⟩
    · have := hin r (List.mem_of_getElem? hp) i hi
      simp only [Array.size_replicate]; omega
    · rw [getD_replicate_false] at hl; cases hl
    · obtain ⟨i, hi⟩ := List.getElem?_of_mem ho
      have hil := (List.getElem?_eq_some_iff.1 hi).1
      have hob := G1.ob i o (by rw [show (⟨{ w with drawn := w.drawn + 1 }, φ0, σ ++ resU rs (Array.replicate l.length false), C.ok⟩ : Mem).σ = σ ++ resU rs (Array.replicate l.length false) from rfl, List.getElem?_append_left hil]; exact hi)
      refine onlys_at fun j v hj => ?_
      cases hg : φ0 i with
      | none => simp only [hg, ObRel] at hob; rw [hob] at hj; simp at hj
      | some g =>
        simp only [hg, ObRel] at hob
        obtain ⟨us, _, _, q3⟩ := hob
        obtain ⟨x, _, _, k3⟩ := q3 j v hj
        exact only_place (hplace p r hp) (hφ0 p) v x k3
    · exact only_place (hplace p r hp) (hφ0 p) _ _ (hE1 t)
    · rw [getD_replicate_false] at hj; cases hj
  refine wpAny_of_V hpri (Region.noSelect_spec hsel) hw hpm hdd (fun listed' E' a'' w'' hL hS => ?_) _ _ (look env) a _ (by simpa using hS0) H
  obtain ⟨hsq, hall, env'', rfl, hR⟩ := hL
  have hfl := resU_full (rs := rs) (listed := listed') fun r hr => hall r.idx (hin r hr _ r.mem_idx)
  obtain ⟨u1, u2, _, _, _, _, φ', G', _, hE''⟩ := hS
  rw [hfl] at G' hE''
  have := wpAny_of_seq (md := .any) (Q' := nrm (Fin P k R)) (l.drop n) n listed' a'' w'' (fun j => by simp [List.getElem?_drop]) (by rw [List.length_drop]; exact hsq) (hR.run a'' w'' ⟨u1, u2, φ', G', hE''⟩)
  rwa [List.length_drop] at this
theorem Runs.toDrawV {id : Nat} {l : List Oper} {k' : List Item} {cn : Nat} {keys : List (Nat × Option (Nat × Nat))} (m : Nat) (pri head : List Nat) (n : Nat) (rs : ResU) (hf : P.follows .mixedOrders = true) (hn : C.n = cn) (hc : Proofs.YtnbjncafoahclaaDoor.ctls m k = .code (.region id l.toArray true) :: k') (hB : drawQB l pri head n = true) (hd : dstOk cn l = true)
    (hk : rs.map RE.key = keys) (hwf : wfB l pri n keys = true)
    (h : RunsU P C l.toArray rs (l.drop n) (pick l head) k' R ⟨env, σ⟩) : Runs P C k R ⟨env, σ⟩ := Runs.ctls m hc (Runs.drawV pri head n rs hf hn hB hd hk hwf h)
variable {ops : Array Oper} {rs : ResU} {tail : List Oper} {rest : List (Nat × Oper)} {i t : Nat} {o : Oper}
theorem RunsU.nil (h : RunsL P C ops tail k R ⟨env, σ ++ fullU rs⟩) : RunsU P C ops rs tail [] k R ⟨env, σ⟩ := ⟨⟨env, rfl, h⟩⟩
theorem RunsU.pur {v : AV} (h : ∀ more, Pur P C o env (σ ++ more) v) (hi : ((rs.map RE.key).flatMap keyAll).contains i = false) (hs : staged rs σ.length v) (hg : gsay ops env o.guard = some true) (hd : o.dst = some t) (hk : RunsU P C ops rs tail rest k R ⟨(t, v) :: env, σ⟩) : RunsU P C ops rs tail ((i, o) :: rest) k R ⟨env, σ⟩ := by
  refine ⟨v, .inl ⟨fun r hr hm => ?_, hs, .inl ⟨hg, fun more => (h more).toF⟩⟩, ?_⟩
  · have : i ∈ (rs.map RE.key).flatMap keyAll := List.mem_flatMap.2 ⟨r.key, List.mem_map_of_mem hr, r.all_key ▸ hm⟩
    rw [← List.contains_iff_mem] at this
    rw [this] at hi; cases hi
  · rw [hd, show (⟨env, σ⟩ : St).env = env from rfl, ← look_putE]
    exact hk.run
theorem RunsU.step {T : Tab} (hT : TabOk P T) {v : AV} (hd : o.dst = some t) (hg : gsay ops env o.guard = some true) (h : ∀ more, aop T env (σ ++ more) o.op = some v) (hi : ((rs.map RE.key).flatMap keyAll).contains i = false) (hs : staged rs σ.length v) (hk : RunsU P C ops rs tail rest k R ⟨(t, v) :: env, σ⟩) : RunsU P C ops rs tail ((i, o) :: rest) k R ⟨env, σ⟩ := by
  obtain ⟨dst, op, ty, pos, after, g⟩ := o
  simp only at hd; subst hd
  exact RunsU.pur (fun more => pu_auto hT (h more)) hi hs hg rfl hk
theorem RunsU.made {p : Nat} {r : RE} {v : AV} (hr : rs[p]? = some r) (hi : r.idx = i) (hp : r.pre = none) (hg : o.guard = none) (hd : o.dst = some t) (hm : MkN P C o (look env) r.ob (σ.length + p) v) (hk : RunsU P C ops rs tail rest k R ⟨(t, v) :: env, σ⟩) : RunsU P C ops rs tail ((i, o) :: rest) k R ⟨env, σ⟩ := by
  refine ⟨v, .inr (.inl ⟨p, r, hr, hi, hp, hg, by rw [hd]; rfl, hm⟩), ?_⟩
  rw [hd, show (⟨env, σ⟩ : St).env = env from rfl, ← look_putE]
  exact hk.run
theorem RunsU.lay {p : Nat} {r : RE} (hr : rs[p]? = some r) (hp : r.pre = some (i, t)) (hg : o.guard = none) (hd : o.dst = some t) (hm : MkN P C o (look env) ⟨r.t, r.sz, []⟩ (σ.length + p) (.own (σ.length + p))) (hk : RunsU P C ops rs tail rest k R ⟨(t, .junk) :: env, σ⟩) : RunsU P C ops rs tail ((i, o) :: rest) k R ⟨env, σ⟩ := by
  refine ⟨.junk, .inr (.inr (.inl ⟨p, r, t, hr, hp, hg, hd, hm, rfl⟩)), ?_⟩
  rw [hd, show (⟨env, σ⟩ : St).env = env from rfl, ← look_putE]
  exact hk.run
theorem RunsU.gro {p j s : Nat} {r : RE} (hr : rs[p]? = some r) (hi : r.idx = i) (hp : r.pre = some (j, s)) (hg : o.guard = none) (hd : o.dst = some t) (hm : MkQ P C o (look env) r s (σ.length + p)) (hk : RunsU P C ops rs tail rest k R ⟨(t, .own (σ.length + p)) :: env, σ⟩) : RunsU P C ops rs tail ((i, o) :: rest) k R ⟨env, σ⟩ := by
  refine ⟨.own (σ.length + p), .inr (.inr (.inr ⟨p, r, j, s, hr, hi, hp, hg, by rw [hd]; rfl, hm, rfl⟩)), ?_⟩
  rw [hd, show (⟨env, σ⟩ : St).env = env from rfl, ← look_putE]
  exact hk.run
/-! ### What is made. -/
variable {E : EE} {q : Nat} {ty : TypeId} {pos : String} {after : Array Edge}
theorem mk_alloc {e : TypeId} {zs : List Value} (hz : TZ P e zs) : MkN P C ⟨some t, .alloc e, ty, pos, after, none⟩ E ⟨e, 0, (zs.map RV.c).map .ro⟩ q (.obj q 0) := by
  refine ⟨.inr rfl, fun a w φ σ hG hq hφ _ K Q hK => ?_⟩
  have hql : q < σ.length := (List.getElem?_eq_some_iff.1 hq).1
  obtain ⟨inf, z, h1, h2, h3, h4⟩ := hz.h
  unfold Oper.wp
  have hrun : (execOp a.eval ⟨some t, .alloc e, ty, pos, after, none⟩).run P w = .ok (.value (.pointer (some ⟨w.heap.size, 0, none⟩))) (w.alloc (.cells zs.toArray e)) := by
    simp [execOp, Instr.alloc, zeroValue, typeInfo, h1, h2, newVar, newRow, newObj, h3]; rfl
  rw [hrun]
  simp only [Oper.upon]
  refine hK _ _ w.heap.size (below_one w _) (Nat.le_refl _) ?_ ?_
  · simp only [ObRel]
    refine ⟨zs.toArray, heap_alloc_new w _, by simp, fun j v hj => ?_⟩
    rw [List.getElem?_map, List.getElem?_map, Option.map_eq_some_iff] at hj
    obtain ⟨y, hy, rfl⟩ := hj
    rw [Option.map_eq_some_iff] at hy
    obtain ⟨x, hx, rfl⟩ := hy
    exact ⟨x, by simpa using hx, h4 x (List.mem_of_getElem? hx), by simp [AV.rel, RV.rel]⟩
  · simp only [AV.rel]
    exact ⟨by simpa using hql, w.heap.size, upd_eq, rfl⟩
theorem mk_build0 {tt e : TypeId} {z : Value} {sz bytes : Nat} [hs : SL P tt e z sz bytes] : MkN P C ⟨some t, .buildSlice tt 0 #[], ty, pos, after, none⟩ E ⟨e, sz, []⟩ q (.own q) := by
  refine ⟨.inl rfl, fun a w φ σ hG hq hφ _ K Q hK => ?_⟩
  have hql : q < σ.length := (List.getElem?_eq_some_iff.1 hq).1
  unfold Oper.wp
  have hrun : (execOp a.eval ⟨some t, .buildSlice tt 0 #[], ty, pos, after, none⟩).run P w = .ok (.value (.slice (some ⟨w.heap.size, 0, none⟩) 0 0)) (w.alloc (.cells #[] e)) := by
    simp only [execOp, Sem.run_bind]; rw [show (#[] : Array (Nat × Operand)).map (fun p => (p.1, a.eval p.2)) = #[] from by simp, run_build0 (P := P) (tt := tt) w]; rfl
  rw [hrun]
  simp only [Oper.upon]
  refine hK _ _ w.heap.size (below_one w _) (Nat.le_refl _) ?_ ?_
  · simp only [ObRel]
    exact ⟨#[], heap_alloc_new w _, by simp, fun j v hj => by simp at hj⟩
  · simp only [AV.rel]
    exact ⟨⟨e, sz, []⟩, 0, List.getElem?_set_self hql, by simp, hs.el.hs, .inr ⟨w.heap.size, 0, _, upd_eq, rfl, heap_alloc_new w _, Nat.le_refl _, Nat.zero_le _, by simp⟩⟩
/-- make([]T, 0, n). -/
theorem mk_make0 {tt e : TypeId} {z : Value} {sz bytes n : Nat} {x y : Operand} {kd kd' : IntKind} [hs : SL P tt e z sz bytes] (hx : evE E x = .ro (.c (.int kd 0))) (hy : evE E y = .ro (.c (.int kd' (n : Int))))
    (b2 : bytes * n ≤ 281474976710656) (b3 : n ≤ maxLen) : MkN P C ⟨some t, .makeSlice tt x y, ty, pos, after, none⟩ E ⟨e, sz, []⟩ q (.own q) := by
  refine ⟨.inl rfl, fun a w φ σ hG hq hφ hH K Q hK => ?_⟩
  have hql : q < σ.length := (List.getElem?_eq_some_iff.1 hq).1
  obtain ⟨i, hi, hz0, hsz, hb⟩ := hs.el.hi
  have hbb : (i.bytes : Int) * (n : Int) ≤ 281474976710656 := by
    rw [hb]
    have h : ((bytes * n : Nat) : Int) ≤ 281474976710656 := by omega
    rwa [Int.natCast_mul] at h
  have hr := run_make (P := P) w tt e i z hs.el.ht hi hz0 kd kd' 0 n (by omega) (by omega) hbb (by simp [maxLen] at b3; omega)
  simp only [Int.toNat_natCast, hsz] at hr
  have h1 := hH x (by simp [Op.operands])
  have h2 := hH y (by simp [Op.operands])
  rw [hx] at h1; rw [hy] at h2
  simp only [AV.rel, RV.rel] at h1 h2
  unfold Oper.wp
  have hrun : (execOp a.eval ⟨some t, .makeSlice tt x y, ty, pos, after, none⟩).run P w = .ok (.value (slv w.heap.size 0 n)) (w.alloc (.cells (madeCells z.cells (n * sz)) e)) := by
    simp only [execOp, h1, h2, Sem.run_bind, hr, Result.andThen]; rfl
  rw [hrun]
  simp only [Oper.upon]
  refine hK _ _ w.heap.size (below_one w _) (Nat.le_refl _) ?_ ?_
  · simp only [ObRel]
    exact ⟨_, heap_alloc_new w _, by simp, fun j v hj => by simp at hj⟩
  · simp only [AV.rel]
    exact ⟨⟨e, sz, []⟩, 0, List.getElem?_set_self hql, by simp, hs.el.hs, .inr ⟨w.heap.size, n, _, upd_eq, rfl, heap_alloc_new w _, Nat.zero_le _, b3, by simp [size_madeCells]⟩⟩
/-- append([]T{}, xs...): what was laid empty grows. -/
theorem mk_append {tt e : TypeId} {z : Value} {sz bytes s j : Nat} {els : List (List RV)} {y : Operand} {i : Nat} [hs : SL P tt e z sz bytes] (hy : evE E y = .ro (.seq sz els)) (b1 : els.length ≤ 140737488355328) (b2 : els.length * bytes ≤ 140737488355328) :
    MkQ P C ⟨some t, .call { callee := .builtin .append, args := #[.tmp s, y], argTypes := #[tt, tt] }, ty, pos, after, none⟩ E ⟨i, some (j, s), e, sz, els.flatten⟩ s q := by
  intro a w φ σ hG hq hown hfree hH K Q hK
  obtain ⟨A, n0, c, xs, hu, hl, hsz, hrow, hblk, hcell⟩ := own_row hG hq hown
  simp only [List.length_nil] at hl
  have hn0 : n0 = 0 := by
    rcases Nat.mul_eq_zero.1 hl.symm with h | h
    · exact h
    · have h' : sz = 0 := h
      have hsz' : 0 < sz := hsz
      omega
  subst hn0
  have hyr := hH y (by simp [Op.operands, Call.operands])
  rw [hy] at hyr
  simp only [AV.rel] at hyr
  obtain ⟨B, m, d, hv⟩ : ∃ B m d, a.eval y = .slice B m d := by simp only [RV.rel] at hyr; obtain ⟨B, m, d, e, _⟩ := hyr; exact ⟨B, m, d, e⟩
  rw [hv] at hyr
  obtain ⟨hm, ys, hRd, hy1, hyl, hyr'⟩ := seq_rd hyr
  subst hm
  rw [hu] at hrow
  simp only at hrow hsz
  obtain ⟨A', c', w', hrun, happ⟩ := run_app (P := P) hs.el ty 0 A 0 c xs hrow B els.length d ys hRd hy1 (by unfold maxLen; omega) (by rw [Nat.zero_add]; exact b2) (Nat.zero_le _)
  have hflat : els.flatten.length = els.length * sz := by rw [← hyl]; exact hRd.1
  have hxl : xs.length = 0 := by rw [hrow.1]; omega
  rw [hu] at hblk
  have happg := happ.grown
  have hapl := happ.lies
  rw [hblk] at happg hapl
  obtain ⟨g1, g2, g3⟩ := good_append (rs := []) (news := els.flatten) (n' := 0 + els.length) hG hq rfl hfree hsz (by rw [List.nil_append, Nat.zero_add]; exact hflat) happ.own happg hapl (fun j r hj => by
    obtain ⟨x', e1, e3⟩ := hyr' j r (by simpa using hj)
    exact ⟨x', by rw [List.getElem?_append_right (by omega), hxl]; exact e1, hy1 x' (List.mem_of_getElem? e1), e3⟩)
  have hs' : a.eval (.tmp s) = .slice A 0 c := hu
  unfold Oper.wp execOp
  simp only [resolve, invoke, builtin, Sem.run_bind, Sem.run_pure, Result.andThen_ok, List.map_toArray, List.map_cons, List.map_nil, hs', hv, hrun, Oper.upon]
  exact hK _ _ _ g1 g2 g3
end
end Go.Proofs.YtnbjncafoahclaaDoor
/- FnDigits: hexadecimal digits of two bytes and back; small helpers of the laws. -/
namespace Go.Proofs.YtnbjncafoahclaaDoor
set_option linter.unusedSimpArgs false
set_option linter.unusedVariables false
open Go.RowKit
open AV (Mem Keeps)
def hexd (k : Nat) : UInt8 := ([48, 49, 50, 51, 52, 53, 54, 55, 56, 57, 97, 98, 99, 100, 101, 102] : List UInt8).getD k 0
theorem sixteen {k : Nat} (h : k < 16) : k = 0 ∨ k = 1 ∨ k = 2 ∨ k = 3 ∨ k = 4 ∨ k = 5 ∨ k = 6 ∨ k = 7 ∨ k = 8 ∨ k = 9 ∨ k = 10 ∨ k = 11 ∨ k = 12 ∨ k = 13 ∨ k = 14 ∨ k = 15 := by omega
theorem or_nib (p q : Nat) (hp : p < 16) (hq : q < 16) : bits .or .i64 ((p : Int) * 16) (q : Int) = (p : Int) * 16 + q := by
  rcases sixteen hp with rfl | rfl | rfl | rfl | rfl | rfl | rfl | rfl | rfl | rfl | rfl | rfl | rfl | rfl | rfl | rfl <;>
  rcases sixteen hq with rfl | rfl | rfl | rfl | rfl | rfl | rfl | rfl | rfl | rfl | rfl | rfl | rfl | rfl | rfl | rfl <;> rfl
section
variable {P : Program} {C : Ctx} {ops : Array Oper} {rest : List Oper} {k : List Item} {R : Act → World → Prop} {env : Env} {σ : List Ob} {t : Nat} {ty : TypeId} {pos : String} {after : Array Edge} {gd : Option (Nat × Bool)} {xt yt : TypeId} {x y : Operand}
theorem pu_shr4 {c : UInt8} {kd : IntKind} (hx : ev env x = .ro (.u8 c)) (hy : ev env y = .ro (.c (.int kd 4))) : Pur P C ⟨some t, .binOp .shr xt x y yt, ty, pos, after, gd⟩ env σ (.ro (.c (.int .u8 ((c.toNat / 16 : Nat) : Int)))) :=
  pu_bin hx hy (fun w => by
    simp only [go_sem]
    rw [shift_shr_any _ _ _ _ (by decide)]
    simp [IntKind.bits])
theorem pu_and15 {c : UInt8} (hx : ev env x = .ro (.u8 c)) (hy : ev env y = .ro (.c (.int .u8 15))) : Pur P C ⟨some t, .binOp .and xt x y yt, ty, pos, after, gd⟩ env σ (.ro (.c (.int .u8 ((c.toNat % 16 : Nat) : Int)))) :=
  pu_bin hx hy (fun w => by
    have hc := c.toNat_lt
    have e := bits_mask .u8 8 (by decide) wraps_u8 4 (by decide) (c.toNat : Int) (by omega) (by omega)
    have e' : bits .and .u8 (c.toNat : Int) 15 = ((c.toNat % 16 : Nat) : Int) := by
      have : ((2 : Int) ^ 4 - 1) = 15 := by decide
      rw [this] at e
      rw [e]; omega
    rw [← e']
    simp [go_sem])
theorem pu_shl4 {p : Int} {kd : IntKind} (hx : ev env x = .int p) (hy : ev env y = .ro (.c (.int kd 4))) (h : 0 ≤ p ∧ p ≤ 15) : Pur P C ⟨some t, .binOp .shl xt x y yt, ty, pos, after, gd⟩ env σ (.int (p * 16)) :=
  pu_bin hx hy (fun w => by simp [go_sem, IntKind.wrap, IntKind.bits, IntKind.signed, Int.shiftLeft_eq]; omega)
theorem pu_orNib {p q : Nat} (hx : ev env x = .int ((p : Int) * 16)) (hy : ev env y = .int (q : Int)) (hp : p < 16) (hq : q < 16) : Pur P C ⟨some t, .binOp .or xt x y yt, ty, pos, after, gd⟩ env σ (.int ((p : Int) * 16 + q)) :=
  pu_bin hx hy (fun w => by rw [← or_nib p q hp hq]; simp [go_sem])
theorem pu_stringL {src dst e : TypeId} {x : Operand} {l : List UInt8} (hs : P.underlying src = some (.slice e)) (he : P.underlying e = some (.int .u8)) (hd : P.underlying dst = some .string) (hx : Lends C σ (ev env x) (bytesR l)) :
    Pur P C ⟨some t, .convert src dst x, ty, pos, after, gd⟩ env σ (.str ⟨l.toArray⟩) :=
  Pur.of (fun a m hG hσ hH => by
    have h := hH x (by simp [Op.operands])
    have h := hx m _ (fun _ => True) hG hσ (fun _ _ => trivial) (fun _ _ _ _ => trivial) h
    simp only [bytesR, RV.rel] at h
    obtain ⟨A, n, c, e1, hn, hc, _, hA⟩ := h
    rw [List.length_map] at hn
    refine ⟨.string ⟨l.toArray⟩, ?_, by simp [AV.rel, RV.rel]⟩
    have key : (convert src dst (a.eval x)).run P m.w = .ok (.string ⟨l.toArray⟩) m.w := by
      rw [e1]
      cases hl : l with
      | nil =>
        subst hl
        have : n = 0 := by simpa using hn
        subst this
        cases A with
        | none => rw [run_convert_bytes_string m.w src dst e none 0 c hs he hd]; rfl
        | some a => exact run_convert_bytes_back m.w src dst e a c [] hs he hd (fun j hj => absurd hj (by simp))
      | cons y ys =>
        obtain ⟨b, o, eA, hb, _, hE⟩ := hA (by rw [hn, hl]; simp)
        rw [eA, hn, ← hl]
        refine run_convert_bytes_back m.w src dst e ⟨b, o, none⟩ c l hs he hd fun j hj => ?_
        have h1 := RV.relE_at _ o 1 hE j [.u8 l[j]] (by rw [List.getElem?_map, List.getElem?_eq_getElem hj]; rfl)
        obtain ⟨_, h2⟩ := h1
        simp only [RV.relAt] at h2
        obtain ⟨⟨u, k1, _, k3⟩, _⟩ := h2
        simp only [RV.rel] at k3
        rw [add_lit, ← k3, ← k1, Nat.mul_one]
    simp only [execOp, Sem.run_bind, key, Result.andThen]
    rfl)
/-- make([]T, 0, n). -/
theorem op_make0 {tt e : TypeId} {z : Value} {sz bytes n : Nat} {kd kd' : IntKind} [hs : SL P tt e z sz bytes] (hx : ev env x = .ro (.c (.int kd 0))) (hy : ev env y = .ro (.c (.int kd' (n : Int))))
    (b2 : bytes * n ≤ 281474976710656) (b3 : n ≤ maxLen) (ht : t < C.n) (hk : RunsL P C ops rest k R ⟨(t, .own σ.length) :: env, σ ++ [⟨e, sz, []⟩]⟩) :
    RunsL P C ops (⟨some t, .makeSlice tt x y, ty, pos, after, none⟩ :: rest) k R ⟨env, σ⟩ :=
  RunsL.val rfl rfl ht (fun a w φ hG hH => by
    obtain ⟨i, hi, hz0, hsz, hb⟩ := hs.el.hi
    have hbb : (i.bytes : Int) * (n : Int) ≤ 281474976710656 := by
      rw [hb]
      have h : ((bytes * n : Nat) : Int) ≤ 281474976710656 := by omega
      rwa [Int.natCast_mul] at h
    have hr := run_make (P := P) w tt e i z hs.el.ht hi hz0 kd kd' 0 n (by omega) (by omega) hbb (by simp [maxLen] at b3; omega)
    simp only [Int.toNat_natCast, hsz] at hr
    have hg := good_alloc hG (madeCells z.cells (n * sz)) e sz [] (by simp) (fun j v hj => by simp at hj)
    refine ⟨slv w.heap.size 0 n, _, _, by simp only [execOp, ev_c (ev_rel hH x) hx, ev_c (ev_rel hH y) hy, Sem.run_bind, hr, Result.andThen]; rfl, hg.1, hg.2, ?_⟩
    simp only [AV.rel]
    exact ⟨⟨e, sz, []⟩, 0, by rw [List.getElem?_append_right (Nat.le_refl _), Nat.sub_self]; rfl, by simp, hs.el.hs, .inr ⟨w.heap.size, n, _, upd_eq, rfl, heap_alloc_new w _, Nat.zero_le _, b3, by simp [size_madeCells]⟩⟩) hk
end
theorem hexs_at {k : Nat} (h : k < 16) : (⟨#[48, 49, 50, 51, 52, 53, 54, 55, 56, 57, 97, 98, 99, 100, 101, 102]⟩ : ByteArray)[((k : Nat) : Int).toNat]? = some (hexd k) := by
  rcases sixteen h with rfl | rfl | rfl | rfl | rfl | rfl | rfl | rfl | rfl | rfl | rfl | rfl | rfl | rfl | rfl | rfl <;> rfl
theorem formatHex_ac (b : UInt8) : ACv Tryd.prog 19 [bytesR [b, 7]] (.str ⟨#[hexd (b.toNat / 16), hexd (b.toNat % 16), 48, 55]⟩) := by
  have hb := b.toNat_lt
  have h1 := hexs_at (k := b.toNat / 16) (by omega)
  have h2 := hexs_at (k := b.toNat % 16) (by omega)
  have h3 := hexs_at (k := (7 : UInt8).toNat / 16) (by decide)
  have h4 := hexs_at (k := (7 : UInt8).toNat % 16) (by decide)
  refine ac_enter Tryd.func19 rfl _ Tryd.ntmps19 (by simp) fun C hn hm => ?_
  repeat' (first
    | ((first | refine RunsL.pe hn rfl rfl rfl ?_ | refine RunsD.pe rfl rfl ?_); first
      | refine ⟨_, pu_len_seqN 2 rfl rfl, ?_⟩)
    | refine RunsL.step tabOk hn rfl ?_
    | refine RunsL.nil ?_
    | refine Runs.toRegion 30 rfl ?_
    | refine op_make0 (n := 4) rfl rfl (by decide) (by decide) (tl hn rfl) ?_
    | ((first | refine RunsL.pe hn rfl rfl rfl ?_ | refine RunsD.pe rfl rfl ?_); first
      | refine ⟨_, pu_mul rfl rfl (by decide), ?_⟩)
    | (refine Runs.ctls 30 rfl ?_; first | refine Runs.cond_t rfl ?_ | refine Runs.cond_f rfl ?_ | ((first | refine Runs.cond_yes rfl ?_ ?_ | refine Runs.cond_nno rfl ?_ ?_); · first | omega | rfl | assumption | (simp only [List.length_map]; omega)) | ((first | refine Runs.cond_no rfl ?_ ?_ | refine Runs.cond_nyes rfl ?_ ?_); · first | omega | rfl | assumption | (simp only [List.length_map]; omega)) | refine Runs.cond_dec rfl (fun h => ?_) (fun h => ?_) | refine Runs.cond_ndec rfl (fun h => ?_) (fun h => ?_) | refine Runs.cond_nb rfl (fun h => ?_) (fun h => ?_) | refine Runs.cond_b rfl (fun h => ?_) (fun h => ?_) | refine Runs.ret (ends_ro hm rfl rfl ?_) | exact Runs.ret (ends_cellR hm rfl rfl rfl (Nat.le_of_ble_eq_true rfl) rfl rfl))
    | refine op_box rfl (tl hn rfl) ?_
    | refine op_storeF rfl rfl rfl rfl (Nat.le_of_ble_eq_true rfl) ?_
    | refine op_alloc (tl hn rfl) ?_
    | refine op_storeN rfl rfl rfl rfl (Nat.le_of_ble_eq_true rfl) ?_
    | refine RunsD.step tabOk hn rfl rfl ?_
    | refine RunsD.nil ?_
    | refine Runs.toDraw 30 mixed hn rfl (by kernel_rfl) rfl ?_
    | ((first | refine RunsL.pe hn rfl rfl rfl ?_ | refine RunsD.pe rfl rfl ?_); first
      | refine ⟨_, pu_add rfl rfl (by omega), ?_⟩
      | refine ⟨_, pu_indexAddr_map rfl rfl (by omega) (by assumption), ?_⟩
      | refine ⟨_, pu_sub rfl rfl (by omega), ?_⟩
      | refine ⟨_, pu_pick_b rfl rfl rfl, ?_⟩
      | refine ⟨_, pu_mul rfl rfl (by omega), ?_⟩
      | refine ⟨_, pu_build rfl rfl rfl rfl rfl rfl, ?_⟩))
  refine Runs.unroll 30 rfl ?_
  repeat' (first
    | refine Runs.toDrawT (id := 5) 30 [] [0, 1, 2, 3, 4, 5, 6, 7] 8 [] mixed hn rfl (by kernel_rfl) rfl .nil (by decide) (by decide) (by decide) ?_
    | refine RunsT.nil ?_
    | refine RunsT.step tabOk rfl rfl (fun _ => rfl) (by decide) ?_
    | refine RunsT.pur (fun _ => pu_shr4 rfl rfl) (by decide) rfl rfl ?_
    | refine RunsT.pur (fun _ => pu_and15 rfl rfl) (by decide) rfl rfl ?_
    | refine RunsT.pur (fun _ => pu_indexS rfl rfl (by omega) h1) (by decide) rfl rfl ?_
    | refine RunsT.pur (fun _ => pu_indexS rfl rfl (by omega) h2) (by decide) rfl rfl ?_
    | refine RunsT.pur (fun _ => pu_indexS rfl rfl (by decide) h3) (by decide) rfl rfl ?_
    | refine RunsT.pur (fun _ => pu_indexS rfl rfl (by decide) h4) (by decide) rfl rfl ?_
    | refine RunsT.pur (fun _ => pu_build rfl rfl rfl rfl rfl rfl) (by decide) rfl rfl ?_
    | refine RunsT.pur (fun _ => pu_indexAddr_seq rfl rfl (by decide) rfl) (by decide) rfl rfl ?_
    | refine RunsT.pur (fun _ => pu_add rfl rfl (by omega)) (by decide) rfl rfl ?_
    | refine RunsT.pur (fun _ => pu_indexAddr_map rfl rfl (by omega) (by assumption)) (by decide) rfl rfl ?_
    | refine RunsT.alloc (p := 0) rfl inferInstance ?_
    | refine RunsT.alloc (p := 1) rfl inferInstance ?_
    | refine RunsL.step tabOk hn rfl ?_
    | refine RunsL.nil ?_
    | refine Runs.toRegion 30 rfl ?_
    | refine op_appendA rfl rfl rfl rfl rfl rfl ⟨trivial, trivial⟩ (Nat.le_of_ble_eq_true rfl) rfl (tl hn rfl) ?_
    | ((first | refine RunsL.pe hn rfl rfl rfl ?_ | refine RunsD.pe rfl rfl ?_); first
      | refine ⟨_, pu_shr4 rfl rfl, ?_⟩
      | refine ⟨_, pu_and15 rfl rfl, ?_⟩
      | refine ⟨_, pu_indexS rfl rfl (by omega) h1, ?_⟩
      | refine ⟨_, pu_indexS rfl rfl (by omega) h2, ?_⟩
      | refine ⟨_, pu_indexS rfl rfl (by decide) h3, ?_⟩
      | refine ⟨_, pu_indexS rfl rfl (by decide) h4, ?_⟩
      | refine ⟨_, pu_build rfl rfl rfl rfl rfl rfl, ?_⟩
      | refine ⟨_, pu_indexAddr_seq rfl rfl (by decide) rfl, ?_⟩)
    | (refine Runs.ctls 30 rfl ?_; first | refine Runs.cond_t rfl ?_ | refine Runs.cond_f rfl ?_ | ((first | refine Runs.cond_yes rfl ?_ ?_ | refine Runs.cond_nno rfl ?_ ?_); · first | omega | rfl | assumption | (simp only [List.length_map]; omega)) | ((first | refine Runs.cond_no rfl ?_ ?_ | refine Runs.cond_nyes rfl ?_ ?_); · first | omega | rfl | assumption | (simp only [List.length_map]; omega)) | refine Runs.cond_dec rfl (fun h => ?_) (fun h => ?_) | refine Runs.cond_ndec rfl (fun h => ?_) (fun h => ?_) | refine Runs.cond_nb rfl (fun h => ?_) (fun h => ?_) | refine Runs.cond_b rfl (fun h => ?_) (fun h => ?_) | refine Runs.ret (ends_ro hm rfl rfl ?_) | exact Runs.ret (ends_cellR hm rfl rfl rfl (Nat.le_of_ble_eq_true rfl) rfl rfl))
    | refine op_box rfl (tl hn rfl) ?_
    | refine op_storeF rfl rfl rfl rfl (Nat.le_of_ble_eq_true rfl) ?_
    | refine op_alloc (tl hn rfl) ?_
    | refine op_storeN rfl rfl rfl rfl (Nat.le_of_ble_eq_true rfl) ?_
    | refine RunsD.step tabOk hn rfl rfl ?_
    | refine RunsD.nil ?_
    | refine Runs.toDraw 30 mixed hn rfl (by kernel_rfl) rfl ?_
    | ((first | refine RunsL.pe hn rfl rfl rfl ?_ | refine RunsD.pe rfl rfl ?_); first
      | refine ⟨_, pu_add rfl rfl (by omega), ?_⟩
      | refine ⟨_, pu_indexAddr_map rfl rfl (by omega) (by assumption), ?_⟩
      | refine ⟨_, pu_sub rfl rfl (by omega), ?_⟩
      | refine ⟨_, pu_pick_b rfl rfl rfl, ?_⟩
      | refine ⟨_, pu_mul rfl rfl (by omega), ?_⟩
      | refine ⟨_, pu_build rfl rfl rfl rfl rfl rfl, ?_⟩))
  refine Runs.reroll 30 rfl ?_
  repeat' (first
    | refine Runs.toDrawT (id := 5) 30 [] [0, 1, 2, 3, 4, 5, 6, 7] 8 [] mixed hn rfl (by kernel_rfl) rfl .nil (by decide) (by decide) (by decide) ?_
    | refine RunsT.nil ?_
    | refine RunsT.step tabOk rfl rfl (fun _ => rfl) (by decide) ?_
    | refine RunsT.pur (fun _ => pu_shr4 rfl rfl) (by decide) rfl rfl ?_
    | refine RunsT.pur (fun _ => pu_and15 rfl rfl) (by decide) rfl rfl ?_
    | refine RunsT.pur (fun _ => pu_indexS rfl rfl (by omega) h1) (by decide) rfl rfl ?_
    | refine RunsT.pur (fun _ => pu_indexS rfl rfl (by omega) h2) (by decide) rfl rfl ?_
    | refine RunsT.pur (fun _ => pu_indexS rfl rfl (by decide) h3) (by decide) rfl rfl ?_
    | refine RunsT.pur (fun _ => pu_indexS rfl rfl (by decide) h4) (by decide) rfl rfl ?_
    | refine RunsT.pur (fun _ => pu_build rfl rfl rfl rfl rfl rfl) (by decide) rfl rfl ?_
    | refine RunsT.pur (fun _ => pu_indexAddr_seq rfl rfl (by decide) rfl) (by decide) rfl rfl ?_
    | refine RunsT.pur (fun _ => pu_add rfl rfl (by omega)) (by decide) rfl rfl ?_
    | refine RunsT.pur (fun _ => pu_indexAddr_map rfl rfl (by omega) (by assumption)) (by decide) rfl rfl ?_
    | refine RunsT.alloc (p := 0) rfl inferInstance ?_
    | refine RunsT.alloc (p := 1) rfl inferInstance ?_
    | refine RunsL.step tabOk hn rfl ?_
    | refine RunsL.nil ?_
    | refine Runs.toRegion 30 rfl ?_
    | refine op_appendA rfl rfl rfl rfl rfl rfl ⟨trivial, trivial⟩ (Nat.le_of_ble_eq_true rfl) rfl (tl hn rfl) ?_
    | ((first | refine RunsL.pe hn rfl rfl rfl ?_ | refine RunsD.pe rfl rfl ?_); first
      | refine ⟨_, pu_shr4 rfl rfl, ?_⟩
      | refine ⟨_, pu_and15 rfl rfl, ?_⟩
      | refine ⟨_, pu_indexS rfl rfl (by omega) h1, ?_⟩
      | refine ⟨_, pu_indexS rfl rfl (by omega) h2, ?_⟩
      | refine ⟨_, pu_indexS rfl rfl (by decide) h3, ?_⟩
      | refine ⟨_, pu_indexS rfl rfl (by decide) h4, ?_⟩
      | refine ⟨_, pu_build rfl rfl rfl rfl rfl rfl, ?_⟩
      | refine ⟨_, pu_indexAddr_seq rfl rfl (by decide) rfl, ?_⟩)
    | (refine Runs.ctls 30 rfl ?_; first | refine Runs.cond_t rfl ?_ | refine Runs.cond_f rfl ?_ | ((first | refine Runs.cond_yes rfl ?_ ?_ | refine Runs.cond_nno rfl ?_ ?_); · first | omega | rfl | assumption | (simp only [List.length_map]; omega)) | ((first | refine Runs.cond_no rfl ?_ ?_ | refine Runs.cond_nyes rfl ?_ ?_); · first | omega | rfl | assumption | (simp only [List.length_map]; omega)) | refine Runs.cond_dec rfl (fun h => ?_) (fun h => ?_) | refine Runs.cond_ndec rfl (fun h => ?_) (fun h => ?_) | refine Runs.cond_nb rfl (fun h => ?_) (fun h => ?_) | refine Runs.cond_b rfl (fun h => ?_) (fun h => ?_) | refine Runs.ret (ends_ro hm rfl rfl ?_) | exact Runs.ret (ends_cellR hm rfl rfl rfl (Nat.le_of_ble_eq_true rfl) rfl rfl))
    | refine op_box rfl (tl hn rfl) ?_
    | refine op_storeF rfl rfl rfl rfl (Nat.le_of_ble_eq_true rfl) ?_
    | refine op_alloc (tl hn rfl) ?_
    | refine op_storeN rfl rfl rfl rfl (Nat.le_of_ble_eq_true rfl) ?_
    | refine RunsD.step tabOk hn rfl rfl ?_
    | refine RunsD.nil ?_
    | refine Runs.toDraw 30 mixed hn rfl (by kernel_rfl) rfl ?_
    | ((first | refine RunsL.pe hn rfl rfl rfl ?_ | refine RunsD.pe rfl rfl ?_); first
      | refine ⟨_, pu_add rfl rfl (by omega), ?_⟩
      | refine ⟨_, pu_indexAddr_map rfl rfl (by omega) (by assumption), ?_⟩
      | refine ⟨_, pu_sub rfl rfl (by omega), ?_⟩
      | refine ⟨_, pu_pick_b rfl rfl rfl, ?_⟩
      | refine ⟨_, pu_mul rfl rfl (by omega), ?_⟩
      | refine ⟨_, pu_build rfl rfl rfl rfl rfl rfl, ?_⟩))
  refine Runs.reroll 30 rfl ?_
  repeat' (first
    | refine RunsL.step tabOk hn rfl ?_
    | refine RunsL.nil ?_
    | refine Runs.toRegion 30 rfl ?_
    | (refine Runs.ctls 30 rfl ?_; first | refine Runs.cond_t rfl ?_ | refine Runs.cond_f rfl ?_ | ((first | refine Runs.cond_yes rfl ?_ ?_ | refine Runs.cond_nno rfl ?_ ?_); · first | omega | rfl | assumption | (simp only [List.length_map]; omega)) | ((first | refine Runs.cond_no rfl ?_ ?_ | refine Runs.cond_nyes rfl ?_ ?_); · first | omega | rfl | assumption | (simp only [List.length_map]; omega)) | refine Runs.cond_dec rfl (fun h => ?_) (fun h => ?_) | refine Runs.cond_ndec rfl (fun h => ?_) (fun h => ?_) | refine Runs.cond_nb rfl (fun h => ?_) (fun h => ?_) | refine Runs.cond_b rfl (fun h => ?_) (fun h => ?_) | refine Runs.ret (ends_ro hm rfl rfl ?_) | exact Runs.ret (ends_cellR hm rfl rfl rfl (Nat.le_of_ble_eq_true rfl) rfl rfl))
    | refine op_box rfl (tl hn rfl) ?_
    | refine op_storeF rfl rfl rfl rfl (Nat.le_of_ble_eq_true rfl) ?_
    | refine op_alloc (tl hn rfl) ?_
    | refine op_storeN rfl rfl rfl rfl (Nat.le_of_ble_eq_true rfl) ?_
    | refine RunsD.step tabOk hn rfl rfl ?_
    | refine RunsD.nil ?_
    | refine Runs.toDraw 30 mixed hn rfl (by kernel_rfl) rfl ?_
    | ((first | refine RunsL.pe hn rfl rfl rfl ?_ | refine RunsD.pe rfl rfl ?_); first
      | refine ⟨_, pu_add rfl rfl (by omega), ?_⟩
      | refine ⟨_, pu_indexAddr_map rfl rfl (by omega) (by assumption), ?_⟩
      | refine ⟨_, pu_sub rfl rfl (by omega), ?_⟩
      | refine ⟨_, pu_pick_b rfl rfl rfl, ?_⟩
      | refine ⟨_, pu_mul rfl rfl (by omega), ?_⟩
      | refine ⟨_, pu_build rfl rfl rfl rfl rfl rfl, ?_⟩))
  refine RunsL.pe hn rfl rfl rfl ?_
  refine ⟨_, pu_stringL (l := [hexd (b.toNat / 16), hexd (b.toNat % 16), 48, 55]) Tryd.underlying32 Tryd.underlying5 Tryd.underlying9 ?_, ?_⟩
  · exact Lends.own (o := ⟨5, 1, _⟩) (els := [[.u8 (hexd (b.toNat / 16))], [.u8 (hexd (b.toNat % 16))], [.u8 48], [.u8 55]]) rfl rfl (by simp)
  repeat' (first
    | refine RunsL.step tabOk hn rfl ?_
    | refine RunsL.nil ?_
    | refine Runs.toRegion 30 rfl ?_
    | (refine Runs.ctls 30 rfl ?_; first | refine Runs.cond_t rfl ?_ | refine Runs.cond_f rfl ?_ | ((first | refine Runs.cond_yes rfl ?_ ?_ | refine Runs.cond_nno rfl ?_ ?_); · first | omega | rfl | assumption | (simp only [List.length_map]; omega)) | ((first | refine Runs.cond_no rfl ?_ ?_ | refine Runs.cond_nyes rfl ?_ ?_); · first | omega | rfl | assumption | (simp only [List.length_map]; omega)) | refine Runs.cond_dec rfl (fun h => ?_) (fun h => ?_) | refine Runs.cond_ndec rfl (fun h => ?_) (fun h => ?_) | refine Runs.cond_nb rfl (fun h => ?_) (fun h => ?_) | refine Runs.cond_b rfl (fun h => ?_) (fun h => ?_) | refine Runs.ret (ends_ro hm rfl rfl ?_) | exact Runs.ret (ends_cellR hm rfl rfl rfl (Nat.le_of_ble_eq_true rfl) rfl rfl))
    | refine op_box rfl (tl hn rfl) ?_
    | refine op_storeF rfl rfl rfl rfl (Nat.le_of_ble_eq_true rfl) ?_
    | refine op_alloc (tl hn rfl) ?_
    | refine op_storeN rfl rfl rfl rfl (Nat.le_of_ble_eq_true rfl) ?_
    | refine RunsD.step tabOk hn rfl rfl ?_
    | refine RunsD.nil ?_
    | refine Runs.toDraw 30 mixed hn rfl (by kernel_rfl) rfl ?_
    | ((first | refine RunsL.pe hn rfl rfl rfl ?_ | refine RunsD.pe rfl rfl ?_); first
      | refine ⟨_, pu_add rfl rfl (by omega), ?_⟩
      | refine ⟨_, pu_indexAddr_map rfl rfl (by omega) (by assumption), ?_⟩
      | refine ⟨_, pu_sub rfl rfl (by omega), ?_⟩
      | refine ⟨_, pu_pick_b rfl rfl rfl, ?_⟩
      | refine ⟨_, pu_mul rfl rfl (by omega), ?_⟩
      | refine ⟨_, pu_build rfl rfl rfl rfl rfl rfl, ?_⟩))
  all_goals exact rr_ro rfl
theorem hexValue_ac (k : Nat) (hk : k < 16) : ACv Tryd.prog 32 [.u8 (hexd k)] (.int (k : Int)) := by
  rcases sixteen hk with rfl | rfl | rfl | rfl | rfl | rfl | rfl | rfl | rfl | rfl | rfl | rfl | rfl | rfl | rfl | rfl
  all_goals refine ac_enter Tryd.func32 rfl _ Tryd.ntmps32 (by simp) fun C hn hm => ?_
  repeat' (first
    | refine RunsL.step tabOk hn rfl ?_
    | refine RunsL.nil ?_
    | refine Runs.toRegion 30 rfl ?_
    | (refine RunsL.pe hn rfl rfl rfl ?_; first
      | refine ⟨_, pu_subW rfl rfl, ?_⟩
      | refine ⟨_, pu_convert inferInstance inferInstance rfl, ?_⟩
      | refine ⟨_, pu_add rfl rfl (by decide), ?_⟩)
    | (refine Runs.ctls 30 rfl ?_; first | refine Runs.cond_t rfl ?_ | refine Runs.cond_f rfl ?_ | ((first | refine Runs.cond_yes rfl ?_ ?_ | refine Runs.cond_nno rfl ?_ ?_); · first | omega | rfl | assumption | (simp only [List.length_map]; omega)) | ((first | refine Runs.cond_no rfl ?_ ?_ | refine Runs.cond_nyes rfl ?_ ?_); · first | omega | rfl | assumption | (simp only [List.length_map]; omega)) | refine Runs.cond_dec rfl (fun h => ?_) (fun h => ?_) | refine Runs.cond_ndec rfl (fun h => ?_) (fun h => ?_) | refine Runs.cond_nb rfl (fun h => ?_) (fun h => ?_) | refine Runs.cond_b rfl (fun h => ?_) (fun h => ?_) | refine Runs.ret (ends_ro hm rfl rfl ?_) | exact Runs.ret (ends_cellR hm rfl rfl rfl (Nat.le_of_ble_eq_true rfl) rfl rfl))
    | refine op_box rfl (tl hn rfl) ?_
    | refine op_storeF rfl rfl rfl rfl (Nat.le_of_ble_eq_true rfl) ?_
    | refine op_alloc (tl hn rfl) ?_
    | refine op_storeN rfl rfl rfl rfl (Nat.le_of_ble_eq_true rfl) ?_
    | (refine RunsL.pe hn rfl rfl rfl ?_; first
      | refine ⟨_, pu_add rfl rfl (by omega), ?_⟩
      | refine ⟨_, pu_indexAddr_map rfl rfl (by omega) (by assumption), ?_⟩
      | refine ⟨_, pu_sub rfl rfl (by omega), ?_⟩
      | refine ⟨_, pu_pick_b rfl rfl rfl, ?_⟩
      | refine ⟨_, pu_mul rfl rfl (by omega), ?_⟩
      | refine ⟨_, pu_build rfl rfl rfl rfl rfl rfl, ?_⟩)
    | ((first | refine RunsL.guard_dec rfl rfl rfl ?_ ?_ | refine RunsL.guard_ndec rfl rfl rfl ?_ ?_ | refine RunsL.guard_nb rfl rfl rfl ?_ ?_ | refine RunsL.guard_b rfl rfl rfl ?_ ?_) <;> intro h <;> try (exfalso; first | omega | contradiction | (simp only [List.length_map] at h; omega))))
  all_goals exact rr_int rfl
set_option maxHeartbeats 16000000 in
theorem readHex_ac (s : ByteArray) (p q p' q' : Nat) (hp : p < 16) (hq : q < 16) (hp' : p' < 16) (hq' : q' < 16) (hsz : s.size = 5) (g0 : s[0]? = some (hexd p)) (g1 : s[1]? = some (hexd q)) (g2 : s[2]? = some (hexd p')) (g3 : s[3]? = some (hexd q')) :
    AC Tryd.prog 18 [.str s, .int 0] fun rr => rr = .tup [.row 5 1 [.u8 (u8i ((p : Int) * 16 + q)), .u8 (u8i ((p' : Int) * 16 + q'))], .ro (.int 4)] := by
  have v0 := hexValue_ac p hp
  have v1 := hexValue_ac q hq
  have v2 := hexValue_ac p' hp'
  have v3 := hexValue_ac q' hq'
  refine ac_enter Tryd.func18 rfl _ Tryd.ntmps18 (by simp) fun C hn hm => ?_
  repeat' (first
    | refine RunsL.step tabOk hn rfl ?_
    | refine RunsL.nil ?_
    | refine Runs.toRegion 30 rfl ?_
    | refine op_build0 (tl hn rfl) ?_
    | (refine Runs.ctls 30 rfl ?_; first | refine Runs.cond_t rfl ?_ | refine Runs.cond_f rfl ?_ | ((first | refine Runs.cond_yes rfl ?_ ?_ | refine Runs.cond_nno rfl ?_ ?_); · first | omega | rfl | assumption | (simp only [List.length_map]; omega)) | ((first | refine Runs.cond_no rfl ?_ ?_ | refine Runs.cond_nyes rfl ?_ ?_); · first | omega | rfl | assumption | (simp only [List.length_map]; omega)) | refine Runs.cond_dec rfl (fun h => ?_) (fun h => ?_) | refine Runs.cond_ndec rfl (fun h => ?_) (fun h => ?_) | refine Runs.cond_nb rfl (fun h => ?_) (fun h => ?_) | refine Runs.cond_b rfl (fun h => ?_) (fun h => ?_) | refine Runs.ret (ends_ro hm rfl rfl ?_) | exact Runs.ret (ends_cellR hm rfl rfl rfl (Nat.le_of_ble_eq_true rfl) rfl rfl))
    | refine op_box rfl (tl hn rfl) ?_
    | refine op_storeF rfl rfl rfl rfl (Nat.le_of_ble_eq_true rfl) ?_
    | refine op_alloc (tl hn rfl) ?_
    | refine op_storeN rfl rfl rfl rfl (Nat.le_of_ble_eq_true rfl) ?_
    | refine RunsD.step tabOk hn rfl rfl ?_
    | refine RunsD.nil ?_
    | refine Runs.toDraw 30 mixed hn rfl (by kernel_rfl) rfl ?_
    | ((first | refine RunsL.pe hn rfl rfl rfl ?_ | refine RunsD.pe rfl rfl ?_); first
      | refine ⟨_, pu_add rfl rfl (by omega), ?_⟩
      | refine ⟨_, pu_indexAddr_map rfl rfl (by omega) (by assumption), ?_⟩
      | refine ⟨_, pu_sub rfl rfl (by omega), ?_⟩
      | refine ⟨_, pu_pick_b rfl rfl rfl, ?_⟩
      | refine ⟨_, pu_mul rfl rfl (by omega), ?_⟩
      | refine ⟨_, pu_build rfl rfl rfl rfl rfl rfl, ?_⟩)
    | ((first | refine RunsL.guard_dec rfl rfl rfl ?_ ?_ | refine RunsL.guard_ndec rfl rfl rfl ?_ ?_ | refine RunsL.guard_nb rfl rfl rfl ?_ ?_ | refine RunsL.guard_b rfl rfl rfl ?_ ?_ | refine RunsD.guard_dec rfl rfl rfl ?_ ?_ | refine RunsD.guard_ndec rfl rfl rfl ?_ ?_ | refine RunsD.guard_nb rfl rfl rfl ?_ ?_ | refine RunsD.guard_b rfl rfl rfl ?_ ?_) <;> intro h <;> try (exfalso; first | omega | contradiction | (simp only [List.length_map] at h; omega))))
  refine Runs.unroll 30 rfl ?_
  repeat' (first
    | refine Runs.toDrawT (id := 5) 30 [] [0, 1, 2, 3, 4, 5, 6, 7, 8, 9, 10, 11, 12, 13] 14 [] mixed hn rfl (by kernel_rfl) rfl .nil (by decide) (by decide) (by decide) ?_
    | refine RunsT.nil ?_
    | refine RunsT.step tabOk rfl rfl (fun _ => rfl) (by decide) ?_
    | refine RunsT.pur (fun _ => pu_indexS rfl rfl (by decide) g0) (by decide) rfl rfl ?_
    | refine RunsT.pur (fun _ => pu_indexS rfl rfl (by decide) g1) (by decide) rfl rfl ?_
    | refine RunsT.pur (fun _ => pu_indexS rfl rfl (by decide) g2) (by decide) rfl rfl ?_
    | refine RunsT.pur (fun _ => pu_indexS rfl rfl (by decide) g3) (by decide) rfl rfl ?_
    | refine RunsT.pur (fun _ => pu_callR v0 rfl) (by decide) rfl rfl ?_
    | refine RunsT.pur (fun _ => pu_callR v1 rfl) (by decide) rfl rfl ?_
    | refine RunsT.pur (fun _ => pu_callR v2 rfl) (by decide) rfl rfl ?_
    | refine RunsT.pur (fun _ => pu_callR v3 rfl) (by decide) rfl rfl ?_
    | refine RunsT.pur (fun _ => pu_shl4 rfl rfl (by omega)) (by decide) rfl rfl ?_
    | refine RunsT.pur (fun _ => pu_orNib rfl rfl (by omega) (by omega)) (by decide) rfl rfl ?_
    | refine RunsT.pur (fun _ => pu_toU8 rfl) (by decide) rfl rfl ?_
    | refine RunsT.pur (fun _ => pu_build rfl rfl rfl rfl rfl rfl) (by decide) rfl rfl ?_
    | refine RunsT.pur (fun _ => pu_add rfl rfl (by omega)) (by decide) rfl rfl ?_
    | refine RunsT.pur (fun _ => pu_indexAddr_map rfl rfl (by omega) (by assumption)) (by decide) rfl rfl ?_
    | refine RunsT.alloc (p := 0) rfl inferInstance ?_
    | refine RunsT.alloc (p := 1) rfl inferInstance ?_
    | refine RunsL.step tabOk hn rfl ?_
    | refine RunsL.nil ?_
    | refine Runs.toRegion 30 rfl ?_
    | refine op_appendA rfl rfl rfl rfl rfl rfl ⟨trivial, trivial⟩ (Nat.le_of_ble_eq_true rfl) rfl (tl hn rfl) ?_
    | refine op_build0 (tl hn rfl) ?_
    | ((first | refine RunsL.pe hn rfl rfl rfl ?_ | refine RunsD.pe rfl rfl ?_); first
      | refine ⟨_, pu_indexS rfl rfl (by decide) g0, ?_⟩
      | refine ⟨_, pu_indexS rfl rfl (by decide) g1, ?_⟩
      | refine ⟨_, pu_indexS rfl rfl (by decide) g2, ?_⟩
      | refine ⟨_, pu_indexS rfl rfl (by decide) g3, ?_⟩
      | refine ⟨_, pu_callR v0 rfl, ?_⟩
      | refine ⟨_, pu_callR v1 rfl, ?_⟩
      | refine ⟨_, pu_callR v2 rfl, ?_⟩
      | refine ⟨_, pu_callR v3 rfl, ?_⟩
      | refine ⟨_, pu_shl4 rfl rfl (by omega), ?_⟩
      | refine ⟨_, pu_orNib rfl rfl (by omega) (by omega), ?_⟩
      | refine ⟨_, pu_toU8 rfl, ?_⟩
      | refine ⟨_, pu_build rfl rfl rfl rfl rfl rfl, ?_⟩)
    | (refine Runs.ctls 30 rfl ?_; first | refine Runs.cond_t rfl ?_ | refine Runs.cond_f rfl ?_ | ((first | refine Runs.cond_yes rfl ?_ ?_ | refine Runs.cond_nno rfl ?_ ?_); · first | omega | rfl | assumption | (simp only [List.length_map]; omega)) | ((first | refine Runs.cond_no rfl ?_ ?_ | refine Runs.cond_nyes rfl ?_ ?_); · first | omega | rfl | assumption | (simp only [List.length_map]; omega)) | refine Runs.cond_dec rfl (fun h => ?_) (fun h => ?_) | refine Runs.cond_ndec rfl (fun h => ?_) (fun h => ?_) | refine Runs.cond_nb rfl (fun h => ?_) (fun h => ?_) | refine Runs.cond_b rfl (fun h => ?_) (fun h => ?_) | refine Runs.ret (ends_ro hm rfl rfl ?_) | exact Runs.ret (ends_cellR hm rfl rfl rfl (Nat.le_of_ble_eq_true rfl) rfl rfl))
    | refine op_box rfl (tl hn rfl) ?_
    | refine op_storeF rfl rfl rfl rfl (Nat.le_of_ble_eq_true rfl) ?_
    | refine op_alloc (tl hn rfl) ?_
    | refine op_storeN rfl rfl rfl rfl (Nat.le_of_ble_eq_true rfl) ?_
    | refine RunsD.step tabOk hn rfl rfl ?_
    | refine RunsD.nil ?_
    | refine Runs.toDraw 30 mixed hn rfl (by kernel_rfl) rfl ?_
    | ((first | refine RunsL.pe hn rfl rfl rfl ?_ | refine RunsD.pe rfl rfl ?_); first
      | refine ⟨_, pu_add rfl rfl (by omega), ?_⟩
      | refine ⟨_, pu_indexAddr_map rfl rfl (by omega) (by assumption), ?_⟩
      | refine ⟨_, pu_sub rfl rfl (by omega), ?_⟩
      | refine ⟨_, pu_pick_b rfl rfl rfl, ?_⟩
      | refine ⟨_, pu_mul rfl rfl (by omega), ?_⟩
      | refine ⟨_, pu_build rfl rfl rfl rfl rfl rfl, ?_⟩)
    | ((first | refine RunsL.guard_dec rfl rfl rfl ?_ ?_ | refine RunsL.guard_ndec rfl rfl rfl ?_ ?_ | refine RunsL.guard_nb rfl rfl rfl ?_ ?_ | refine RunsL.guard_b rfl rfl rfl ?_ ?_ | refine RunsD.guard_dec rfl rfl rfl ?_ ?_ | refine RunsD.guard_ndec rfl rfl rfl ?_ ?_ | refine RunsD.guard_nb rfl rfl rfl ?_ ?_ | refine RunsD.guard_b rfl rfl rfl ?_ ?_) <;> intro h <;> try (exfalso; first | omega | contradiction | (simp only [List.length_map] at h; omega))))
  refine Runs.reroll 30 rfl ?_
  repeat' (first
    | refine Runs.toDrawT (id := 5) 30 [] [0, 1, 2, 3, 4, 5, 6, 7, 8, 9, 10, 11, 12, 13] 14 [] mixed hn rfl (by kernel_rfl) rfl .nil (by decide) (by decide) (by decide) ?_
    | refine RunsT.nil ?_
    | refine RunsT.step tabOk rfl rfl (fun _ => rfl) (by decide) ?_
    | refine RunsT.pur (fun _ => pu_indexS rfl rfl (by decide) g0) (by decide) rfl rfl ?_
    | refine RunsT.pur (fun _ => pu_indexS rfl rfl (by decide) g1) (by decide) rfl rfl ?_
    | refine RunsT.pur (fun _ => pu_indexS rfl rfl (by decide) g2) (by decide) rfl rfl ?_
    | refine RunsT.pur (fun _ => pu_indexS rfl rfl (by decide) g3) (by decide) rfl rfl ?_
    | refine RunsT.pur (fun _ => pu_callR v0 rfl) (by decide) rfl rfl ?_
    | refine RunsT.pur (fun _ => pu_callR v1 rfl) (by decide) rfl rfl ?_
    | refine RunsT.pur (fun _ => pu_callR v2 rfl) (by decide) rfl rfl ?_
    | refine RunsT.pur (fun _ => pu_callR v3 rfl) (by decide) rfl rfl ?_
    | refine RunsT.pur (fun _ => pu_shl4 rfl rfl (by omega)) (by decide) rfl rfl ?_
    | refine RunsT.pur (fun _ => pu_orNib rfl rfl (by omega) (by omega)) (by decide) rfl rfl ?_
    | refine RunsT.pur (fun _ => pu_toU8 rfl) (by decide) rfl rfl ?_
    | refine RunsT.pur (fun _ => pu_build rfl rfl rfl rfl rfl rfl) (by decide) rfl rfl ?_
    | refine RunsT.pur (fun _ => pu_add rfl rfl (by omega)) (by decide) rfl rfl ?_
    | refine RunsT.pur (fun _ => pu_indexAddr_map rfl rfl (by omega) (by assumption)) (by decide) rfl rfl ?_
    | refine RunsT.alloc (p := 0) rfl inferInstance ?_
    | refine RunsT.alloc (p := 1) rfl inferInstance ?_
    | refine RunsL.step tabOk hn rfl ?_
    | refine RunsL.nil ?_
    | refine Runs.toRegion 30 rfl ?_
    | refine op_appendA rfl rfl rfl rfl rfl rfl ⟨trivial, trivial⟩ (Nat.le_of_ble_eq_true rfl) rfl (tl hn rfl) ?_
    | refine op_build0 (tl hn rfl) ?_
    | ((first | refine RunsL.pe hn rfl rfl rfl ?_ | refine RunsD.pe rfl rfl ?_); first
      | refine ⟨_, pu_indexS rfl rfl (by decide) g0, ?_⟩
      | refine ⟨_, pu_indexS rfl rfl (by decide) g1, ?_⟩
      | refine ⟨_, pu_indexS rfl rfl (by decide) g2, ?_⟩
      | refine ⟨_, pu_indexS rfl rfl (by decide) g3, ?_⟩
      | refine ⟨_, pu_callR v0 rfl, ?_⟩
      | refine ⟨_, pu_callR v1 rfl, ?_⟩
      | refine ⟨_, pu_callR v2 rfl, ?_⟩
      | refine ⟨_, pu_callR v3 rfl, ?_⟩
      | refine ⟨_, pu_shl4 rfl rfl (by omega), ?_⟩
      | refine ⟨_, pu_orNib rfl rfl (by omega) (by omega), ?_⟩
      | refine ⟨_, pu_toU8 rfl, ?_⟩
      | refine ⟨_, pu_build rfl rfl rfl rfl rfl rfl, ?_⟩)
    | (refine Runs.ctls 30 rfl ?_; first | refine Runs.cond_t rfl ?_ | refine Runs.cond_f rfl ?_ | ((first | refine Runs.cond_yes rfl ?_ ?_ | refine Runs.cond_nno rfl ?_ ?_); · first | omega | rfl | assumption | (simp only [List.length_map]; omega)) | ((first | refine Runs.cond_no rfl ?_ ?_ | refine Runs.cond_nyes rfl ?_ ?_); · first | omega | rfl | assumption | (simp only [List.length_map]; omega)) | refine Runs.cond_dec rfl (fun h => ?_) (fun h => ?_) | refine Runs.cond_ndec rfl (fun h => ?_) (fun h => ?_) | refine Runs.cond_nb rfl (fun h => ?_) (fun h => ?_) | refine Runs.cond_b rfl (fun h => ?_) (fun h => ?_) | refine Runs.ret (ends_ro hm rfl rfl ?_) | exact Runs.ret (ends_cellR hm rfl rfl rfl (Nat.le_of_ble_eq_true rfl) rfl rfl))
    | refine op_box rfl (tl hn rfl) ?_
    | refine op_storeF rfl rfl rfl rfl (Nat.le_of_ble_eq_true rfl) ?_
    | refine op_alloc (tl hn rfl) ?_
    | refine op_storeN rfl rfl rfl rfl (Nat.le_of_ble_eq_true rfl) ?_
    | refine RunsD.step tabOk hn rfl rfl ?_
    | refine RunsD.nil ?_
    | refine Runs.toDraw 30 mixed hn rfl (by kernel_rfl) rfl ?_
    | ((first | refine RunsL.pe hn rfl rfl rfl ?_ | refine RunsD.pe rfl rfl ?_); first
      | refine ⟨_, pu_add rfl rfl (by omega), ?_⟩
      | refine ⟨_, pu_indexAddr_map rfl rfl (by omega) (by assumption), ?_⟩
      | refine ⟨_, pu_sub rfl rfl (by omega), ?_⟩
      | refine ⟨_, pu_pick_b rfl rfl rfl, ?_⟩
      | refine ⟨_, pu_mul rfl rfl (by omega), ?_⟩
      | refine ⟨_, pu_build rfl rfl rfl rfl rfl rfl, ?_⟩)
    | ((first | refine RunsL.guard_dec rfl rfl rfl ?_ ?_ | refine RunsL.guard_ndec rfl rfl rfl ?_ ?_ | refine RunsL.guard_nb rfl rfl rfl ?_ ?_ | refine RunsL.guard_b rfl rfl rfl ?_ ?_ | refine RunsD.guard_dec rfl rfl rfl ?_ ?_ | refine RunsD.guard_ndec rfl rfl rfl ?_ ?_ | refine RunsD.guard_nb rfl rfl rfl ?_ ?_ | refine RunsD.guard_b rfl rfl rfl ?_ ?_) <;> intro h <;> try (exfalso; first | omega | contradiction | (simp only [List.length_map] at h; omega))))
  refine Runs.reroll 30 rfl ?_
  repeat' (first
    | refine RunsL.step tabOk hn rfl ?_
    | refine RunsL.nil ?_
    | refine Runs.toRegion 30 rfl ?_
    | refine Runs.toDrawT (id := 5) 30 [] [0, 1, 2, 3, 4, 5, 6, 7, 8, 9, 10, 11, 12, 13] 14 [] mixed hn rfl (by kernel_rfl) rfl .nil (by decide) (by decide) (by decide) ?_
    | refine op_appendA rfl rfl rfl rfl rfl rfl ⟨trivial, trivial⟩ (Nat.le_of_ble_eq_true rfl) rfl (tl hn rfl) ?_
    | refine op_build0 (tl hn rfl) ?_
    | ((first | refine RunsL.pe hn rfl rfl rfl ?_ | refine RunsD.pe rfl rfl ?_); first
      | refine ⟨_, pu_indexS rfl rfl (by decide) g0, ?_⟩
      | refine ⟨_, pu_indexS rfl rfl (by decide) g1, ?_⟩
      | refine ⟨_, pu_indexS rfl rfl (by decide) g2, ?_⟩
      | refine ⟨_, pu_indexS rfl rfl (by decide) g3, ?_⟩
      | refine ⟨_, pu_callR v0 rfl, ?_⟩
      | refine ⟨_, pu_callR v1 rfl, ?_⟩
      | refine ⟨_, pu_callR v2 rfl, ?_⟩
      | refine ⟨_, pu_callR v3 rfl, ?_⟩
      | refine ⟨_, pu_shl4 rfl rfl (by omega), ?_⟩
      | refine ⟨_, pu_orNib rfl rfl (by omega) (by omega), ?_⟩
      | refine ⟨_, pu_toU8 rfl, ?_⟩
      | refine ⟨_, pu_build rfl rfl rfl rfl rfl rfl, ?_⟩)
    | (refine Runs.ctls 30 rfl ?_; first | refine Runs.cond_t rfl ?_ | refine Runs.cond_f rfl ?_ | ((first | refine Runs.cond_yes rfl ?_ ?_ | refine Runs.cond_nno rfl ?_ ?_); · first | omega | rfl | assumption | (simp only [List.length_map]; omega)) | ((first | refine Runs.cond_no rfl ?_ ?_ | refine Runs.cond_nyes rfl ?_ ?_); · first | omega | rfl | assumption | (simp only [List.length_map]; omega)) | refine Runs.cond_dec rfl (fun h => ?_) (fun h => ?_) | refine Runs.cond_ndec rfl (fun h => ?_) (fun h => ?_) | refine Runs.cond_nb rfl (fun h => ?_) (fun h => ?_) | refine Runs.cond_b rfl (fun h => ?_) (fun h => ?_) | refine Runs.ret (ends_ro hm rfl rfl ?_) | exact Runs.ret (ends_cellR hm rfl rfl rfl (Nat.le_of_ble_eq_true rfl) rfl rfl))
    | refine op_box rfl (tl hn rfl) ?_
    | refine op_storeF rfl rfl rfl rfl (Nat.le_of_ble_eq_true rfl) ?_
    | refine op_alloc (tl hn rfl) ?_
    | refine op_storeN rfl rfl rfl rfl (Nat.le_of_ble_eq_true rfl) ?_
    | refine RunsD.step tabOk hn rfl rfl ?_
    | refine RunsD.nil ?_
    | refine Runs.toDraw 30 mixed hn rfl (by kernel_rfl) rfl ?_
    | ((first | refine RunsL.pe hn rfl rfl rfl ?_ | refine RunsD.pe rfl rfl ?_); first
      | refine ⟨_, pu_add rfl rfl (by omega), ?_⟩
      | refine ⟨_, pu_indexAddr_map rfl rfl (by omega) (by assumption), ?_⟩
      | refine ⟨_, pu_sub rfl rfl (by omega), ?_⟩
      | refine ⟨_, pu_pick_b rfl rfl rfl, ?_⟩
      | refine ⟨_, pu_mul rfl rfl (by omega), ?_⟩
      | refine ⟨_, pu_build rfl rfl rfl rfl rfl rfl, ?_⟩)
    | ((first | refine RunsL.guard_dec rfl rfl rfl ?_ ?_ | refine RunsL.guard_ndec rfl rfl rfl ?_ ?_ | refine RunsL.guard_nb rfl rfl rfl ?_ ?_ | refine RunsL.guard_b rfl rfl rfl ?_ ?_ | refine RunsD.guard_dec rfl rfl rfl ?_ ?_ | refine RunsD.guard_ndec rfl rfl rfl ?_ ?_ | refine RunsD.guard_nb rfl rfl rfl ?_ ?_ | refine RunsD.guard_b rfl rfl rfl ?_ ?_) <;> intro h <;> try (exfalso; first | omega | contradiction | (simp only [List.length_map] at h; omega))))
  all_goals exact Runs.ctls 30 rfl (Runs.ret (endsN hm (xs := [.tmp 4, .tmp 5]) rfl (by simp) [.own 0, .ro (.int 4)] ⟨_, _, rfl, rfl, _, _, rfl, rfl, rfl⟩ [.row 5 1 [.u8 (u8i ((p : Int) * 16 + q)), .u8 (u8i ((p' : Int) * 16 + q'))], .ro (.int 4)] [0] ⟨_, _, [0], [], rfl, rfl, ⟨0, rfl, rfl, rfl⟩, _, _, [], [], rfl, rfl, ⟨rfl, rfl⟩, rfl, rfl⟩ (by simp) rfl))
theorem big_ac (b : List UInt8) : ACv Tryd.prog 14 [bytesR b] (.bool (decide ((1048576 : Int) < b.length))) := by
  have hlb : (b.map fun z => [RV.u8 z]).length = b.length := List.length_map ..
  refine ac_enter Tryd.func14 rfl _ Tryd.ntmps14 (by simp) fun C hn hm => ?_
  repeat' (first
    | (refine RunsL.pe hn rfl rfl rfl ?_; first
      | refine ⟨_, pu_len_seqN b.length rfl hlb, ?_⟩)
    | refine RunsL.step tabOk hn rfl ?_
    | refine RunsL.nil ?_
    | refine Runs.toRegion 30 rfl ?_
    | (refine Runs.ctls 30 rfl ?_; first | refine Runs.cond_t rfl ?_ | refine Runs.cond_f rfl ?_ | ((first | refine Runs.cond_yes rfl ?_ ?_ | refine Runs.cond_nno rfl ?_ ?_); · first | omega | rfl | assumption | (simp only [List.length_map]; omega)) | ((first | refine Runs.cond_no rfl ?_ ?_ | refine Runs.cond_nyes rfl ?_ ?_); · first | omega | rfl | assumption | (simp only [List.length_map]; omega)) | refine Runs.cond_dec rfl (fun h => ?_) (fun h => ?_) | refine Runs.cond_ndec rfl (fun h => ?_) (fun h => ?_) | refine Runs.cond_nb rfl (fun h => ?_) (fun h => ?_) | refine Runs.cond_b rfl (fun h => ?_) (fun h => ?_) | refine Runs.ret (ends_ro hm rfl rfl ?_) | exact Runs.ret (ends_cellR hm rfl rfl rfl (Nat.le_of_ble_eq_true rfl) rfl rfl))
    | refine op_box rfl (tl hn rfl) ?_
    | refine op_storeF rfl rfl rfl rfl (Nat.le_of_ble_eq_true rfl) ?_
    | refine op_alloc (tl hn rfl) ?_
    | refine op_storeN rfl rfl rfl rfl (Nat.le_of_ble_eq_true rfl) ?_
    | (refine RunsL.pe hn rfl rfl rfl ?_; first
      | refine ⟨_, pu_add rfl rfl (by omega), ?_⟩
      | refine ⟨_, pu_indexAddr_map rfl rfl (by omega) (by assumption), ?_⟩
      | refine ⟨_, pu_sub rfl rfl (by omega), ?_⟩
      | refine ⟨_, pu_pick_b rfl rfl rfl, ?_⟩
      | refine ⟨_, pu_mul rfl rfl (by omega), ?_⟩
      | refine ⟨_, pu_build rfl rfl rfl rfl rfl rfl, ?_⟩))
  all_goals exact rr_bool rfl
def atB (b : List UInt8) (i : Nat) : Nat := if i < b.length then (b.getD i 0).toNat else (i * 31 + b.length * 7) % 256
theorem at_ac (b : List UInt8) (hb : b.length ≤ 1048576) (i : Nat) (hi : i ≤ 1000) : ACv Tryd.prog 20 [bytesR b, .int (i : Int)] (.int ((atB b i : Nat) : Int)) := by
  have hlb : (b.map fun z => [RV.u8 z]).length = b.length := List.length_map ..
  unfold atB
  refine ac_enter Tryd.func20 rfl _ Tryd.ntmps20 (by simp) fun C hn hm => ?_
  by_cases h : i < b.length
  · obtain ⟨c, hc⟩ : ∃ c, b[(i : Int).toNat]? = some c := ⟨_, List.getElem?_eq_getElem (by simpa using h)⟩
    have hc' : b[i]? = some c := hc
    rw [if_pos h, List.getD_eq_getElem?_getD, hc']
    repeat' (first
      | (refine RunsL.pe hn rfl rfl rfl ?_; first
        | refine ⟨_, pu_len_seqN b.length rfl hlb, ?_⟩)
      | refine RunsL.step tabOk hn rfl ?_
      | refine RunsL.nil ?_
      | refine Runs.toRegion 30 rfl ?_
      | (refine RunsL.pe hn rfl rfl rfl ?_; first
        | refine ⟨_, pu_ofU8 rfl, ?_⟩)
      | (refine Runs.ctls 30 rfl ?_; first | refine Runs.cond_t rfl ?_ | refine Runs.cond_f rfl ?_ | ((first | refine Runs.cond_yes rfl ?_ ?_ | refine Runs.cond_nno rfl ?_ ?_); · first | omega | rfl | assumption | (simp only [List.length_map]; omega)) | ((first | refine Runs.cond_no rfl ?_ ?_ | refine Runs.cond_nyes rfl ?_ ?_); · first | omega | rfl | assumption | (simp only [List.length_map]; omega)) | refine Runs.cond_dec rfl (fun h => ?_) (fun h => ?_) | refine Runs.cond_ndec rfl (fun h => ?_) (fun h => ?_) | refine Runs.cond_nb rfl (fun h => ?_) (fun h => ?_) | refine Runs.cond_b rfl (fun h => ?_) (fun h => ?_) | refine Runs.ret (ends_ro hm rfl rfl ?_) | exact Runs.ret (ends_cellR hm rfl rfl rfl (Nat.le_of_ble_eq_true rfl) rfl rfl))
      | refine op_box rfl (tl hn rfl) ?_
      | refine op_storeF rfl rfl rfl rfl (Nat.le_of_ble_eq_true rfl) ?_
      | refine op_alloc (tl hn rfl) ?_
      | refine op_storeN rfl rfl rfl rfl (Nat.le_of_ble_eq_true rfl) ?_
      | (refine RunsL.pe hn rfl rfl rfl ?_; first
        | refine ⟨_, pu_add rfl rfl (by omega), ?_⟩
        | refine ⟨_, pu_indexAddr_map rfl rfl (by omega) (by assumption), ?_⟩
        | refine ⟨_, pu_sub rfl rfl (by omega), ?_⟩
        | refine ⟨_, pu_pick_b rfl rfl rfl, ?_⟩
        | refine ⟨_, pu_mul rfl rfl (by omega), ?_⟩
        | refine ⟨_, pu_build rfl rfl rfl rfl rfl rfl, ?_⟩))
    all_goals exact rr_int rfl
  · rw [if_neg h]
    repeat' (first
      | (refine RunsL.pe hn rfl rfl rfl ?_; first
        | refine ⟨_, pu_len_seqN b.length rfl hlb, ?_⟩)
      | refine RunsL.step tabOk hn rfl ?_
      | refine RunsL.nil ?_
      | refine Runs.toRegion 30 rfl ?_
      | (refine RunsL.pe hn rfl rfl rfl ?_; first
        | refine ⟨_, pu_rem rfl rfl (by omega), ?_⟩)
      | (refine Runs.ctls 30 rfl ?_; first | refine Runs.cond_t rfl ?_ | refine Runs.cond_f rfl ?_ | ((first | refine Runs.cond_yes rfl ?_ ?_ | refine Runs.cond_nno rfl ?_ ?_); · first | omega | rfl | assumption | (simp only [List.length_map]; omega)) | ((first | refine Runs.cond_no rfl ?_ ?_ | refine Runs.cond_nyes rfl ?_ ?_); · first | omega | rfl | assumption | (simp only [List.length_map]; omega)) | refine Runs.cond_dec rfl (fun h => ?_) (fun h => ?_) | refine Runs.cond_ndec rfl (fun h => ?_) (fun h => ?_) | refine Runs.cond_nb rfl (fun h => ?_) (fun h => ?_) | refine Runs.cond_b rfl (fun h => ?_) (fun h => ?_) | refine Runs.ret (ends_ro hm rfl rfl ?_) | exact Runs.ret (ends_cellR hm rfl rfl rfl (Nat.le_of_ble_eq_true rfl) rfl rfl))
      | refine op_box rfl (tl hn rfl) ?_
      | refine op_storeF rfl rfl rfl rfl (Nat.le_of_ble_eq_true rfl) ?_
      | refine op_alloc (tl hn rfl) ?_
      | refine op_storeN rfl rfl rfl rfl (Nat.le_of_ble_eq_true rfl) ?_
      | (refine RunsL.pe hn rfl rfl rfl ?_; first
        | refine ⟨_, pu_add rfl rfl (by omega), ?_⟩
        | refine ⟨_, pu_indexAddr_map rfl rfl (by omega) (by assumption), ?_⟩
        | refine ⟨_, pu_sub rfl rfl (by omega), ?_⟩
        | refine ⟨_, pu_pick_b rfl rfl rfl, ?_⟩
        | refine ⟨_, pu_mul rfl rfl (by omega), ?_⟩
        | refine ⟨_, pu_build rfl rfl rfl rfl rfl rfl, ?_⟩))
    all_goals exact rr_int (by omega)
theorem sameBytes_ac (a : List UInt8) (hl : a.length ≤ 4194304) : ACv Tryd.prog 21 [bytesR a, bytesR a] (.bool true) := by
  have hla : (a.map fun z => [RV.u8 z]).length = a.length := List.length_map ..
  refine ac_enter Tryd.func21 rfl _ Tryd.ntmps21 (by simp) fun C hn hm => ?_
  repeat' (first
    | refine RunsL.step tabOk hn rfl ?_
    | refine RunsL.nil ?_
    | refine Runs.toRegion 30 rfl ?_
    | (refine Runs.ctls 30 rfl ?_; first | refine Runs.cond_t rfl ?_ | refine Runs.cond_f rfl ?_ | ((first | refine Runs.cond_yes rfl ?_ ?_ | refine Runs.cond_nno rfl ?_ ?_); · first | omega | rfl | assumption | (simp only [List.length_map]; omega)) | ((first | refine Runs.cond_no rfl ?_ ?_ | refine Runs.cond_nyes rfl ?_ ?_); · first | omega | rfl | assumption | (simp only [List.length_map]; omega)) | refine Runs.cond_dec rfl (fun h => ?_) (fun h => ?_) | refine Runs.cond_ndec rfl (fun h => ?_) (fun h => ?_) | refine Runs.cond_nb rfl (fun h => ?_) (fun h => ?_) | refine Runs.cond_b rfl (fun h => ?_) (fun h => ?_) | refine Runs.ret (ends_ro hm rfl rfl ?_) | exact Runs.ret (ends_cellR hm rfl rfl rfl (Nat.le_of_ble_eq_true rfl) rfl rfl))
    | refine op_box rfl (tl hn rfl) ?_
    | refine op_storeF rfl rfl rfl rfl (Nat.le_of_ble_eq_true rfl) ?_
    | refine op_alloc (tl hn rfl) ?_
    | refine op_storeN rfl rfl rfl rfl (Nat.le_of_ble_eq_true rfl) ?_
    | refine RunsD.step tabOk hn rfl rfl ?_
    | refine RunsD.nil ?_
    | refine Runs.toDraw 30 mixed hn rfl (by kernel_rfl) rfl ?_
    | ((first | refine RunsL.pe hn rfl rfl rfl ?_ | refine RunsD.pe rfl rfl ?_); first
      | refine ⟨_, pu_add rfl rfl (by omega), ?_⟩
      | refine ⟨_, pu_indexAddr_map rfl rfl (by omega) (by assumption), ?_⟩
      | refine ⟨_, pu_sub rfl rfl (by omega), ?_⟩
      | refine ⟨_, pu_pick_b rfl rfl rfl, ?_⟩
      | refine ⟨_, pu_mul rfl rfl (by omega), ?_⟩
      | refine ⟨_, pu_build rfl rfl rfl rfl rfl rfl, ?_⟩))
  refine Runs.loopN 30 rfl (fun j => [(0, .ro (bytesR a)), (1, .ro (bytesR a)), (5, .int (j : Int))]) (fun _ => []) (fun _ => True) a.length 0 (Nat.zero_le _) trivial ⟨rfl, rfl, rfl, trivial⟩ rfl fun j hj _ next => ?_
  by_cases hlt : j < a.length
  · obtain ⟨x, hx⟩ : ∃ x, a[(j : Int).toNat]? = some x := ⟨_, List.getElem?_eq_getElem hlt⟩
    repeat' (first
      | refine RunsL.step tabOk hn rfl ?_
      | refine RunsL.nil ?_
      | refine Runs.toRegion 30 rfl ?_
      | (refine Runs.ctls 30 rfl ?_; first | refine Runs.cond_t rfl ?_ | refine Runs.cond_f rfl ?_ | ((first | refine Runs.cond_yes rfl ?_ ?_ | refine Runs.cond_nno rfl ?_ ?_); · first | omega | rfl | assumption | (simp only [List.length_map]; omega)) | ((first | refine Runs.cond_no rfl ?_ ?_ | refine Runs.cond_nyes rfl ?_ ?_); · first | omega | rfl | assumption | (simp only [List.length_map]; omega)) | refine Runs.cond_dec rfl (fun h => ?_) (fun h => ?_) | refine Runs.cond_ndec rfl (fun h => ?_) (fun h => ?_) | refine Runs.cond_nb rfl (fun h => ?_) (fun h => ?_) | refine Runs.cond_b rfl (fun h => ?_) (fun h => ?_) | refine Runs.ret (ends_ro hm rfl rfl ?_) | exact Runs.ret (ends_cellR hm rfl rfl rfl (Nat.le_of_ble_eq_true rfl) rfl rfl))
      | refine op_box rfl (tl hn rfl) ?_
      | refine op_storeF rfl rfl rfl rfl (Nat.le_of_ble_eq_true rfl) ?_
      | refine op_alloc (tl hn rfl) ?_
      | refine op_storeN rfl rfl rfl rfl (Nat.le_of_ble_eq_true rfl) ?_
      | refine RunsD.step tabOk hn rfl rfl ?_
      | refine RunsD.nil ?_
      | refine Runs.toDraw 30 mixed hn rfl (by kernel_rfl) rfl ?_
      | ((first | refine RunsL.pe hn rfl rfl rfl ?_ | refine RunsD.pe rfl rfl ?_); first
        | refine ⟨_, pu_add rfl rfl (by omega), ?_⟩
        | refine ⟨_, pu_indexAddr_map rfl rfl (by omega) (by assumption), ?_⟩
        | refine ⟨_, pu_sub rfl rfl (by omega), ?_⟩
        | refine ⟨_, pu_pick_b rfl rfl rfl, ?_⟩
        | refine ⟨_, pu_mul rfl rfl (by omega), ?_⟩
        | refine ⟨_, pu_build rfl rfl rfl rfl rfl rfl, ?_⟩))
    exact next _ _ ⟨rfl, rfl, rfl, trivial⟩ hlt trivial rfl
  · repeat' (first
    | refine RunsL.step tabOk hn rfl ?_
    | refine RunsL.nil ?_
    | refine Runs.toRegion 30 rfl ?_
    | (refine Runs.ctls 30 rfl ?_; first | refine Runs.cond_t rfl ?_ | refine Runs.cond_f rfl ?_ | ((first | refine Runs.cond_yes rfl ?_ ?_ | refine Runs.cond_nno rfl ?_ ?_); · first | omega | rfl | assumption | (simp only [List.length_map]; omega)) | ((first | refine Runs.cond_no rfl ?_ ?_ | refine Runs.cond_nyes rfl ?_ ?_); · first | omega | rfl | assumption | (simp only [List.length_map]; omega)) | refine Runs.cond_dec rfl (fun h => ?_) (fun h => ?_) | refine Runs.cond_ndec rfl (fun h => ?_) (fun h => ?_) | refine Runs.cond_nb rfl (fun h => ?_) (fun h => ?_) | refine Runs.cond_b rfl (fun h => ?_) (fun h => ?_) | refine Runs.ret (ends_ro hm rfl rfl ?_) | exact Runs.ret (ends_cellR hm rfl rfl rfl (Nat.le_of_ble_eq_true rfl) rfl rfl))
    | refine op_box rfl (tl hn rfl) ?_
    | refine op_storeF rfl rfl rfl rfl (Nat.le_of_ble_eq_true rfl) ?_
    | refine op_alloc (tl hn rfl) ?_
    | refine op_storeN rfl rfl rfl rfl (Nat.le_of_ble_eq_true rfl) ?_
    | refine RunsD.step tabOk hn rfl rfl ?_
    | refine RunsD.nil ?_
    | refine Runs.toDraw 30 mixed hn rfl (by kernel_rfl) rfl ?_
    | ((first | refine RunsL.pe hn rfl rfl rfl ?_ | refine RunsD.pe rfl rfl ?_); first
      | refine ⟨_, pu_add rfl rfl (by omega), ?_⟩
      | refine ⟨_, pu_indexAddr_map rfl rfl (by omega) (by assumption), ?_⟩
      | refine ⟨_, pu_sub rfl rfl (by omega), ?_⟩
      | refine ⟨_, pu_pick_b rfl rfl rfl, ?_⟩
      | refine ⟨_, pu_mul rfl rfl (by omega), ?_⟩
      | refine ⟨_, pu_build rfl rfl rfl rfl rfl rfl, ?_⟩))
    exact rr_bool rfl
end Go.Proofs.YtnbjncafoahclaaDoor
