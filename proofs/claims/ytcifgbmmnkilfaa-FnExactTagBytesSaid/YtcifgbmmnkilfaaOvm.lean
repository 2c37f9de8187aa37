/- Values with memory of their own: how a function that makes one is entered and left; plain values behind a row; steps on memory that is known by its block. Over any program. -/
import Derived.Test.YtcifgbmmnkilfaaOvn
namespace Go.Proofs.Ytcifgbmmnkilfaa
set_option linter.unusedSimpArgs false
set_option linter.unusedVariables false
open Go.RowKit
open AV (Mem Keeps)
/-- A later context of one function. -/
structure Sc (C0 C : Ctx) : Prop where
  below : Below C0.w0.heap.size C0.w0 C.w0
  mu : ∀ b, C.mu b → C0.w0.heap.size ≤ b
theorem Sc.start {C : Ctx} (hm : ∀ b, ¬ C.mu b) : Sc C C := ⟨Below.refl _ _, fun b h => absurd h (hm b)⟩
theorem Sc.next {C0 C C' : Ctx} {bs : List Nat} (h : Sc C0 C) (k : Nx C C' bs) (hb : ∀ b ∈ bs, C0.w0.heap.size ≤ b) : Sc C0 C' := by
  refine ⟨⟨k.os.trans h.below.os, k.tape.trans h.below.tape, k.output.trans h.below.output, Nat.le_trans h.below.size k.size, fun b hlt => ?_⟩, fun b hm => ?_⟩
  · refine (k.block b (Nat.lt_of_lt_of_le hlt h.below.size) (fun hm => ?_) fun hm => ?_).trans (h.below.block b hlt)
    · have := h.mu b hm; omega
    · have := hb b hm; omega
  · rcases k.mu b hm with h1 | h1
    · exact h.mu b h1
    · exact Nat.le_trans h.below.size h1
theorem Sc.end_ {C0 C : Ctx} {m : Mem} (h : Sc C0 C) (hG : Good C m) : Below C0.w0.heap.size C0.w0 m.w :=
  ⟨hG.frm.os.trans h.below.os, hG.frm.tape.trans h.below.tape, hG.frm.output.trans h.below.output, Nat.le_trans h.below.size hG.frm.size, fun b hlt => (hG.frm.block b (Nat.lt_of_lt_of_le hlt h.below.size) (fun hm => by have := h.mu b hm; omega)).trans (h.below.block b hlt)⟩
def EndsO (P : Program) (C0 : Ctx) (fn : Func) (ov : OV) (a : Act) (w : World) : Prop :=
  a.defers = [] ∧ ∃ v, (results fn a.tmps).run P w = .ok v w ∧ ∃ bs, OV.rel w ov v bs ∧ bs.Nodup ∧ (∀ b ∈ bs, C0.w0.heap.size ≤ b ∧ b < w.heap.size) ∧ Below C0.w0.heap.size C0.w0 w
theorem aco_enter {P : Program} {f : FuncId} {fn : Func} {c : Code} {args : List RV} {ov : OV} (hf : P.funcs[f]? = some fn) (hb : fn.body = some c) (n : Nat) (hn : fn.ntmps = n) (hl : args.length ≤ n)
    (h : ∀ C : Ctx, C.n = n → (∀ b, ¬ C.mu b) → Runs P C [.code c] (EndsO P C fn ov) ⟨startEnv 0 args, []⟩) : ACo P f args ov := by
  intro w us hu
  have hlen := RV.rels_len args _ hu
  refine calls_of_fin hf hb ?_
  have hs : Sim ⟨w, fun _ => True, fun _ => False, n⟩ ⟨startEnv 0 args, []⟩ { tmps := us ++ Array.replicate (fn.ntmps - us.size) undef, defers := [] } w := by
    refine ⟨rfl, by simp at hlen ⊢; omega, fun _ => none, ⟨rfl, fun i j g hi => by simp at hi, fun i o hi => by simp at hi, fun i g hi => by simp at hi, ⟨rfl, rfl, rfl, Nat.le_refl _, fun _ _ _ => rfl, fun _ _ => trivial⟩⟩, fun t => ?_⟩
    rw [start_look]
    simp only [Nat.zero_le, if_true, Nat.sub_zero]
    cases hr : args[t]? with
    | none => simp [AV.rel]
    | some r =>
      obtain ⟨u, e1, e2⟩ := RV.rels_at args _ hu t r hr
      have ht : t < us.size := by have := (List.getElem?_eq_some_iff.1 e1).1; simpa using this
      simp only [AV.rel]
      have : (us ++ Array.replicate (fn.ntmps - us.size) undef).getD t undef = u := by
        rw [Array.getD_eq_getD_getElem?, Array.getElem?_append_left ht]
        have : us[t]? = some u := by simpa using e1
        simp [this]
      rw [this]
      exact RV.rel_mono ⟨Nat.le_refl _, fun b _ hb => ⟨⟨hb, fun i hi => by simp at hi⟩, rfl⟩⟩ r u e2
  have hr := (h ⟨w, fun _ => True, fun _ => False, n⟩ rfl (fun _ h => h)).run _ w hs
  intro b cs
  obtain ⟨a', w', todo, ⟨hd, v, hv, bs, h1, h2, h3, h4⟩, hst⟩ := hr b cs
  exact ⟨a', w', todo, ⟨hd, v, hv, v, bs, rfl, h1, h2, h3, h4⟩, hst⟩
theorem rels_ac {m : Mem} : ∀ (vs us : List Value), AV.rels m (vs.map fun v => .ro (.c v)) us → us = vs
  | [], us, h => by simpa [AV.rels] using h
  | v :: vs, us, h => by
    simp only [List.map_cons, AV.rels, AV.rel, RV.rel] at h
    obtain ⟨u, us', rfl, rfl, h2⟩ := h
    rw [rels_ac vs us' h2]
section
variable {P : Program} {C C0 : Ctx} {S : St} {fn : Func}
/-- It ends with a struct whose cells are plain values of the frame. -/
theorem endsO_cell {p ty n i : Nat} {o : Ob} {us : List Value} {ovs : List OV} {bs : List Nat} [ht : TN P ty n] (hsc : Sc C0 C) (hr : fn.results = #[.cell p ty]) (h1 : look S.env p = .obj i 0) (h2 : S.σ[i]? = some o) (h3 : o.cs = us.map fun u => .ro (.c u)) (hl : us.length = n)
    (hov : OV.rels C.w0 ovs us bs) (hfix : ∀ b ∈ bs, b < C.w0.heap.size ∧ ¬ C.mu b) (hnd : bs.Nodup) (hnew : ∀ b ∈ bs, C0.w0.heap.size ≤ b) : ∀ a w, Sim C S a w → EndsO P C0 fn (.agg ovs) a w := by
  rintro a w ⟨s1, s2, φ, hG, hH⟩
  have hcs : o.cs.length = n := by rw [h3, List.length_map, hl]
  obtain ⟨u, k1, k2⟩ := resV_run (P := P) (x := .cell p ty) (v := .agg ((o.cs.drop 0).take n)) hG hH (by simp only [ResV]; exact ⟨i, 0, o, h1, h2, .inr ⟨n, ht, by omega, rfl⟩⟩)
  rw [List.drop_zero, List.take_of_length_le (by omega), h3] at k2
  simp only [AV.rel] at k2
  obtain ⟨vs, rfl, hvs⟩ := k2
  have e := rels_ac us _ hvs
  refine ⟨s1, .agg vs, by rw [results_eq, hr]; simp [k1], bs, ?_, hnd, fun b hb => ⟨hnew b hb, Nat.lt_of_lt_of_le (hfix b hb).1 hG.frm.size⟩, hsc.end_ hG⟩
  simp only [OV.rel]
  exact ⟨vs, rfl, by rw [e]; exact OV.rels_keep ovs us bs hov fun b hb => hG.frm.block b (hfix b hb).1 (hfix b hb).2⟩
/-- It ends with a row of the frame's own, whose cells are plain values of the frame. -/
theorem endsO_row {t i sz : Nat} {e : TypeId} {us : List Value} {ovs : List OV} {bs : List Nat} (hsc : Sc C0 C) (hr : fn.results = #[.tmp t]) (h1 : look S.env t = .own i) (h2 : S.σ[i]? = some ⟨e, sz, us.map fun u => .ro (.c u)⟩)
    (hov : OV.rels C.w0 ovs us bs) (hfix : ∀ b ∈ bs, b < C.w0.heap.size ∧ ¬ C.mu b) (hnd : bs.Nodup) (hnew : ∀ b ∈ bs, C0.w0.heap.size ≤ b) : ∀ a w, Sim C S a w → EndsO P C0 fn (.row e sz ovs) a w := by
  rintro a w ⟨s1, s2, φ, hG, hH⟩
  have hu := hH t
  rw [h1] at hu
  have h2' : (⟨w, φ, S.σ, C.ok⟩ : Mem).σ[i]? = some ⟨e, sz, (us.map RV.c).map .ro⟩ := by rw [List.map_map]; exact h2
  obtain ⟨n, xs, k1, k2, k3, k4, k5, k6⟩ := row_own (cs := us.map .c) hG h2' hu
  have e1 := agg_flat (m := ⟨w, φ, S.σ, C.ok⟩) us xs k3
  subst e1
  have hkeep := OV.rels_keep (w' := w) ovs xs bs hov fun b hb => hG.frm.block b (hfix b hb).1 (hfix b hb).2
  have hil : i < S.σ.length := (List.getElem?_eq_some_iff.1 h2).1
  refine ⟨s1, a.tmps.getD t undef, by rw [results_eq, hr]; simp [resRun], (a.tmps.getD t undef).ownBlock.toList ++ bs, ?_, ?_, fun b hb => ?_, hsc.end_ hG⟩
  · simp only [OV.rel]
    exact ⟨n, xs, bs, by rw [← OV.rels_len ovs xs bs hov]; simpa using k1, k2, hkeep, k4, k5, rfl⟩
  · rw [k6, List.nodup_append]
    refine ⟨(show ∀ o : Option Nat, o.toList.Nodup from fun o => by cases o <;> simp) _, hnd, fun x hx y hy => ?_⟩
    rintro rfl
    have hx' : φ i = some x := by simpa [Option.mem_toList] using hx
    rcases hG.mine i x hil hx' with h | h
    · exact (hfix x hy).2 h
    · have := (hfix x hy).1; omega
  · rcases List.mem_append.1 hb with hb | hb
    · rw [k6] at hb
      have hb' : φ i = some b := by simpa [Option.mem_toList] using hb
      refine ⟨?_, hG.lt hil hb'⟩
      rcases hG.mine i b hil hb' with h | h
      · exact hsc.mu b h
      · exact Nat.le_trans hsc.below.size h
    · exact ⟨hnew b hb, Nat.lt_of_lt_of_le (hfix b hb).1 hG.frm.size⟩
end
/-! ### Results of plain cells. -/
mutual
def RO : RR → OV → Prop
  | .ro r, o => ∃ v, r = .c v ∧ o = .c v
  | .row e sz cs, o => ∃ vs : List Value, cs = vs.map .c ∧ o = .row e sz (vs.map .c)
  | .agg rs, o => ∃ os, o = .agg os ∧ ROs rs os
  | .tup rs, o => ∃ os, o = .tup os ∧ ROs rs os
def ROs : List RR → List OV → Prop
  | [], os => os = []
  | x :: xs, os => ∃ o os', os = o :: os' ∧ RO x o ∧ ROs xs os'
end
mutual
theorem ro_rel {w : World} {ok : Nat → Prop} : ∀ (rr : RR) (o : OV) (u : Value) (bs : List Nat), RO rr o → rr.rel w ok u bs → OV.rel w o u bs
  | .ro r, o, u, bs, h, hr => by
    simp only [RO] at h
    obtain ⟨v, rfl, rfl⟩ := h
    simp only [RR.rel, RV.rel] at hr
    simp only [OV.rel]
    exact hr
  | .row e sz cs, o, u, bs, h, hr => by
    simp only [RO] at h
    obtain ⟨vs, rfl, rfl⟩ := h
    simp only [RR.rel] at hr
    obtain ⟨n, xs, k1, k2, k3, k4, k5, rfl⟩ := hr
    have e2 := agg_flat (m := ⟨w, fun _ => none, [], ok⟩) vs xs (RV.rels_mono ⟨Nat.le_refl _, fun b _ hb => ⟨⟨hb, fun i hi => by simp at hi⟩, rfl⟩⟩ _ _ k3)
    subst e2
    simp only [OV.rel]
    exact ⟨n, xs, [], by simpa using k1, k2, OV.rels_c xs, k4, k5, by simp⟩
  | .agg rs, o, u, bs, h, hr => by
    simp only [RO] at h
    obtain ⟨os, rfl, h⟩ := h
    simp only [RR.rel] at hr
    obtain ⟨us, rfl, hr⟩ := hr
    simp only [OV.rel]
    exact ⟨us, rfl, ros_rel rs os _ bs h hr⟩
  | .tup rs, o, u, bs, h, hr => by
    simp only [RO] at h
    obtain ⟨os, rfl, h⟩ := h
    simp only [RR.rel] at hr
    obtain ⟨us, rfl, hr⟩ := hr
    simp only [OV.rel]
    exact ⟨us, rfl, ros_rel rs os _ bs h hr⟩
theorem ros_rel {w : World} {ok : Nat → Prop} : ∀ (rs : List RR) (os : List OV) (us : List Value) (bs : List Nat), ROs rs os → RR.rels w ok rs us bs → OV.rels w os us bs
  | [], os, us, bs, h, hr => by
    simp only [ROs] at h; subst h
    simpa [RR.rels, OV.rels] using hr
  | x :: xs, os, us, bs, h, hr => by
    simp only [ROs] at h
    obtain ⟨o, os', rfl, h1, h2⟩ := h
    simp only [RR.rels] at hr
    obtain ⟨u, us', b, bs', rfl, rfl, k1, k2⟩ := hr
    simp only [OV.rels]
    exact ⟨u, us', b, bs', rfl, rfl, ro_rel x o u b h1 k1, ros_rel xs os' us' bs' h2 k2⟩
end
theorem aco_of {P : Program} {f : FuncId} {args : List RV} {rr : RR} {ov : OV} (h : AC P f args fun r => r = rr) (hr : RO rr ov) : ACo P f args ov := by
  intro w us hu
  refine (h w (fun _ => True) us (fun _ _ => trivial) hu).mono ?_
  rintro e w' ⟨u, _, bs, rfl, rfl, h1, h2, h3, h4⟩
  exact ⟨u, bs, rfl, ro_rel _ _ _ _ hr h1, h2, h3, h4⟩
section
variable {P : Program} {C : Ctx} {env : Env} {σ : List Ob} {t : Nat} {ty : TypeId} {pos : String} {after : Array Edge} {gd : Option (Nat × Bool)}
/-- A part of several results, as a plain value of the frame. -/
theorem pu_extractC {x : Operand} {j : Nat} {vs : Array Value} {v : Value} (hx : ev env x = .ro (.c (.tuple vs))) (hj : vs[j]? = some v) : Pur P C ⟨some t, .extract x j, ty, pos, after, gd⟩ env σ (.ro (constRV v)) :=
  Pur.of (fun a m hG hσ hH => ⟨v, by simp [execOp, ev_c (hH x (by simp [Op.operands, Call.operands])) hx, Instr.extract, hj], by simp only [AV.rel]; exact rel_constRV v⟩)
end
theorem row_slice {w : World} {e : TypeId} {sz : Nat} {cs : List OV} {u : Value} {bs : List Nat} (h : OV.rel w (.row e sz cs) u bs) : ∃ A n c, u = .slice A n c := by
  simp only [OV.rel] at h
  obtain ⟨n, xs, bs', _, _, _, _, h5, _⟩ := h
  rcases h5.2 with ⟨rfl, _⟩ | ⟨g, cap, cur, rfl, _⟩
  · exact ⟨_, _, _, rfl⟩
  · exact ⟨_, _, _, rfl⟩
end Go.Proofs.Ytcifgbmmnkilfaa
