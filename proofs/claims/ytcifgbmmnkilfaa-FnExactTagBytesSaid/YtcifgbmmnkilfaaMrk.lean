/- Marks: functions that write into a value that they are handed. Steps on memory that is known by its block. Over any program. -/
import Derived.Test.YtcifgbmmnkilfaaOvm
namespace Go.Proofs.Ytcifgbmmnkilfaa
set_option linter.unusedSimpArgs false
set_option linter.unusedVariables false
open Go.RowKit
open AV (Mem Keeps)
/-- A block whose cells are known; nothing else of the frame speaks of it. -/
structure Bk (C : Ctx) (g : Nat) (us : Array Value) (e : TypeId) : Prop where
  cells : C.w0.heap[g]? = some (.cells us e (0, 0))
  mu : ¬ C.mu g
  ok : ¬ C.ok g
theorem Bk.lt {C : Ctx} {g : Nat} {us : Array Value} {e : TypeId} (h : Bk C g us e) : g < C.w0.heap.size := (Array.getElem?_eq_some_iff.1 h.cells).1
theorem Bk.now {C : Ctx} {m : Mem} {g : Nat} {us : Array Value} {e : TypeId} (h : Bk C g us e) (hG : Good C m) : m.w.heap[g]? = some (.cells us e (0, 0)) := (hG.frm.block g h.lt h.mu).trans h.cells
theorem Bk.next {C C' : Ctx} {g : Nat} {us : Array Value} {e : TypeId} {ds : List Nat} (h : Bk C g us e) (k : Nx C C' ds) (hd : g ∉ ds) : Bk C' g us e :=
  ⟨(k.block g h.lt h.mu hd).trans h.cells, fun hm => (k.mu g hm).elim h.mu fun h1 => by have := h.lt; omega, fun ho => h.ok (k.ok g ho)⟩
section
variable {P : Program} {C : Ctx} {ops : Array Oper} {rest : List Oper} {k : List Item} {R : Act → World → Prop} {env : Env} {σ : List Ob} {t : Nat} {ty : TypeId} {pos : String} {after : Array Edge} {gd : Option (Nat × Bool)}
theorem pu_lenC {tt : TypeId} {e : TypeId} {z : Value} {sz bytes : Nat} {x : Operand} {A : Option Addr} {n cap : Nat} [hs : SL P tt e z sz bytes] (hx : ev env x = .ro (.c (.slice A n cap))) :
    Pur P C ⟨some t, .call { callee := .builtin .len, args := #[x], argTypes := #[tt] }, ty, pos, after, gd⟩ env σ (.int (n : Int)) :=
  Pur.of (fun a m hG hσ hH => ⟨.int .i64 n, by simp [execOp, resolve, invoke, builtin, ev_c (hH _ (by simp [Op.operands, Call.operands])) hx, Builtin.len_, run_underlying hs.el.ht, goInt], by simp [AV.rel, RV.rel]⟩)
theorem pu_indexC {tt : TypeId} {e : TypeId} {z : Value} {sz bytes : Nat} {x ix : Operand} {kd : IntKind} {p : Int} {g n cap : Nat} [hs : SL P tt e z sz bytes]
    (hx : ev env x = .ro (.c (.slice (some ⟨g, 0, none⟩) n cap))) (hi : ev env ix = .ro (.c (.int kd p))) (h0 : 0 ≤ p) (hlt : p < n) : Pur P C ⟨some t, .indexAddr tt x ix, ty, pos, after, gd⟩ env σ (.ro (.c (.pointer (some ⟨g, p.toNat * sz, none⟩)))) :=
  Pur.of (fun a m hG hσ hH => by
    obtain ⟨ii, i1, i2, i3, i4⟩ := hs.el.hi
    refine ⟨.pointer (some ⟨g, 0 + p.toNat * sz, none⟩), ?_, by simp [AV.rel, RV.rel]⟩
    have : (0 ≤ p ∧ p < (n : Int)) := by omega
    simp [execOp, ev_c (hH _ (by simp [Op.operands, Call.operands])) hx, ev_c (hH _ (by simp [Op.operands, Call.operands])) hi, Instr.indexAt, asIntOf, run_underlying hs.el.ht, this, sizeOf, typeInfo, i1, i3, Addr.add_lit])
theorem pu_fieldC {s : TypeId} {x : Operand} {f off g o : Nat} [FA P s f off] (hx : ev env x = .ro (.c (.pointer (some ⟨g, o, none⟩)))) : Pur P C ⟨some t, .fieldAddr s x f, ty, pos, after, gd⟩ env σ (.ro (.c (.pointer (some ⟨g, o + off, none⟩)))) :=
  Pur.of (fun a m hG hσ hH => ⟨.pointer (some ⟨g, o + off, none⟩), by simp [execOp, ev_c (hH _ (by simp [Op.operands, Call.operands])) hx, run_fieldAt], by simp [AV.rel, RV.rel]⟩)
theorem pu_loadC {tt e : TypeId} {x : Operand} {g o : Nat} {us : Array Value} {v : Value} [T1 P tt] (hx : ev env x = .ro (.c (.pointer (some ⟨g, o, none⟩)))) (hb : Bk C g us e) (hv : us[o]? = some v) : Pur P C ⟨some t, .load tt x, ty, pos, after, gd⟩ env σ (.ro (.c v)) :=
  Pur.of (fun a m hG hσ hH => by
    have hc : m.w.cell? ⟨g, o, none⟩ = some v := by rw [cell_of_row _ g o us _ _ (hb.now hG)]; exact hv
    exact ⟨v, by simp [execOp, ev_c (hH _ (by simp [Op.operands, Call.operands])) hx, Instr.loadAt, Instr.sureAddr, loadVar, run_isAgg1, run_load, hc], by simp [AV.rel, RV.rel]⟩)
/-- The context from a world on, of which the blocks bs are known and nothing else speaks. -/
theorem new_ctx {w w' : World} {φ : Nat → Option Nat} {bs : List Nat} (hG : Good C ⟨w, φ, σ, C.ok⟩) (hb : ∀ b ∈ bs, b < w.heap.size ∧ ¬ C.ok b ∧ ∀ i, i < σ.length → φ i ≠ some b)
    (h1 : w'.os = w.os) (h2 : w'.tape = w.tape) (h3 : w'.output = w.output) (h4 : w.heap.size ≤ w'.heap.size) (h5 : ∀ b, b < w.heap.size → b ∉ bs → w'.heap[b]? = w.heap[b]?) :
    Nx C ⟨w', C.ok, mine φ σ.length, C.n⟩ bs ∧ Good ⟨w', C.ok, mine φ σ.length, C.n⟩ ⟨w', φ, σ, C.ok⟩ ∧ Keeps (fun _ => True) ⟨w, φ, σ, C.ok⟩ ⟨w', φ, σ, C.ok⟩ := by
  have hlt : ∀ (i g : Nat), i < σ.length → φ i = some g → g < w.heap.size := fun i g hi hg => hG.lt hi hg
  have hsame : ∀ i g, i < σ.length → φ i = some g → w'.heap[g]? = w.heap[g]? := fun i g hi hg => h5 g (hlt i g hi hg) fun hm => (hb g hm).2.2 i hi hg
  have hK : Keeps (fun _ => True) ⟨w, φ, σ, C.ok⟩ ⟨w', φ, σ, C.ok⟩ :=
    ⟨⟨h4, fun b hlt ho => ⟨ho, h5 b hlt fun hm => (hb b hm).2.1 ho.1⟩⟩, fun i _ hi => ⟨hi, rfl⟩, fun i ob _ hi => ⟨ob.cs, hi, rfl⟩, fun i g us t _ hi hg hh => ⟨us, (hsame i g hi hg).trans hh, rfl⟩⟩
  refine ⟨⟨rfl, h1.trans hG.frm.os, h2.trans hG.frm.tape, h3.trans hG.frm.output, Nat.le_trans hG.frm.size h4, fun b hb1 hm hn => (h5 b (Nat.lt_of_lt_of_le hb1 hG.frm.size) hn).trans (hG.frm.block b hb1 hm), fun b ⟨i, hi, hg⟩ => hG.mine i b hi hg, fun b hb => hb⟩, ?_, hK⟩
  exact ⟨rfl, hG.inj, fun i o hi => (hG.ob i o hi).keeps hK fun g hg => hsame i g (List.getElem?_eq_some_iff.1 hi).1 hg, fun i g hi hg => .inl ⟨i, hi, hg⟩, ⟨rfl, rfl, rfl, Nat.le_refl _, fun _ _ _ => rfl, fun b hb => hG.frm.new b (Nat.le_trans hG.frm.size (Nat.le_trans h4 hb))⟩⟩
/-- A store into such a block: the context is a new one from there on. -/
theorem op_storeC {tt e : TypeId} {x y : Operand} {g o : Nat} {us : Array Value} {v : Value} [T1 P tt] (hx : ev env x = .ro (.c (.pointer (some ⟨g, o, none⟩)))) (hy : ev env y = .ro (.c v)) (h1 : v.oneCell' = true) (hb : Bk C g us e) (hlt : o < us.size)
    (hk : ∀ C', Nx C C' [g] → Bk C' g (us.setIfInBounds o v) e → RunsL P C' ops rest k R ⟨env, σ⟩) : RunsL P C ops (⟨none, .store tt x y, ty, pos, after, none⟩ :: rest) k R ⟨env, σ⟩ := by
  refine ⟨fun a w ⟨s1, s2, φ, hG, hH⟩ => ?_⟩
  refine wpList_plain rfl fun K hK' => ?_
  have ex : a.eval x = .pointer (some ⟨g, o, none⟩) := ev_c (m := ⟨w, φ, σ, C.ok⟩) (ev_rel hH x) hx
  have ey : a.eval y = v := ev_c (m := ⟨w, φ, σ, C.ok⟩) (ev_rel hH y) hy
  have hh := hb.now hG
  have hc : w.cell? ⟨g, o, none⟩ = some us[o] := by rw [cell_of_row _ g o us _ _ hh]; exact Array.getElem?_eq_getElem hlt
  have hf : w.frozen? ⟨g, o, none⟩ = false := frozen_of_row w g o us e hh
  have hcell : v.cells = #[v] := by cases v <;> simp_all [Value.cells, Value.oneCell']
  have hr : (execOp a.eval (⟨none, .store tt x y, ty, pos, after, none⟩ : Oper)).run P w = .ok .skip (w.setCell ⟨g, o, none⟩ v) := by
    simp [execOp, ex, ey, Instr.storeAt, Instr.sureAddr, storeVar, hcell, run_size1 (P := P) (t := tt), storeCells, Addr.add_lit, run_store P w ⟨g, o, none⟩ v .plain h1, hc, hf]
  unfold Oper.wp
  rw [hr]
  simp only [Oper.upon]
  have hmine : ∀ i, i < σ.length → φ i ≠ some g := fun i hi hg => by
    rcases hG.mine i g hi hg with h | h
    · exact hb.mu h
    · have := hb.lt; omega
  obtain ⟨nx, hG', hKp⟩ := new_ctx (w' := w.setCell ⟨g, o, none⟩ v) (bs := [g]) hG (fun b hm => by
    rw [List.mem_singleton] at hm; subst hm
    exact ⟨Nat.lt_of_lt_of_le hb.lt hG.frm.size, hb.ok, hmine⟩) rfl rfl rfl (by simp) (fun b _ hn => Below.heap_setCell w ⟨g, o, none⟩ v b (by simpa using hn))
  refine hK' _ _ ((hk _ nx ⟨heap_setCell_same w g o us e v hh, fun ⟨i, hi, hg⟩ => hmine i hi hg, hb.ok⟩).run _ _ ⟨s1, s2, φ, hG', hH.keeps hKp⟩)
end
/-! ### Contracts. -/
/-- But for the blocks bs what was there stays. -/
structure Up (w w' : World) (bs : List Nat) : Prop where
  os : w'.os = w.os
  tape : w'.tape = w.tape
  output : w'.output = w.output
  size : w.heap.size ≤ w'.heap.size
  block : ∀ b, b < w.heap.size → b ∉ bs → w'.heap[b]? = w.heap[b]?
/-- The function writes into such a value and returns k'; the value is then that one. -/
def MK (P : Program) (f : FuncId) (ov : OV) (k k' : Int) (ov' : OV) : Prop :=
  ∀ (w : World) (u : Value) (bs : List Nat), OV.rel w ov u bs → bs.Nodup → (∀ b ∈ bs, b < w.heap.size) →
    Calls P f #[u, .int .i64 k] w fun e w' => e = .returned (.int .i64 k') ∧ OV.rel w' ov' u bs ∧ Up w w' bs
/-- The function writes into such a value and returns k'. -/
def MX (P : Program) (f : FuncId) (ov : OV) (k k' : Int) : Prop :=
  ∀ (w : World) (u : Value) (bs : List Nat), OV.rel w ov u bs → bs.Nodup → (∀ b ∈ bs, b < w.heap.size) →
    Calls P f #[u, .int .i64 k] w fun e w' => e = .returned (.int .i64 k') ∧ Up w w' bs
theorem MK.mx {P : Program} {f : FuncId} {ov ov' : OV} {k k' : Int} (h : MK P f ov k k' ov') : MX P f ov k k' := fun w u bs h1 h2 h3 => (h w u bs h1 h2 h3).mono fun _ _ h => ⟨h.1, h.2.2⟩
theorem Nx.sub {C C' : Ctx} {bs ds : List Nat} (h : Nx C C' bs) (hs : ∀ b ∈ bs, b ∈ ds) : Nx C C' ds :=
  ⟨h.n, h.os, h.tape, h.output, h.size, fun b h1 h2 h3 => h.block b h1 h2 fun hm => h3 (hs b hm), h.mu, h.ok⟩
theorem Nx.refl (C : Ctx) (bs : List Nat) : Nx C C bs := ⟨rfl, rfl, rfl, rfl, Nat.le_refl _, fun _ _ _ _ => rfl, fun _ h => .inl h, fun _ h => h⟩
theorem Nx.up {C C' : Ctx} {bs : List Nat} (h : Nx C C' bs) (hm : ∀ b, ¬ C.mu b) {m : Mem} (hG : Good C' m) : Up C.w0 m.w bs :=
  ⟨hG.frm.os.trans h.os, hG.frm.tape.trans h.tape, hG.frm.output.trans h.output, Nat.le_trans h.size hG.frm.size, fun b hb hn => (hG.frm.block b (Nat.lt_of_lt_of_le hb h.size) fun hmu => (h.mu b hmu).elim (hm b) fun h1 => by omega).trans (h.block b hb (hm b) hn)⟩
theorem const_eq {w : World} {ok : Nat → Prop} {u x : Value} (h : RV.rel w ok (constRV u) x) : x = u := by
  cases u <;> simp only [constRV, RV.rel] at h <;> try exact h
  obtain ⟨us, rfl, hr⟩ := h
  have := agg_flat (m := ⟨w, fun _ => none, [], ok⟩) _ _ (by
    refine RV.rels_mono ⟨Nat.le_refl _, fun b _ hb => ⟨⟨hb, fun i hi => by simp at hi⟩, rfl⟩⟩ _ _ hr)
  rw [← Array.toArray_toList (xs := us), this]
def EndsM (P : Program) (C0 : Ctx) (fn : Func) (k' : Int) (u : Value) (bs : List Nat) (X : World → Prop) (a : Act) (w : World) : Prop :=
  a.defers = [] ∧ (results fn a.tmps).run P w = .ok (.int .i64 k') w ∧ X w ∧ Up C0.w0 w bs
theorem mark_enter {P : Program} {f : FuncId} {fn : Func} {c : Code} {k k' : Int} {u : Value} {bs : List Nat} {w : World} {X : World → Prop} (hf : P.funcs[f]? = some fn) (hb : fn.body = some c) (n : Nat) (hn : fn.ntmps = n) (hl : 2 ≤ n) (hlt : ∀ b ∈ bs, b < w.heap.size)
    (h : Runs P ⟨w, fun b => b ∉ bs, fun _ => False, n⟩ [.code c] (EndsM P ⟨w, fun b => b ∉ bs, fun _ => False, n⟩ fn k' u bs X) ⟨startEnv 0 [constRV u, .int k], []⟩) :
    Calls P f #[u, .int .i64 k] w fun e w' => e = .returned (.int .i64 k') ∧ X w' ∧ Up w w' bs := by
  refine calls_of_fin hf hb ?_
  have hs : Sim ⟨w, fun b => b ∉ bs, fun _ => False, n⟩ ⟨startEnv 0 [constRV u, .int k], []⟩ { tmps := #[u, .int .i64 k] ++ Array.replicate (fn.ntmps - #[u, .int .i64 k].size) undef, defers := [] } w := by
    refine ⟨rfl, by simp; omega, fun _ => none, ⟨rfl, fun i j g hi => by simp at hi, fun i o hi => by simp at hi, fun i g hi => by simp at hi, ⟨rfl, rfl, rfl, Nat.le_refl _, fun _ _ _ => rfl, fun b hb hm => by have := hlt b hm; simp only at hb; omega⟩⟩, fun t => ?_⟩
    rw [start_look]
    simp only [Nat.zero_le, if_true, Nat.sub_zero]
    have hg : ∀ (v : Value) (j : Nat), ([u, .int .i64 k] : List Value)[j]? = some v → (#[u, .int .i64 k] ++ Array.replicate (fn.ntmps - #[u, Value.int .i64 k].size) undef).getD j undef = v := by
      intro v j hj
      have hlt : j < 2 := (List.getElem?_eq_some_iff.1 hj).1
      rw [Array.getD_eq_getD_getElem?, Array.getElem?_append_left (by simpa using hlt)]
      have : (#[u, Value.int .i64 k] : Array Value)[j]? = some v := by simpa using hj
      rw [this]; rfl
    match t with
    | 0 =>
      simp only [List.getElem?_cons_zero, AV.rel]
      rw [hg u 0 rfl]
      exact const_rel u
    | 1 =>
      simp only [List.getElem?_cons_succ, List.getElem?_cons_zero, AV.rel, RV.rel]
      exact hg _ 1 rfl
    | t + 2 => simp [AV.rel]
  have hr := h.run _ w hs
  intro b cs
  obtain ⟨a', w', todo, ⟨hd, hv, hx, hu⟩, hst⟩ := hr b cs
  exact ⟨a', w', todo, ⟨hd, _, hv, rfl, hx, hu⟩, hst⟩
section
variable {P : Program} {C C0 : Ctx} {S : St} {fn : Func}
theorem endsM {t : Nat} {k' : Int} {u : Value} {bs : List Nat} {X : World → Prop} (hnx : Nx C0 C bs) (hm : ∀ b, ¬ C0.mu b) (hr : fn.results = #[.tmp t]) (h1 : look S.env t = .int k') (hX : ∀ φ w, Good C ⟨w, φ, S.σ, C.ok⟩ → X w) : ∀ a w, Sim C S a w → EndsM P C0 fn k' u bs X a w := by
  rintro a w ⟨s1, s2, φ, hG, hH⟩
  have h := hH t
  rw [h1] at h
  simp only [AV.rel, RV.rel] at h
  exact ⟨s1, by rw [results_eq, hr]; simp [resRun, h], hX φ w hG, hnx.up hm hG⟩
end
section
variable {P : Program} {C : Ctx} {ops : Array Oper} {rest : List Oper} {k : List Item} {R : Act → World → Prop} {env : Env} {σ : List Ob} {t : Nat} {ty : TypeId} {pos : String} {after : Array Edge} {gd : Option (Nat × Bool)}
theorem op_callX {f : FuncId} {fn : Func} {xs : Array Operand} {ats : Array TypeId} {i i' : Int} {u : Value} {bs : List Nat} {X : World → Prop} [hfn : FN P f fn]
    (hf : ∀ w, (∀ b ∈ bs, w.heap[b]? = C.w0.heap[b]?) → (∀ b ∈ bs, b < w.heap.size) → Calls P f #[u, .int .i64 i] w fun e w' => e = .returned (.int .i64 i') ∧ X w' ∧ Up w w' bs)
    (hx : xs.toList.map (ev env) = [.ro (constRV u), .int i]) (hfix : ∀ b ∈ bs, b < C.w0.heap.size ∧ ¬ C.mu b ∧ ¬ C.ok b) (ht : t < C.n)
    (hk : ∀ C', Nx C C' bs → X C'.w0 → (∀ b ∈ bs, ¬ C'.mu b ∧ ¬ C'.ok b) → RunsL P C' ops rest k R ⟨(t, .int i') :: env, σ⟩) :
    RunsL P C ops (⟨some t, .call { callee := .value (.func f), args := xs, argTypes := ats }, ty, pos, after, none⟩ :: rest) k R ⟨env, σ⟩ := by
  refine ⟨fun a w ⟨s1, s2, φ, hG, hH⟩ => ?_⟩
  refine wpList_plain rfl fun K hK' => ?_
  have hr := rels_eval (a := a) (m := ⟨w, φ, σ, C.ok⟩) xs.toList fun x _ => ev_rel hH x
  rw [hx] at hr
  simp only [AV.rels, AV.rel] at hr
  obtain ⟨x1, us1, e1, r1, x2, us2, e2, r2, e3⟩ := hr
  have q1 := const_eq r1
  simp only [RV.rel] at r2
  have hargs : xs.map a.eval = #[u, .int .i64 i] := by
    apply Array.ext'
    rw [Array.toList_map, e1, e2, e3, q1, r2]
  unfold Oper.wp
  rw [execOp_call_go, run_call hfn]
  simp only [Oper.upon]
  have hmine : ∀ b ∈ bs, ∀ j, j < σ.length → φ j ≠ some b := fun b hb j hj hg => by
    rcases hG.mine j b hj hg with h | h
    · exact (hfix b hb).2.1 h
    · have := (hfix b hb).1; omega
  rw [hargs]
  refine (hf w (fun b hb => hG.frm.block b (hfix b hb).1 (hfix b hb).2.1) fun b hb => Nat.lt_of_lt_of_le (hfix b hb).1 hG.frm.size).mono ?_
  rintro e w' ⟨rfl, hX, hu⟩
  obtain ⟨nx, hG', hKp⟩ := new_ctx (w' := w') (bs := bs) hG (fun b hb => ⟨Nat.lt_of_lt_of_le (hfix b hb).1 hG.frm.size, (hfix b hb).2.2, hmine b hb⟩) hu.os hu.tape hu.output hu.size hu.block
  refine hK' _ _ ((hk _ nx hX fun b hb => ⟨fun ⟨j, hj, hg⟩ => hmine b hb j hj hg, (hfix b hb).2.2⟩).run _ _ ⟨s1, by simp [Act.put, s2], φ, hG', (hH.keeps hKp).put (by rw [s2]; exact ht) ?_⟩)
  simp [AV.rel, RV.rel]
end
end Go.Proofs.Ytcifgbmmnkilfaa
