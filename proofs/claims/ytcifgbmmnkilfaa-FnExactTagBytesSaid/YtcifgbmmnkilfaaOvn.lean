/- Values with memory of their own, however deep: what a call makes, kept as plain values of a frame. Over any program. -/
import Derived.Test.YtcifgbmmnkilfaaEmp
namespace Go.Proofs.Ytcifgbmmnkilfaa
set_option linter.unusedSimpArgs false
set_option linter.unusedVariables false
open Go.RowKit
open AV (Mem Keeps)
inductive OV where
  | c (v : Value)
  | row (e : TypeId) (sz : Nat) (cs : List OV)
  | agg (cs : List OV)
  | tup (vs : List OV)
namespace OV
mutual
/-- The value u is such a value; its rows lie in the blocks bs. -/
def rel (w : World) : OV → Value → List Nat → Prop
  | .c v, u, bs => u = v ∧ bs = []
  | .row e sz cs, u, bs => ∃ n xs bs', cs.length = n * sz ∧ 0 < sz ∧ rels w cs xs bs' ∧ (∀ x ∈ xs, x.oneCell' = true) ∧ w.ownsRow 0 e sz u n xs ∧ bs = u.ownBlock.toList ++ bs'
  | .agg cs, u, bs => ∃ us : Array Value, u = .agg us ∧ rels w cs us.toList bs
  | .tup cs, u, bs => ∃ us : Array Value, u = .tuple us ∧ rels w cs us.toList bs
def rels (w : World) : List OV → List Value → List Nat → Prop
  | [], us, bs => us = [] ∧ bs = []
  | x :: xs, us, bs => ∃ u us' b bs', us = u :: us' ∧ bs = b ++ bs' ∧ rel w x u b ∧ rels w xs us' bs'
end
theorem ownsRow_keep {w w' : World} {e : TypeId} {sz n : Nat} {u : Value} {xs : List Value} (h : w.ownsRow 0 e sz u n xs) (hb : ∀ b ∈ u.ownBlock.toList, w'.heap[b]? = w.heap[b]?) : w'.ownsRow 0 e sz u n xs := by
  obtain ⟨h1, h2⟩ := h
  refine ⟨h1, ?_⟩
  rcases h2 with h2 | ⟨g, cap, cur, rfl, h3, h4, h5⟩
  · exact .inl h2
  · exact .inr ⟨g, cap, cur, rfl, h3, (hb g (by simp [Value.ownBlock])).trans h4, h5⟩
mutual
theorem rel_keep {w w' : World} : ∀ (o : OV) (u : Value) (bs : List Nat), rel w o u bs → (∀ b ∈ bs, w'.heap[b]? = w.heap[b]?) → rel w' o u bs
  | .c v, u, bs, h, _ => by simpa [rel] using h
  | .row e sz cs, u, bs, h, hb => by
    simp only [rel] at h ⊢
    obtain ⟨n, xs, bs', h1, h2, h3, h4, h5, rfl⟩ := h
    exact ⟨n, xs, bs', h1, h2, rels_keep cs xs bs' h3 fun b hm => hb b (List.mem_append.2 (.inr hm)), h4, ownsRow_keep h5 fun b hm => hb b (List.mem_append.2 (.inl hm)), rfl⟩
  | .agg cs, u, bs, h, hb => by
    simp only [rel] at h ⊢
    obtain ⟨us, e, h1⟩ := h
    exact ⟨us, e, rels_keep cs _ bs h1 hb⟩
  | .tup cs, u, bs, h, hb => by
    simp only [rel] at h ⊢
    obtain ⟨us, e, h1⟩ := h
    exact ⟨us, e, rels_keep cs _ bs h1 hb⟩
theorem rels_keep {w w' : World} : ∀ (os : List OV) (us : List Value) (bs : List Nat), rels w os us bs → (∀ b ∈ bs, w'.heap[b]? = w.heap[b]?) → rels w' os us bs
  | [], us, bs, h, _ => by simpa [rels] using h
  | x :: xs, us, bs, h, hb => by
    simp only [rels] at h ⊢
    obtain ⟨u, us', b, bs', e1, rfl, h1, h2⟩ := h
    exact ⟨u, us', b, bs', e1, rfl, rel_keep x u b h1 fun c hm => hb c (List.mem_append.2 (.inl hm)), rels_keep xs us' bs' h2 fun c hm => hb c (List.mem_append.2 (.inr hm))⟩
end
theorem rels_len {w : World} : ∀ (os : List OV) (us : List Value) (bs : List Nat), rels w os us bs → us.length = os.length
  | [], us, bs, h => by simp only [rels] at h; simp [h.1]
  | x :: xs, us, bs, h => by
    simp only [rels] at h
    obtain ⟨u, us', b, bs', rfl, _, _, h2⟩ := h
    simp [rels_len xs us' bs' h2]
theorem rels_c {w : World} : ∀ (vs : List Value), rels w (vs.map .c) vs []
  | [] => by simp [rels]
  | v :: vs => by simp only [List.map_cons, rels]; exact ⟨v, vs, [], [], rfl, rfl, by simp [rel], rels_c vs⟩
theorem rels_append {w : World} : ∀ (os os' : List OV) (us us' : List Value) (bs bs' : List Nat), rels w os us bs → rels w os' us' bs' → rels w (os ++ os') (us ++ us') (bs ++ bs')
  | [], os', us, us', bs, bs', h, h' => by simp only [rels] at h; obtain ⟨rfl, rfl⟩ := h; simpa using h'
  | x :: xs, os', us, us', bs, bs', h, h' => by
    simp only [rels] at h
    obtain ⟨u, ut, b, bt, rfl, rfl, h1, h2⟩ := h
    simp only [List.cons_append, rels]
    exact ⟨u, ut ++ us', b, bt ++ bs', rfl, by rw [List.append_assoc], h1, rels_append xs os' ut us' bt bs' h2 h'⟩
/-! ### .. read as data. -/
mutual
def Seal : OV → RV → Prop
  | .c v, r => r = .c v
  | .row _ sz cs, r => ∃ els, r = .seq sz els ∧ (∀ x ∈ els, x.length = sz) ∧ Seals cs els.flatten
  | .agg cs, r => ∃ rs, r = .agg rs ∧ Seals cs rs
  | .tup cs, r => ∃ rs, r = .tup rs ∧ Seals cs rs
def Seals : List OV → List RV → Prop
  | [], rs => rs = []
  | x :: xs, rs => ∃ r rs', rs = r :: rs' ∧ Seal x r ∧ Seals xs rs'
end
theorem seals_len : ∀ (os : List OV) (rs : List RV), Seals os rs → rs.length = os.length
  | [], rs, h => by simp only [Seals] at h; simp [h]
  | x :: xs, rs, h => by
    simp only [Seals] at h
    obtain ⟨r, rs', rfl, _, h2⟩ := h
    simp [seals_len xs rs' h2]
mutual
theorem seal_rel {w : World} {ok : Nat → Prop} : ∀ (o : OV) (r : RV) (u : Value) (bs : List Nat), Seal o r → rel w o u bs → (∀ b ∈ bs, ok b) → RV.rel w ok r u
  | .c v, r, u, bs, hs, h, _ => by
    simp only [Seal] at hs; subst hs
    simp only [rel] at h
    simpa only [RV.rel] using h.1
  | .row e sz cs, r, u, bs, hs, h, hb => by
    simp only [Seal] at hs
    obtain ⟨els, rfl, hl, hf⟩ := hs
    simp only [rel] at h
    obtain ⟨n, xs, bs', k1, k2, k3, k4, k5, rfl⟩ := h
    have hrs : RV.rels w ok els.flatten xs := seals_rel cs els.flatten xs bs' hf k3 fun b hm => hb b (List.mem_append.2 (.inr hm))
    have hn : n = els.length := by
      have h1 := flatten_len hl
      rw [seals_len cs _ hf, k1] at h1
      exact Nat.eq_of_mul_eq_mul_right k2 h1
    simp only [RV.rel]
    rcases k5.2 with ⟨rfl, h0⟩ | ⟨g, cap, cur, rfl, _, hh, c1, c2, c3, ht⟩
    · exact ⟨none, 0, 0, rfl, by omega, Nat.le_refl _, Nat.zero_le _, fun h => absurd h (by omega)⟩
    · refine ⟨some ⟨g, 0, none⟩, n, cap, rfl, hn, c1, c2, fun hn0 => ⟨g, 0, rfl, (Array.getElem?_eq_some_iff.1 hh).1, hb g (by simp [Value.ownBlock]), ?_⟩⟩
      refine RV.relE_of _ _ _ fun k el hk => ⟨hl el (List.mem_of_getElem? hk), RV.relAt_of _ _ fun j r hj => ?_⟩
      have hjl : j < sz := by have := (List.getElem?_eq_some_iff.1 hj).1; rwa [hl el (List.mem_of_getElem? hk)] at this
      have hfl := flatten_at hl k j el hk hjl
      rw [hj] at hfl
      obtain ⟨x, e1, e2⟩ := RV.rels_at _ xs hrs _ r hfl
      refine ⟨x, ?_, k4 x (List.mem_of_getElem? e1), e2⟩
      rw [cell_of_row w g _ cur _ _ hh, Nat.zero_add]
      rw [← ht, List.getElem?_take] at e1
      split at e1
      · simpa using e1
      · cases e1
  | .agg cs, r, u, bs, hs, h, hb => by
    simp only [Seal] at hs
    obtain ⟨rs, rfl, hf⟩ := hs
    simp only [rel] at h
    obtain ⟨us, rfl, h1⟩ := h
    simp only [RV.rel]
    exact ⟨us, rfl, seals_rel cs rs _ bs hf h1 hb⟩
  | .tup cs, r, u, bs, hs, h, hb => by
    simp only [Seal] at hs
    obtain ⟨rs, rfl, hf⟩ := hs
    simp only [rel] at h
    obtain ⟨us, rfl, h1⟩ := h
    simp only [RV.rel]
    exact ⟨us, rfl, seals_rel cs rs _ bs hf h1 hb⟩
theorem seals_rel {w : World} {ok : Nat → Prop} : ∀ (os : List OV) (rs : List RV) (us : List Value) (bs : List Nat), Seals os rs → rels w os us bs → (∀ b ∈ bs, ok b) → RV.rels w ok rs us
  | [], rs, us, bs, hs, h, _ => by
    simp only [Seals] at hs; subst hs
    simp only [rels] at h
    simp [RV.rels, h.1]
  | x :: xs, rs, us, bs, hs, h, hb => by
    simp only [Seals] at hs
    obtain ⟨r, rs', rfl, hs1, hs2⟩ := hs
    simp only [rels] at h
    obtain ⟨u, us', b, bs', rfl, rfl, h1, h2⟩ := h
    simp only [RV.rels]
    exact ⟨u, us', rfl, seal_rel x r u b hs1 h1 fun c hm => hb c (List.mem_append.2 (.inl hm)), seals_rel xs rs' us' bs' hs2 h2 fun c hm => hb c (List.mem_append.2 (.inr hm))⟩
end
end OV
/-- With this data as arguments the function makes this value, all in new memory. -/
def ACo (P : Program) (f : FuncId) (args : List RV) (ov : OV) : Prop :=
  ∀ (w : World) (us : Array Value), RV.rels w (fun _ => True) args us.toList →
    Calls P f us w fun e w' => ∃ u bs, e = .returned u ∧ OV.rel w' ov u bs ∧ bs.Nodup ∧ (∀ b ∈ bs, w.heap.size ≤ b ∧ b < w'.heap.size) ∧ Below w.heap.size w w'
theorem aco_row {P : Program} {f : FuncId} {args : List RV} {e : TypeId} {sz : Nat} {vs : List Value} (h : AC P f args fun rr => rr = .row e sz (vs.map .c)) : ACo P f args (.row e sz (vs.map .c)) := by
  intro w us hu
  refine (h w (fun _ => True) us (fun _ _ => trivial) hu).mono ?_
  rintro ee w' ⟨u, rr, bs, rfl, rfl, h1, h2, h3, h4⟩
  simp only [RR.rel] at h1
  obtain ⟨n, xs, k1, k2, k3, k4, k5, rfl⟩ := h1
  have e2 := agg_flat (m := ⟨w', fun _ => none, [], fun b => True ∧ b ∉ u.ownBlock.toList⟩) vs xs (RV.rels_mono ⟨Nat.le_refl _, fun b _ hb => ⟨⟨hb, fun i hi => by simp at hi⟩, rfl⟩⟩ _ _ k3)
  subst e2
  refine ⟨u, _, rfl, ?_, h2, h3, h4⟩
  simp only [OV.rel]
  exact ⟨n, xs, [], by simpa using k1, k2, OV.rels_c xs, k4, k5, by simp⟩
/-! ### In a frame. -/
/-- A value whose memory nothing else of the frame speaks of. -/
structure Gh (C : Ctx) (ov : OV) (u : Value) (bs : List Nat) : Prop where
  rel : OV.rel C.w0 ov u bs
  fix : ∀ b ∈ bs, b < C.w0.heap.size ∧ ¬ C.mu b ∧ ¬ C.ok b
/-- From context to context: but for the blocks bs what was there stays. -/
structure Nx (C C' : Ctx) (bs : List Nat) : Prop where
  n : C'.n = C.n
  os : C'.w0.os = C.w0.os
  tape : C'.w0.tape = C.w0.tape
  output : C'.w0.output = C.w0.output
  size : C.w0.heap.size ≤ C'.w0.heap.size
  block : ∀ b, b < C.w0.heap.size → ¬ C.mu b → b ∉ bs → C'.w0.heap[b]? = C.w0.heap[b]?
  mu : ∀ b, C'.mu b → C.mu b ∨ C.w0.heap.size ≤ b
  ok : ∀ b, C'.ok b → C.ok b
theorem Gh.next {C C' : Ctx} {ov : OV} {u : Value} {bs ds : List Nat} (h : Gh C ov u bs) (k : Nx C C' ds) (hd : ∀ b ∈ bs, b ∉ ds) : Gh C' ov u bs := by
  refine ⟨OV.rel_keep ov u bs h.rel fun b hb => k.block b (h.fix b hb).1 (h.fix b hb).2.1 (hd b hb), fun b hb => ⟨Nat.lt_of_lt_of_le (h.fix b hb).1 k.size, fun hm => ?_, fun ho => (h.fix b hb).2.2 (k.ok b ho)⟩⟩
  rcases k.mu b hm with h1 | h1
  · exact (h.fix b hb).2.1 h1
  · have := (h.fix b hb).1; omega
theorem Nx.trans {C C' C'' : Ctx} {bs ds : List Nat} (h : Nx C C' bs) (k : Nx C' C'' ds) : Nx C C'' (bs ++ ds) :=
  ⟨k.n.trans h.n, k.os.trans h.os, k.tape.trans h.tape, k.output.trans h.output, Nat.le_trans h.size k.size, fun b h1 h2 h3 => by
    rw [List.mem_append, not_or] at h3
    refine (k.block b (Nat.lt_of_lt_of_le h1 h.size) (fun hm => ?_) h3.2).trans (h.block b h1 h2 h3.1)
    rcases h.mu b hm with h4 | h4
    · exact h2 h4
    · omega, fun b hm => by
    rcases k.mu b hm with h4 | h4
    · exact h.mu b h4
    · exact .inr (Nat.le_trans h.size h4), fun b ho => h.ok b (k.ok b ho)⟩
/-- A value as a plain value of a frame. -/
theorem rel_constRV {w : World} {ok : Nat → Prop} (u : Value) : RV.rel w ok (constRV u) u := const_rel u
section
variable {P : Program} {C : Ctx} {ops : Array Oper} {rest : List Oper} {k : List Item} {R : Act → World → Prop} {env : Env} {σ : List Ob} {t : Nat} {ty : TypeId} {pos : String} {after : Array Edge} {gd : Option (Nat × Bool)}
/-- A value of the frame serves as this data, whatever it reads. -/
def LendsT (C : Ctx) (σ : List Ob) (v : AV) (r : RV) : Prop := ∀ (m : Mem) (u : Value), Good C m → m.σ = σ → AV.rel m v u → RV.rel m.w (fun _ => True) r u
inductive LendsTL (C : Ctx) (σ : List Ob) : List AV → List RV → Prop
  | nil : LendsTL C σ [] []
  | cons {v : AV} {r : RV} {vs : List AV} {rs : List RV} : LendsT C σ v r → LendsTL C σ vs rs → LendsTL C σ (v :: vs) (r :: rs)
theorem LendsT.of {v : AV} {r : RV} (h : Lends C σ v r) : LendsT C σ v r := fun m u hG hσ hu => h m u (fun _ => True) hG hσ (fun _ _ => trivial) (fun _ _ _ _ => trivial) hu
theorem LendsT.ro {r : RV} : LendsT C σ (.ro r) r := LendsT.of Lends.ro
theorem LendsT.gh {ov : OV} {u : Value} {bs : List Nat} {r r' : RV} (h : Gh C ov u bs) (hs : OV.Seal ov r) (hr : r' = constRV u) : LendsT C σ (.ro r') r := fun m x hG hσ hx => by
  subst hr
  simp only [AV.rel] at hx
  have hxu : x = u := by
    cases u <;> simp only [constRV, RV.rel] at hx <;> try exact hx
    obtain ⟨us, rfl, hr⟩ := hx
    have := agg_flat (m := m) _ _ hr
    rw [← Array.toArray_toList (xs := us), this]
  subst hxu
  refine OV.seal_rel ov r x bs hs (OV.rel_keep ov x bs h.rel fun b hb => hG.frm.block b (h.fix b hb).1 (h.fix b hb).2.1) fun _ _ => trivial
theorem LendsTL.rels {m : Mem} (hG : Good C m) (hσ : m.σ = σ) {vs : List AV} {rs : List RV} (h : LendsTL C σ vs rs) : ∀ us, AV.rels m vs us → RV.rels m.w (fun _ => True) rs us := by
  induction h with
  | nil => intro us hu; simpa [AV.rels, RV.rels] using hu
  | cons h1 _ ih =>
    intro us hu
    simp only [AV.rels] at hu
    obtain ⟨u, us', rfl, k3, k4⟩ := hu
    simp only [RV.rels]
    exact ⟨u, us', rfl, h1 m u hG hσ k3, ih us' k4⟩
/-- A call that reads whatever the frame has, and returns a plain value. -/
theorem pu_callT {f : FuncId} {fn : Func} {xs : Array Operand} {ats : Array TypeId} {args : List RV} {v : Value} [hfn : FN P f fn] (hf : ACv P f args (.c v)) (ha : LendsTL C σ (xs.toList.map (ev env)) args) :
    Pur P C ⟨some t, .call { callee := .value (.func f), args := xs, argTypes := ats }, ty, pos, after, gd⟩ env σ (.ro (.c v)) := by
  refine ⟨fun a m hG hσ hH K Q hK => ?_⟩
  have hr := LendsTL.rels hG hσ ha _ (rels_eval (a := a) (m := m) xs.toList fun x hx => hH x (by simp [Op.operands, Call.operands]; exact .inr (by simpa using hx)))
  unfold Oper.wp
  rw [execOp_call_go, run_call hfn]
  simp only [Oper.upon]
  refine (hf m.w (fun _ => True) _ (fun _ _ => trivial) (by simpa using hr)).mono ?_
  rintro e w' ⟨u, rr, bs, rfl, rfl, h1, _, _, h4⟩
  simp only [RR.rel, RV.rel] at h1
  refine hK u w' h4 ?_
  simp only [AV.rel, RV.rel]
  exact h1.1
/-- A call that makes such a value: the context is a new one from there on. -/
theorem op_callN {f : FuncId} {fn : Func} {xs : Array Operand} {ats : Array TypeId} {args : List RV} {ov : OV} [hfn : FN P f fn] (hf : ACo P f args ov) (ha : LendsTL C σ (xs.toList.map (ev env)) args) (ht : t < C.n)
    (hk : ∀ (C' : Ctx) (u : Value) (bs : List Nat), Nx C C' [] → Gh C' ov u bs → bs.Nodup → (∀ b ∈ bs, C.w0.heap.size ≤ b) → RunsL P C' ops rest k R ⟨(t, .ro (constRV u)) :: env, σ⟩) :
    RunsL P C ops (⟨some t, .call { callee := .value (.func f), args := xs, argTypes := ats }, ty, pos, after, none⟩ :: rest) k R ⟨env, σ⟩ := by
  refine ⟨fun a w ⟨s1, s2, φ, hG, hH⟩ => ?_⟩
  refine wpList_plain rfl fun K hK' => ?_
  have hr := LendsTL.rels hG rfl ha _ (rels_eval (a := a) (m := ⟨w, φ, σ, C.ok⟩) xs.toList fun x hx => ev_rel hH x)
  unfold Oper.wp
  rw [execOp_call_go, run_call hfn]
  simp only [Oper.upon]
  refine (hf w _ (by simpa using hr)).mono ?_
  rintro e w' ⟨u, bs, rfl, h1, h2, h3, h4⟩
  let C' : Ctx := ⟨w', fun b => C.ok b ∧ b ∉ bs, mine φ σ.length, C.n⟩
  have hmine : ∀ b, C'.mu b → C.mu b ∨ C.w0.heap.size ≤ b := fun b ⟨i, hi, hb⟩ => hG.mine i b hi hb
  have hNx : Nx C C' [] := ⟨rfl, h4.os.trans hG.frm.os, h4.tape.trans hG.frm.tape, h4.output.trans hG.frm.output, Nat.le_trans hG.frm.size h4.size, fun b hb hm _ => (h4.block b (Nat.lt_of_lt_of_le hb hG.frm.size)).trans (hG.frm.block b hb hm), hmine, fun b hb => hb.1⟩
  have hlt : ∀ (i g : Nat), i < σ.length → φ i = some g → g < w.heap.size := fun i g hi hg => hG.lt hi hg
  have hGh : Gh C' ov u bs := ⟨h1, fun b hb => ⟨(h3 b hb).2, fun ⟨i, hi, hg⟩ => by have := hlt i b hi hg; have := (h3 b hb).1; omega, fun ho => ho.2 hb⟩⟩
  -- what the frame holds is read as before
  have hK : Keeps (fun _ => True) ⟨w, φ, σ, C.ok⟩ ⟨w', φ, σ, C'.ok⟩ := by
    refine ⟨⟨h4.size, fun b hb ho => ⟨⟨⟨ho.1, fun hm => by have := (h3 b hm).1; simp only at hb; omega⟩, ho.2⟩, h4.block b hb⟩⟩, fun i _ hi => ⟨hi, rfl⟩, fun i ob _ hi => ⟨ob.cs, hi, rfl⟩, fun i g us t _ hi hg hh => ⟨us, (h4.block g (Array.getElem?_eq_some_iff.1 hh).1).trans hh, rfl⟩⟩
  have hG' : Good C' ⟨w', φ, σ, C'.ok⟩ := by
    refine ⟨rfl, hG.inj, fun i o hi => (hG.ob i o hi).keeps hK fun g hg => h4.block g (hlt i g (List.getElem?_eq_some_iff.1 hi).1 hg), fun i g hi hg => .inl ⟨i, hi, hg⟩, ⟨rfl, rfl, rfl, Nat.le_refl _, fun _ _ _ => rfl, fun b hb => ⟨hG.frm.new b (Nat.le_trans hG.frm.size (Nat.le_trans h4.size hb)), fun hm => by have := (h3 b hm).2; have hb' : w'.heap.size ≤ b := hb; omega⟩⟩⟩
  refine hK' _ _ ((hk C' u bs hNx hGh h2 fun b hb => Nat.le_trans hG.frm.size (h3 b hb).1).run _ _ ⟨s1, by simp [Act.put, s2]; rfl, φ, hG', (hH.keeps hK).put (by rw [s2]; exact ht) ?_⟩)
  simp only [AV.rel]
  exact rel_constRV u
end
end Go.Proofs.Ytcifgbmmnkilfaa
