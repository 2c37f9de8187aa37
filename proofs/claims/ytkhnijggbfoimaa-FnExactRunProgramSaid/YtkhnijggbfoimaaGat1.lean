/- Gathered texts. -/
import Derived.Test.YtkhnijggbfoimaaGat0
import Derived.ProofKit
import Derived.OpenShut
import Derived.Deep.Slices
import Derived.ChangeArms
import Derived.DataReads
import Derived.Great.BuildSlice
import Derived.Test.YtkhnijggbfoimaaChecked
import Derived.Laws.StructEq
import Derived.Laws.Slices
import Derived.Laws.RangeString
/- Calls that make memory: their results as data, or as rows of the frame's own; calls that are lent what the frame owns. Over any program. -/
namespace Go.Proofs.Ytkhnijggbfoimaa
set_option linter.unusedSimpArgs false
set_option linter.unusedVariables false
open Go.RowKit
open AV (Mem Keeps)
/-! ### A result taken as data. -/
mutual
def Seals : RR → RV → Prop
  | .ro r, r' => r' = r
  | .row _ sz cs, r' => ∃ els, r' = .seq sz els ∧ els.flatten = cs ∧ ∀ x ∈ els, x.length = sz
  | .agg rs, r' => ∃ rs', r' = .agg rs' ∧ SealsL rs rs'
  | .tup rs, r' => ∃ rs', r' = .tup rs' ∧ SealsL rs rs'
def SealsL : List RR → List RV → Prop
  | [], rs' => rs' = []
  | x :: xs, rs' => ∃ r rs'', rs' = r :: rs'' ∧ Seals x r ∧ SealsL xs rs''
end
theorem flatten_len {α : Type} {sz : Nat} : ∀ {els : List (List α)}, (∀ x ∈ els, x.length = sz) → els.flatten.length = els.length * sz
  | [], _ => by simp
  | x :: xs, h => by
    rw [List.flatten_cons, List.length_append, flatten_len (fun y hy => h y (by simp [hy])), h x (by simp), List.length_cons, Nat.add_mul]; omega
theorem flatten_at {α : Type} {sz : Nat} : ∀ {els : List (List α)}, (∀ x ∈ els, x.length = sz) → ∀ (k j : Nat) e, els[k]? = some e → j < sz → els.flatten[k * sz + j]? = e[j]?
  | [], _, k, j, e, hk, _ => by simp at hk
  | x :: xs, h, k, j, e, hk, hj => by
    rw [List.flatten_cons]
    have hx := h x (by simp)
    cases k with
    | zero => simp at hk; subst hk; rw [List.getElem?_append_left (by omega)]; simp
    | succ k =>
      simp at hk
      rw [List.getElem?_append_right (by rw [hx, Nat.add_mul]; omega), hx, show (k + 1) * sz + j - sz = k * sz + j by rw [Nat.add_mul]; omega]
      exact flatten_at (fun y hy => h y (by simp [hy])) k j e hk hj
section
variable {w : World} {ok ok' : Nat → Prop}
theorem rels_at' {rs : List RV} {us : List Value} (h : RV.rels w ok rs us) (j : Nat) (r : RV) (hj : rs[j]? = some r) : ∃ u, us[j]? = some u ∧ RV.rel w ok r u := RV.rels_at rs us h j r hj
mutual
theorem seals_rel (h1 : ∀ b, ok b → ok' b) : ∀ (rr : RR) (r : RV) (u : Value) (bs : List Nat), Seals rr r → rr.rel w ok u bs → (∀ b ∈ bs, ok' b) → RV.rel w ok' r u
  | .ro r0, r, u, bs, hs, hr, hb => by
    simp only [Seals] at hs; subst hs
    simp only [RR.rel] at hr
    exact RV.rel_mono ⟨Nat.le_refl _, fun b _ ho => ⟨h1 b ho, rfl⟩⟩ _ _ hr.1
  | .row e sz cs, r, u, bs, hs, hr, hb => by
    simp only [Seals] at hs
    obtain ⟨els, rfl, hf, hl⟩ := hs
    simp only [RR.rel] at hr
    obtain ⟨n, xs, k1, k2, k3, k4, k5, rfl⟩ := hr
    have hn : n = els.length := by
      have := flatten_len hl
      rw [hf, k1] at this
      exact Nat.eq_of_mul_eq_mul_right k2 this
    simp only [RV.rel]
    rcases k5.2 with ⟨rfl, h0⟩ | ⟨g, cap, cur, rfl, _, hh, c1, c2, c3, ht⟩
    · exact ⟨none, 0, 0, rfl, by omega, Nat.le_refl _, Nat.zero_le _, fun h => absurd h (by omega)⟩
    · refine ⟨some ⟨g, 0, none⟩, n, cap, rfl, hn, c1, c2, fun hn0 => ⟨g, 0, rfl, (Array.getElem?_eq_some_iff.1 hh).1, hb g (by simp [Value.ownBlock]), ?_⟩⟩
      refine RV.relE_of _ _ _ fun k e hk => ⟨hl e (List.mem_of_getElem? hk), RV.relAt_of _ _ fun j r hj => ?_⟩
      have hjl : j < sz := by have := (List.getElem?_eq_some_iff.1 hj).1; rwa [hl e (List.mem_of_getElem? hk)] at this
      have hfl := flatten_at hl k j e hk hjl
      rw [hf, hj] at hfl
      obtain ⟨x, e1, e2⟩ := RV.rels_at cs xs k3 _ r hfl
      refine ⟨x, ?_, k4 x (List.mem_of_getElem? e1), RV.rel_mono ⟨Nat.le_refl _, fun b _ ho => ⟨h1 b ho, rfl⟩⟩ _ _ e2⟩
      rw [cell_of_row w g _ cur _ _ hh, Nat.zero_add]
      rw [← ht, List.getElem?_take] at e1
      split at e1
      · simpa using e1
      · cases e1
  | .agg rs, r, u, bs, hs, hr, hb => by
    simp only [Seals] at hs
    obtain ⟨rs', rfl, hs⟩ := hs
    simp only [RR.rel] at hr
    obtain ⟨us, rfl, hr⟩ := hr
    simp only [RV.rel]
    exact ⟨us, rfl, sealsL_rel h1 rs rs' _ bs hs hr hb⟩
  | .tup rs, r, u, bs, hs, hr, hb => by
    simp only [Seals] at hs
    obtain ⟨rs', rfl, hs⟩ := hs
    simp only [RR.rel] at hr
    obtain ⟨us, rfl, hr⟩ := hr
    simp only [RV.rel]
    exact ⟨us, rfl, sealsL_rel h1 rs rs' _ bs hs hr hb⟩
theorem sealsL_rel (h1 : ∀ b, ok b → ok' b) : ∀ (rs : List RR) (rs' : List RV) (us : List Value) (bs : List Nat), SealsL rs rs' → RR.rels w ok rs us bs → (∀ b ∈ bs, ok' b) → RV.rels w ok' rs' us
  | [], rs', us, bs, hs, hr, hb => by
    simp only [SealsL] at hs; subst hs
    simp only [RR.rels] at hr
    simp [RV.rels, hr]
  | x :: xs, rs', us, bs, hs, hr, hb => by
    simp only [SealsL] at hs
    obtain ⟨r, rs'', rfl, hs1, hs2⟩ := hs
    simp only [RR.rels] at hr
    obtain ⟨u, us', b, bs', rfl, rfl, k1, k2⟩ := hr
    simp only [RV.rels]
    exact ⟨u, us', rfl, seals_rel h1 x r u b hs1 k1 (fun c hc => hb c (List.mem_append.2 (.inl hc))), sealsL_rel h1 xs rs'' us' bs' hs2 k2 (fun c hc => hb c (List.mem_append.2 (.inr hc)))⟩
end
end
/-- A row of one-cell elements. -/
theorem seals_row1 (e : TypeId) (cs : List RV) : Seals (.row e 1 cs) (.seq 1 (cs.map fun c => [c])) := by
  simp only [Seals]
  refine ⟨_, rfl, ?_, by simp⟩
  induction cs with
  | nil => rfl
  | cons c cs ih => simp [ih]
theorem seals_rowN {α : Type} (e : TypeId) (sz : Nat) (l : List α) (f : α → List RV) (h : ∀ x ∈ l, (f x).length = sz) : Seals (.row e sz (l.map f).flatten) (.seq sz (l.map f)) := by
  simp only [Seals]
  exact ⟨_, rfl, rfl, by simpa using h⟩
/-! ### A result taken as rows of the frame's own. -/
mutual
def obs : RR → List Ob
  | .ro _ => []
  | .row e sz cs => [⟨e, sz, cs.map .ro⟩]
  | .agg rs => obsL rs
  | .tup rs => obsL rs
def obsL : List RR → List Ob
  | [] => []
  | x :: xs => obs x ++ obsL xs
end
mutual
def instA (N : Nat) : RR → AV
  | .ro r => .ro r
  | .row _ _ _ => .own N
  | .agg rs => .agg (instL N rs)
  | .tup rs => .tup (instL N rs)
def instL (N : Nat) : List RR → List AV
  | [] => []
  | x :: xs => instA N x :: instL (N + (obs x).length) xs
end
section
variable {w : World} {ok : Nat → Prop}
/-- What such a result needs of the memory. -/
def Lies (m : Mem) (N : Nat) (ps : List (Option Nat)) (os : List Ob) : Prop := (∀ (j : Nat) p, ps[j]? = some p → m.φ (N + j) = p) ∧ (∀ (j : Nat) o, os[j]? = some o → m.σ[N + j]? = some o)
theorem Lies.left {m : Mem} {N : Nat} {ps qs : List (Option Nat)} {os os' : List Ob} (h : Lies m N (ps ++ qs) (os ++ os')) : Lies m N ps os :=
  ⟨fun j p hj => h.1 j p (by rw [List.getElem?_append_left (List.getElem?_eq_some_iff.1 hj).1]; exact hj), fun j o hj => h.2 j o (by rw [List.getElem?_append_left (List.getElem?_eq_some_iff.1 hj).1]; exact hj)⟩
theorem Lies.right {m : Mem} {N : Nat} {ps qs : List (Option Nat)} {os os' : List Ob} (hl : ps.length = os.length) (h : Lies m N (ps ++ qs) (os ++ os')) : Lies m (N + os.length) qs os' :=
  ⟨fun j p hj => by
    have := h.1 (ps.length + j) p (by rw [List.getElem?_append_right (by omega)]; simpa using hj)
    rwa [show N + (ps.length + j) = N + os.length + j by omega] at this,
   fun j o hj => by
    have := h.2 (os.length + j) o (by rw [List.getElem?_append_right (by omega)]; simpa using hj)
    rwa [show N + (os.length + j) = N + os.length + j by omega] at this⟩
mutual
theorem inst_rel : ∀ (rr : RR) (u : Value) (bs : List Nat), rr.rel w ok u bs → ∃ ps : List (Option Nat), ps.length = (obs rr).length ∧ bs = ps.flatMap Option.toList ∧
    ∀ (m : Mem) (N : Nat), m.w = w → (∀ b, ok b → m.ok b) → Lies m N ps (obs rr) → AV.rel m (instA N rr) u ∧ ∀ (j : Nat) o, (obs rr)[j]? = some o → ObRel m o (m.φ (N + j))
  | .ro r, u, bs, h => by
    simp only [RR.rel] at h
    refine ⟨[], rfl, by simp [h.2], fun m N hw hok _ => ⟨?_, fun j o hj => by simp [obs] at hj⟩⟩
    subst hw
    simp only [instA, AV.rel]
    exact RV.rel_mono ⟨Nat.le_refl _, fun b _ ho => ⟨hok b ho, rfl⟩⟩ _ _ h.1
  | .row e sz cs, u, bs, h => by
    simp only [RR.rel] at h
    obtain ⟨n, xs, k1, k2, k3, k4, k5, rfl⟩ := h
    refine ⟨[u.ownBlock], rfl, by simp, fun m N hw hok hL => ?_⟩
    subst hw
    have hφ : m.φ N = u.ownBlock := hL.1 0 _ rfl
    have hσ : m.σ[N]? = some ⟨e, sz, cs.map .ro⟩ := hL.2 0 _ rfl
    have hro := fun r x hx => RV.rel_mono (w := m.w) (w' := m.w) (ok := ok) (ok' := m.ok) ⟨Nat.le_refl _, fun b _ ho => ⟨hok b ho, rfl⟩⟩ r x hx
    constructor
    · simp only [instA, AV.rel]
      refine ⟨_, n, hσ, by simpa using k1, k2, ?_⟩
      rcases k5.2 with ⟨rfl, rfl⟩ | ⟨g, cap, cur, rfl, _, hh, c1, c2, c3, ht⟩
      · exact .inl ⟨rfl, rfl, by simpa [Value.ownBlock] using hφ⟩
      · exact .inr ⟨g, cap, cur, by simpa [Value.ownBlock] using hφ, rfl, hh, c1, c2, c3⟩
    · intro j o hj
      cases j with
      | succ j => simp [obs] at hj
      | zero =>
        simp [obs] at hj; subst hj
        rw [Nat.add_zero, hφ]
        rcases k5.2 with ⟨rfl, rfl⟩ | ⟨g, cap, cur, rfl, _, hh, c1, c2, c3, ht⟩
        · simp only [Value.ownBlock, ObRel]
          have : cs = [] := List.eq_nil_of_length_eq_zero (by omega)
          simp [this]
        · simp only [Value.ownBlock, ObRel]
          refine ⟨cur, hh, by rw [List.length_map, k1, c3]; exact Nat.mul_le_mul_right _ c1, fun x v hv => ?_⟩
          rw [List.getElem?_map, Option.map_eq_some_iff] at hv
          obtain ⟨r, hr, rfl⟩ := hv
          obtain ⟨y, e1, e2⟩ := RV.rels_at cs xs k3 x r hr
          refine ⟨y, ?_, k4 y (List.mem_of_getElem? e1), by simp only [AV.rel]; exact hro r y e2⟩
          rw [← ht, List.getElem?_take] at e1
          split at e1
          · simpa using e1
          · cases e1
  | .agg rs, u, bs, h => by
    simp only [RR.rel] at h
    obtain ⟨us, rfl, h⟩ := h
    obtain ⟨ps, h1, h2, h3⟩ := instL_rel rs _ bs h
    refine ⟨ps, h1, h2, fun m N hw hok hL => ?_⟩
    obtain ⟨k1, k2⟩ := h3 m N hw hok hL
    exact ⟨by simp only [instA, AV.rel]; exact ⟨us, rfl, k1⟩, k2⟩
  | .tup rs, u, bs, h => by
    simp only [RR.rel] at h
    obtain ⟨us, rfl, h⟩ := h
    obtain ⟨ps, h1, h2, h3⟩ := instL_rel rs _ bs h
    refine ⟨ps, h1, h2, fun m N hw hok hL => ?_⟩
    obtain ⟨k1, k2⟩ := h3 m N hw hok hL
    exact ⟨by simp only [instA, AV.rel]; exact ⟨us, rfl, k1⟩, k2⟩
theorem instL_rel : ∀ (rs : List RR) (us : List Value) (bs : List Nat), RR.rels w ok rs us bs → ∃ ps : List (Option Nat), ps.length = (obsL rs).length ∧ bs = ps.flatMap Option.toList ∧
    ∀ (m : Mem) (N : Nat), m.w = w → (∀ b, ok b → m.ok b) → Lies m N ps (obsL rs) → AV.rels m (instL N rs) us ∧ ∀ (j : Nat) o, (obsL rs)[j]? = some o → ObRel m o (m.φ (N + j))
  | [], us, bs, h => by
    simp only [RR.rels] at h
    obtain ⟨rfl, rfl⟩ := h
    exact ⟨[], rfl, rfl, fun m N _ _ _ => ⟨by simp [instL, AV.rels], fun j o hj => by simp [obsL] at hj⟩⟩
  | x :: xs, us, bs, h => by
    simp only [RR.rels] at h
    obtain ⟨u, us', b, bs', rfl, rfl, k1, k2⟩ := h
    obtain ⟨ps, a1, a2, a3⟩ := inst_rel x u b k1
    obtain ⟨qs, b1, b2, b3⟩ := instL_rel xs us' bs' k2
    refine ⟨ps ++ qs, by simp [obsL, a1, b1], by simp [a2, b2], fun m N hw hok hL => ?_⟩
    simp only [obsL] at hL ⊢
    obtain ⟨c1, c2⟩ := a3 m N hw hok hL.left
    obtain ⟨d1, d2⟩ := b3 m (N + (obs x).length) hw hok (hL.right a1)
    refine ⟨?_, fun j o hj => ?_⟩
    · simp only [instL, AV.rels]
      exact ⟨u, us', rfl, c1, d1⟩
    · rcases Nat.lt_or_ge j (obs x).length with hlt | hge
      · rw [List.getElem?_append_left hlt] at hj
        exact c2 j o hj
      · rw [List.getElem?_append_right hge] at hj
        have := d2 _ o hj
        rwa [show N + (obs x).length + (j - (obs x).length) = N + j by omega] at this
end
end
theorem flat_nodup_inj {ps : List (Option Nat)} (h : (ps.flatMap Option.toList).Nodup) : ∀ (i j : Nat) g, ps[i]? = some (some g) → ps[j]? = some (some g) → i = j := by
  induction ps with
  | nil => intro i j g hi; simp at hi
  | cons p ps ih =>
    intro i j g hi hj
    rw [List.flatMap_cons, List.nodup_append] at h
    have mem : ∀ (k : Nat), ps[k]? = some (some g) → g ∈ ps.flatMap Option.toList := fun k hk => List.mem_flatMap.2 ⟨some g, List.mem_of_getElem? hk, by simp⟩
    cases i with
    | zero =>
      cases j with
      | zero => rfl
      | succ j =>
        simp at hi hj; subst hi
        exact absurd rfl (h.2.2 g (by simp) g (mem j hj))
    | succ i =>
      cases j with
      | zero =>
        simp at hi hj; subst hj
        exact absurd rfl (h.2.2 g (by simp) g (mem i hi))
      | succ j =>
        simp at hi hj
        rw [ih h.2.1 i j g hi hj]
section
variable {P : Program} {C : Ctx} {ops : Array Oper} {rest : List Oper} {k : List Item} {R : Act → World → Prop} {env : Env} {σ : List Ob} {t : Nat} {ty : TypeId} {pos : String} {after : Array Edge} {gd : Option (Nat × Bool)}
theorem ok_args {m : Mem} (hG : Good C m) : ∀ b, m.w.heap.size ≤ b → m.ok b := fun b hb => ⟨by rw [hG.ok0]; exact hG.frm.new b (Nat.le_trans hG.frm.size hb), fun i hi e => by have := hG.lt hi e; omega⟩
/-- A call whose result, memory of its own, is taken as data. -/
theorem pu_callS {f : FuncId} {fn : Func} {xs : Array Operand} {ats : Array TypeId} {args : List RV} {r : RV} {Rr : RR → Prop} [hfn : FN P f fn] (hf : AC P f args Rr) (hs : ∀ rr, Rr rr → Seals rr r) (ha : FitsL (xs.toList.map (ev env)) args) :
    Pur P C ⟨some t, .call { callee := .value (.func f), args := xs, argTypes := ats }, ty, pos, after, gd⟩ env σ (.ro r) := by
  refine ⟨fun a m hG hσ hH K Q hK => ?_⟩
  have hr := FitsL.rels ha _ (rels_eval (a := a) (m := m) xs.toList fun x hx => hH x (by simp [Op.operands, Call.operands]; exact .inr (by simpa using hx)))
  unfold Oper.wp
  rw [execOp_call_go, run_call hfn]
  simp only [Oper.upon]
  refine (hf m.w m.ok _ (ok_args hG) (by simpa using hr)).mono ?_
  rintro e w' ⟨u, rr, bs, rfl, hR, h1, _, h3, h4⟩
  refine hK u w' h4 ?_
  simp only [AV.rel]
  exact seals_rel (ok' := m.ok) (fun b hb => hb.1) rr r u bs (hs rr hR) h1 fun b hb => ok_args hG b (h3 b hb).1
theorem pu_callSR {f : FuncId} {fn : Func} {xs : Array Operand} {ats : Array TypeId} {args : List RV} {r : RV} {Rr : RR → Prop} [hfn : FN P f fn] (hf : AC P f args Rr) (hs : ∀ rr, Rr rr → Seals rr r) (ha : xs.toList.map (ev env) = args.map .ro) :
    Pur P C ⟨some t, .call { callee := .value (.func f), args := xs, argTypes := ats }, ty, pos, after, gd⟩ env σ (.ro r) := pu_callS hf hs (ha ▸ FitsL.ros args)
/-- A call whose result's rows become the frame's own. -/
theorem op_callO {f : FuncId} {fn : Func} {xs : Array Operand} {ats : Array TypeId} {args : List RV} {rr : RR} [hfn : FN P f fn] (hf : AC P f args fun r => r = rr) (ha : FitsL (xs.toList.map (ev env)) args) (ht : t < C.n)
    (hk : RunsL P C ops rest k R ⟨(t, instA σ.length rr) :: env, σ ++ obs rr⟩) :
    RunsL P C ops (⟨some t, .call { callee := .value (.func f), args := xs, argTypes := ats }, ty, pos, after, none⟩ :: rest) k R ⟨env, σ⟩ := by
  refine ⟨fun a w ⟨s1, s2, φ, hG, hH⟩ => ?_⟩
  refine wpList_plain rfl fun K hK' => ?_
  have hr := FitsL.rels ha _ (rels_eval (a := a) (m := ⟨w, φ, σ, C.ok⟩) xs.toList fun x hx => ev_rel hH x)
  unfold Oper.wp
  rw [execOp_call_go, run_call hfn]
  simp only [Oper.upon]
  refine (hf w _ _ (ok_args hG) (by simpa using hr)).mono ?_
  rintro e w' ⟨u, rr', bs, rfl, rfl, h1, h2, h3, h4⟩
  obtain ⟨ps, p1, p2, p3⟩ := inst_rel rr' u bs h1
  subst p2
  let φ' : Nat → Option Nat := fun i => if i < σ.length then φ i else (ps[i - σ.length]?).getD none
  have e1 : ∀ i, i < σ.length → φ' i = φ i := fun i hi => if_pos hi
  have e2 : ∀ j, φ' (σ.length + j) = (ps[j]?).getD none := fun j => by show (if σ.length + j < σ.length then _ else _) = _; rw [if_neg (by omega)]; simp
  have e3 : ∀ (j g : Nat), φ' (σ.length + j) = some g → ps[j]? = some (some g) := fun j g hg => by
    rw [e2] at hg
    cases hp : ps[j]? with
    | none => simp [hp] at hg
    | some p => simp [hp] at hg; rw [hg]
  have hnew : ∀ (j g : Nat), φ' (σ.length + j) = some g → g ∈ ps.flatMap Option.toList := fun j g hg => List.mem_flatMap.2 ⟨some g, List.mem_of_getElem? (e3 j g hg), by simp⟩
  have hLie : ∀ os, Lies ⟨w', φ', σ ++ os, C.ok⟩ σ.length ps os := fun os => ⟨fun j p hj => by show φ' (σ.length + j) = p; rw [e2, hj]; rfl, fun j o hj => by show (σ ++ os)[σ.length + j]? = _; rw [List.getElem?_append_right (by omega)]; simpa using hj⟩
  have hok : ∀ b, (AV.Mem.ok ⟨w, φ, σ, C.ok⟩ b ∧ b ∉ ps.flatMap Option.toList) → AV.Mem.ok ⟨w', φ', σ ++ obs rr', C.ok⟩ b := fun b hb => ⟨hb.1.1, fun i hi he => by
    simp only at he
    rcases Nat.lt_or_ge i σ.length with hlt | hge
    · exact hb.1.2 i hlt ((e1 i hlt).symm.trans he)
    · exact hb.2 (hnew (i - σ.length) b (by rwa [show σ.length + (i - σ.length) = i by omega]))⟩
  obtain ⟨q1, q2⟩ := p3 ⟨w', φ', σ ++ obs rr', C.ok⟩ σ.length rfl hok (hLie _)
  obtain ⟨g1, g2⟩ := good_grow (φ' := φ') (new := obs rr') hG h4 e1 (fun j hj g hg => (h3 g (hnew j g hg)).1) (fun i j g hi hj ei ej => flat_nodup_inj h2 i j g (e3 i g ei) (e3 j g ej)) q2
  exact hK' _ _ (hk.run _ _ ⟨s1, by simp [Act.put, s2], φ', g1, (hH.keeps g2).put (by rw [s2]; exact ht) q1⟩)
/-! ### What the frame owns, lent to a call. -/
/-- A value of the frame serves as this data while a call reads. -/
def Lends (C : Ctx) (σ : List Ob) (v : AV) (r : RV) : Prop := ∀ (m : Mem) (u : Value) (ok' : Nat → Prop), Good C m → m.σ = σ → (∀ b, m.ok b → ok' b) → (∀ (i g : Nat), i < σ.length → m.φ i = some g → ok' g) → AV.rel m v u → RV.rel m.w ok' r u
inductive LendsL (C : Ctx) (σ : List Ob) : List AV → List RV → Prop
  | nil : LendsL C σ [] []
  | cons {v : AV} {r : RV} {vs : List AV} {rs : List RV} : Lends C σ v r → LendsL C σ vs rs → LendsL C σ (v :: vs) (r :: rs)
theorem Lends.fits {v : AV} {r : RV} (h : Fits v r) : Lends C σ v r := fun m u _ _ _ h1 _ hu => RV.rel_mono ⟨Nat.le_refl _, fun b _ hb => ⟨h1 b hb, rfl⟩⟩ r u (h m u hu)
theorem Lends.ro {r : RV} : Lends C σ (.ro r) r := Lends.fits (Fits.ro r)
theorem Lends.nil (sz : Nat) : Lends C σ (.ro .nil) (.seq sz []) := Lends.fits (Fits.nil sz)
theorem LendsL.rels {m : Mem} {ok' : Nat → Prop} (hG : Good C m) (hσ : m.σ = σ) (k1 : ∀ b, m.ok b → ok' b) (k2 : ∀ (i g : Nat), i < σ.length → m.φ i = some g → ok' g) {vs : List AV} {rs : List RV} (h : LendsL C σ vs rs) : ∀ us, AV.rels m vs us → RV.rels m.w ok' rs us := by
  induction h with
  | nil => intro us hu; simpa [AV.rels, RV.rels] using hu
  | cons h1 _ ih =>
    intro us hu
    simp only [AV.rels] at hu
    obtain ⟨u, us', rfl, k3, k4⟩ := hu
    simp only [RV.rels]
    exact ⟨u, us', rfl, h1 m u ok' hG hσ k1 k2 k3, ih us' k4⟩
theorem Lends.agg {vs : List AV} {rs : List RV} (h : LendsL C σ vs rs) : Lends C σ (.agg vs) (.agg rs) := fun m u ok' hG hσ k1 k2 hu => by
  simp only [AV.rel, RV.rel] at hu ⊢
  obtain ⟨us, e, hr⟩ := hu
  exact ⟨us, e, h.rels hG hσ k1 k2 _ hr⟩
theorem Lends.tup {vs : List AV} {rs : List RV} (h : LendsL C σ vs rs) : Lends C σ (.tup vs) (.tup rs) := fun m u ok' hG hσ k1 k2 hu => by
  simp only [AV.rel, RV.rel] at hu ⊢
  obtain ⟨us, e, hr⟩ := hu
  exact ⟨us, e, h.rels hG hσ k1 k2 _ hr⟩
theorem LendsL.ros : ∀ rs : List RV, LendsL C σ (rs.map .ro) rs
  | [] => .nil
  | _ :: rs => .cons .ro (LendsL.ros rs)
/-- A pointer at an object, whose cells from there on serve as data. -/
theorem Lends.obj {i off : Nat} {o : Ob} {rs : List RV} (ho : σ[i]? = some o) (h : LendsL C σ (o.cs.drop off) rs) : Lends C σ (.obj i off) (.rp rs) := fun m u ok' hG hσ k1 k2 hu => by
  simp only [AV.rel] at hu
  obtain ⟨hi, g, hg, rfl⟩ := hu
  have hob := hG.ob i o (by rw [hσ]; exact ho)
  rw [hg] at hob
  obtain ⟨us, q1, q2, q3⟩ := hob
  simp only [RV.rel]
  refine ⟨g, off, rfl, hG.lt hi hg, k2 i g (by rw [← hσ]; exact hi) hg, ?_⟩
  have key : ∀ {vs : List AV} {rs : List RV}, LendsL C σ vs rs → ∀ (k : Nat), (∀ (j : Nat) v, vs[j]? = some v → o.cs[k + j]? = some v) → RV.relAt m.w ok' g k rs := by
    intro vs rs h
    induction h with
    | nil => intro k _; simp [RV.relAt]
    | cons h1 _ ih =>
      intro k hk
      simp only [RV.relAt]
      obtain ⟨x, e1, e2, e3⟩ := q3 k _ (hk 0 _ rfl)
      refine ⟨⟨x, by rw [cell_of_row _ g k us _ _ q1]; exact e1, e2, h1 m x ok' hG hσ k1 k2 e3⟩, ih (k + 1) fun j v hj => ?_⟩
      have := hk (j + 1) v (by simpa using hj)
      rwa [show k + (j + 1) = k + 1 + j by omega] at this
  exact key h off fun j v hj => by rwa [List.getElem?_drop] at hj
/-- A row of the frame's own. -/
theorem Lends.own {i : Nat} {o : Ob} {els : List (List RV)} (ho : σ[i]? = some o) (h : o.cs = els.flatten.map .ro) (hl : ∀ x ∈ els, x.length = o.sz) : Lends C σ (.own i) (.seq o.sz els) := fun m u ok' hG hσ k1 k2 hu => by
  have hrow := row_own (cs := els.flatten) (e := o.t) (sz := o.sz) hG (by rw [hσ, ho]; cases o; simp_all) hu
  obtain ⟨n, xs, h1, h2, h3, h4, h5, h6⟩ := hrow
  refine seals_rel (ok := m.ok) k1 (.row o.t o.sz els.flatten) (.seq o.sz els) u u.ownBlock.toList (by simp only [Seals]; exact ⟨els, rfl, rfl, hl⟩) (by simp only [RR.rel]; exact ⟨n, xs, h1, h2, h3, h4, h5, trivial⟩) fun b hb => ?_
  rw [h6] at hb
  exact k2 i b (List.getElem?_eq_some_iff.1 ho).1 (by simpa [Option.mem_toList] using hb)
/-- Data that speaks of no memory. -/
def flat : RV → Bool
  | .c _ => true
  | _ => false
/-- A call that reads what the frame owns, and returns a plain value. -/
theorem pu_callL {f : FuncId} {fn : Func} {xs : Array Operand} {ats : Array TypeId} {args : List RV} {v : Value} [hfn : FN P f fn] (hf : ACv P f args (.c v)) (ha : LendsL C σ (xs.toList.map (ev env)) args) :
    Pur P C ⟨some t, .call { callee := .value (.func f), args := xs, argTypes := ats }, ty, pos, after, gd⟩ env σ (.ro (.c v)) := by
  refine ⟨fun a m hG hσ hH K Q hK => ?_⟩
  have hr := LendsL.rels (ok' := fun _ => True) hG hσ (fun _ _ => trivial) (fun _ _ _ _ => trivial) ha _ (rels_eval (a := a) (m := m) xs.toList fun x hx => hH x (by simp [Op.operands, Call.operands]; exact .inr (by simpa using hx)))
  unfold Oper.wp
  rw [execOp_call_go, run_call hfn]
  simp only [Oper.upon]
  refine (hf m.w (fun _ => True) _ (fun _ _ => trivial) (by simpa using hr)).mono ?_
  rintro e w' ⟨u, rr, bs, rfl, rfl, h1, _, _, h4⟩
  simp only [RR.rel, RV.rel] at h1
  refine hK u w' h4 ?_
  simp only [AV.rel, RV.rel]
  exact h1.1
/-- A function value, called. -/
theorem pu_callF {f : FuncId} {fn : Func} {x : Operand} {xs : Array Operand} {ats : Array TypeId} {args : List RV} {v : Value} {first cap : List AV} [hfn : FN P f fn] (hx : ev env x = .fn (.func f) first cap) (hf : ACv P f args (.c v)) (ha : LendsL C σ (first ++ xs.toList.map (ev env) ++ cap) args) :
    Pur P C ⟨some t, .call { callee := .value x, args := xs, argTypes := ats }, ty, pos, after, gd⟩ env σ (.ro (.c v)) := by
  refine ⟨fun a m hG hσ hH K Q hK => ?_⟩
  have h0 := hH x (by simp [Op.operands, Call.operands])
  rw [hx] at h0
  simp only [AV.rel] at h0
  obtain ⟨us, vs, e, hu, hv⟩ := h0
  have hm := rels_eval (a := a) (m := m) xs.toList fun x hx => hH x (by simp [Op.operands, Call.operands]; exact .inr (by simpa using hx))
  have app : ∀ {xs ys : List AV} {us vs : List Value}, AV.rels m xs us → AV.rels m ys vs → AV.rels m (xs ++ ys) (us ++ vs) := by
    intro xs
    induction xs with
    | nil => intro ys us vs h1 h2; simp only [AV.rels] at h1; subst h1; simpa using h2
    | cons x xs ih =>
      intro ys us vs h1 h2
      simp only [AV.rels] at h1
      obtain ⟨u, us', rfl, k1, k2⟩ := h1
      simp only [List.cons_append, AV.rels]
      exact ⟨u, us' ++ vs, rfl, k1, ih k2 h2⟩
  have hr := LendsL.rels (ok' := fun _ => True) hG hσ (fun _ _ => trivial) (fun _ _ _ _ => trivial) ha _ (app (app hu hm) hv)
  unfold Oper.wp execOp
  simp only [resolve, e, Deferred.ofValue, Sem.run_bind, Sem.run_pure, Result.andThen_ok, invoke]
  rw [run_call hfn]
  simp only [Oper.upon]
  refine (hf m.w (fun _ => True) _ (fun _ _ => trivial) (by simpa using hr)).mono ?_
  rintro e w' ⟨u, rr, bs, rfl, rfl, h1, _, _, h4⟩
  simp only [RR.rel, RV.rel] at h1
  refine hK u w' h4 ?_
  simp only [AV.rel, RV.rel]
  exact h1.1
theorem pu_makeFunc {f : Fn} {first cap : Array Operand} : Pur P C ⟨some t, .makeFunc f first cap, ty, pos, after, gd⟩ env σ (.fn f (first.toList.map (ev env)) (cap.toList.map (ev env))) :=
  Pur.of fun a m hG hσ hH => by
    refine ⟨.func f (first.map a.eval) (cap.map a.eval), by simp [execOp, Instr.makeFunc], ?_⟩
    simp only [AV.rel]
    exact ⟨_, _, rfl, by simpa using rels_eval (a := a) (m := m) first.toList fun x hx => hH x (by simp [Op.operands]; exact .inl (by simpa using hx)), by simpa using rels_eval (a := a) (m := m) cap.toList fun x hx => hH x (by simp [Op.operands]; exact .inr (by simpa using hx))⟩
end
end Go.Proofs.Ytkhnijggbfoimaa
/- Opening the arguments of a law: a byte, an integer, a slice of bytes or of integers. -/
namespace Go.Proofs.Ytkhnijggbfoimaa
set_option linter.unusedSimpArgs false
set_option linter.unusedVariables false
open Go.ChangeShapes Go.WideShapes Go.RowKit
theorem u8_of_wf {n : Int} (h : (Lit.int .u8 n).wf = true) : ∃ c : UInt8, n = (c.toNat : Int) := by
  have := bounds_u8 h
  refine ⟨UInt8.ofNat n.toNat, ?_⟩
  simp; omega
theorem u8s_of_wf : ∀ (zs : List Int), (∀ n ∈ zs, (Lit.int .u8 n).wf = true) → ∃ bs : List UInt8, zs = bs.map (fun c => (c.toNat : Int))
  | [], _ => ⟨[], rfl⟩
  | z :: zs, h => by
    obtain ⟨c, rfl⟩ := u8_of_wf (h z (by simp))
    obtain ⟨bs, rfl⟩ := u8s_of_wf zs (fun n hn => h n (by simp [hn]))
    exact ⟨c :: bs, rfl⟩
section
variable {H : Type} {enc : TypeId × Value → H} {P : Program} {w : World} {base b0 : Nat} {spare : Nat → Bool} {held : Bool} {r : Reach}
theorem addr_plain {x : Addr} {b : Value} (h : w.cell? (x.add 0) = some b) : x = ⟨x.block, x.off, none⟩ := by
  obtain ⟨bl, off, spot⟩ := x
  have : spot = none := by
    simp only [Addr.add, if_true, World.cell?] at h
    cases spot with
    | none => rfl
    | some s => split at h <;> simp at h
  subst this; rfl
theorem add_lit (b o j : Nat) : (⟨b, o, none⟩ : Addr).add j = ⟨b, o + j, none⟩ := by unfold Addr.add; split <;> simp_all
/-- The first len cells of a slice of integers that came in, at its address. -/
theorem rd_ints {k : IntKind} {x : Addr} {len cap : Nat} {zs : List Int} (hl : len ≤ cap) (hz : zs.length = len ∨ zs.length = cap)
    (hc : ∀ i, i < zs.length → w.cell? (x.add i) = some (.int k (zs.getD i 0))) : Rd w 1 (some x) len ((zs.take len).map (Value.int k)) := by
  refine ⟨by simp; omega, fun hn => ?_⟩
  have h0 := hc 0 (by omega)
  have hx := addr_plain h0
  refine ⟨x.block, x.off, by rw [← hx], fun j u hu => ?_⟩
  have hj : j < len := by
    rcases Nat.lt_or_ge j len with h | h
    · exact h
    · rw [List.getElem?_eq_none (by simp; omega)] at hu; cases hu
  have hjz : j < zs.length := by omega
  have h1 := hc j hjz
  rw [hx, add_lit] at h1
  rw [List.getElem?_map, List.getElem?_take, if_pos hj, List.getElem?_eq_getElem hjz] at hu
  rw [h1, ← hu]; simp [List.getD_eq_getElem?_getD, hjz]
theorem open_bytes {t e : TypeId} {v : Value} {d : DataW H} {p : List MemPlace} (ht : P.underlying t = some (.slice e)) (he : P.underlying e = some (.int .u8)) (hc : P.cellsOf e = 1)
    (hv : Value.okWide P w r b0 t v) (h : DataW.Trod enc P w base spare held t v d p) :
    ∃ (A : Option Addr) (n c : Nat) (bs : List UInt8), v = .slice A n c ∧ RdB w A n bs ∧ n ≤ c ∧ c ≤ maxLen := by
  obtain ⟨a, len, cap, rfl⟩ := okWide_slice ht hv
  obtain ⟨fuel, hf⟩ := h
  rcases open_ints ht he hc hf with ⟨hcs, _⟩ | ⟨x, l, c, zs, hcs, _, hl, hm, hz, _, hcell, hwz⟩
  · simp [Value.cells] at hcs
    obtain ⟨rfl, rfl, rfl⟩ := hcs
    exact ⟨_, _, _, [], rfl, Rd.nil _ _ _, Nat.le_refl _, Nat.zero_le _⟩
  · simp [Value.cells] at hcs
    obtain ⟨rfl, rfl, rfl⟩ := hcs
    have hR := rd_ints (w := w) (k := .u8) hl (by split at hz <;> simp [hz]) hcell
    obtain ⟨bs, hbs⟩ := u8s_of_wf (zs.take len) (fun n hn => hwz n (List.mem_of_mem_take hn))
    refine ⟨_, _, _, bs, rfl, ?_, hl, hm⟩
    rw [hbs, List.map_map] at hR
    exact hR
theorem open_intS {t e : TypeId} {v : Value} {d : DataW H} {p : List MemPlace} (ht : P.underlying t = some (.slice e)) (he : P.underlying e = some (.int .i64)) (hc : P.cellsOf e = 1)
    (hv : Value.okWide P w r b0 t v) (h : DataW.Trod enc P w base spare held t v d p) :
    ∃ (A : Option Addr) (n c : Nat) (zs : List Int), v = .slice A n c ∧ RdI w A n zs ∧ n ≤ c ∧ c ≤ maxLen ∧ ∀ z ∈ zs, -9223372036854775808 ≤ z ∧ z ≤ 9223372036854775807 := by
  obtain ⟨a, len, cap, rfl⟩ := okWide_slice ht hv
  obtain ⟨fuel, hf⟩ := h
  rcases open_ints ht he hc hf with ⟨hcs, _⟩ | ⟨x, l, c, zs, hcs, _, hl, hm, hz, _, hcell, hwz⟩
  · simp [Value.cells] at hcs
    obtain ⟨rfl, rfl, rfl⟩ := hcs
    exact ⟨_, _, _, [], rfl, Rd.nil _ _ _, Nat.le_refl _, Nat.zero_le _, by simp⟩
  · simp [Value.cells] at hcs
    obtain ⟨rfl, rfl, rfl⟩ := hcs
    exact ⟨_, _, _, zs.take len, rfl, rd_ints (w := w) (k := .i64) hl (by split at hz <;> simp [hz]) hcell, hl, hm, fun z hz => bounds_i64 (hwz z (List.mem_of_mem_take hz))⟩
end
end Go.Proofs.Ytkhnijggbfoimaa
/- What comes in as an argument, of whatever plain type, reads as data. Over any program. -/
namespace Go.Proofs.Ytkhnijggbfoimaa
set_option linter.unusedSimpArgs false
set_option linter.unusedVariables false
open Go.RowKit Go.ChangeShapes Go.WideShapes
def tile (P : Program) : Nat → List Field → Nat → Bool
  | o, [], n => Nat.beq o n
  | o, f :: fs, n => Nat.beq f.offset o && tile P (o + P.cellsOf f.type) fs n
def typB (P : Program) (T : List Nat) (t : Nat) : Bool := match P.underlying t with
  | some (.int _) | some .bool | some .string => Nat.beq (P.cellsOf t) 1
  | some (.slice e) => nmem T e && Nat.beq (P.cellsOf t) 1 && Nat.ble 1 (P.cellsOf e)
  | some (.struct fs) => fs.toList.all (fun f => nmem T f.type) && tile P 0 fs.toList (P.cellsOf t)
  | _ => false
/-- Data of a plain type: the cells of a value of it. -/
inductive TyC (P : Program) : TypeId → List RV → Prop
  | int {t : TypeId} {k : IntKind} {n : Int} (h : P.underlying t = some (.int k)) (wf : (Lit.int k n).wf = true) : TyC P t [.c (.int k n)]
  | bool {t : TypeId} {b : Bool} (h : P.underlying t = some .bool) : TyC P t [.bool b]
  | str {t : TypeId} {s : ByteArray} (h : P.underlying t = some .string) (hs : s.size ≤ maxLen) : TyC P t [.str s]
  | slice {t e : TypeId} {els : List (List RV)} (h : P.underlying t = some (.slice e)) (hl : els.length ≤ maxLen) (hels : ∀ el ∈ els, TyC P e el) : TyC P t [.seq (P.cellsOf e) els]
  | struct {t : TypeId} {fs : Array Field} {cells : List (List RV)} (h : P.underlying t = some (.struct fs)) (hl : cells.length = fs.size) (hc : ∀ (j : Nat) f c, fs[j]? = some f → cells[j]? = some c → TyC P f.type c) : TyC P t cells.flatten
section
variable {w : World} {ok : Nat → Prop}
theorem rels_app : ∀ {ps bs : List RV} {us vs : List Value}, RV.rels w ok ps us → RV.rels w ok bs vs → RV.rels w ok (ps ++ bs) (us ++ vs)
  | [], bs, us, vs, h1, h2 => by simp only [RV.rels] at h1; subst h1; simpa using h2
  | a :: ps, bs, us, vs, h1, h2 => by
    simp only [RV.rels] at h1
    obtain ⟨u, us', rfl, k1, k2⟩ := h1
    simp only [List.cons_append, RV.rels]
    exact ⟨u, us' ++ vs, rfl, k1, rels_app k2 h2⟩
end
theorem list_of' {α : Type} {Q : Nat → α → Prop} : ∀ n, (∀ i, i < n → ∃ x, Q i x) → ∃ l : List α, l.length = n ∧ ∀ (i : Nat) x, l[i]? = some x → Q i x := by
  intro n
  induction n with
  | zero => intro _; exact ⟨[], rfl, fun i x h => by simp at h⟩
  | succ n ih =>
    intro h
    obtain ⟨l, hl, hP⟩ := ih (fun i hi => h i (by omega))
    obtain ⟨x, hx⟩ := h n (by omega)
    refine ⟨l ++ [x], by simp [hl], fun i y hi => ?_⟩
    rcases Nat.lt_or_ge i n with hlt | hge
    · rw [List.getElem?_append_left (by omega)] at hi; exact hP i y hi
    · rw [List.getElem?_append_right (by omega), hl] at hi
      have : i - n = 0 := by have := (List.getElem?_eq_some_iff.1 hi).1; simp at this; omega
      rw [this] at hi; simp at hi; subst hi
      have : i = n := by omega
      subst this; exact hx
section
variable {H : Type} {enc : TypeId × Value → H} {P : Program} {w : World} {base b0 : Nat} {spare : Nat → Bool} {held : Bool} {r : Reach} {T : List Nat}
theorem open_fields {cs : List Value} {total : Nat} (hcs : cs.length = total) : ∀ (fs : List Field) (o : Nat), tile P o fs total = true →
    (∀ f ∈ fs, ∃ rc, TyC P f.type rc ∧ RV.Rels w rc ((cs.drop f.offset).take (P.cellsOf f.type)) ∧ ∀ u ∈ (cs.drop f.offset).take (P.cellsOf f.type), u.oneCell' = true) →
    ∃ cells : List (List RV), cells.length = fs.length ∧ (∀ (j : Nat) f c, fs[j]? = some f → cells[j]? = some c → TyC P f.type c) ∧ RV.Rels w cells.flatten (cs.drop o) ∧ ∀ u ∈ cs.drop o, u.oneCell' = true
  | [], o, ht, _ => by
    simp only [tile] at ht
    have := Nat.eq_of_beq_eq_true ht
    have e : cs.drop o = [] := List.drop_eq_nil_of_le (by omega)
    rw [e]
    exact ⟨[], rfl, fun j f c h => by simp at h, by simp [RV.rels], by simp⟩
  | f :: fs, o, ht, h => by
    simp only [tile, Bool.and_eq_true] at ht
    have ho := Nat.eq_of_beq_eq_true ht.1
    obtain ⟨rc, h1, h2, h3⟩ := h f (by simp)
    obtain ⟨cells, k1, k2, k3, k4⟩ := open_fields hcs fs _ ht.2 (fun g hg => h g (by simp [hg]))
    rw [ho] at h2 h3
    have e : cs.drop o = (cs.drop o).take (P.cellsOf f.type) ++ cs.drop (o + P.cellsOf f.type) := by
      rw [← List.drop_drop, List.take_append_drop]
    refine ⟨rc :: cells, by simp [k1], fun j g c hj hc => ?_, ?_, ?_⟩
    · cases j with
      | zero => simp at hj hc; subst hj; subst hc; exact h1
      | succ j => simp at hj hc; exact k2 j g c hj hc
    · rw [e, List.flatten_cons]; exact rels_app h2 k3
    · rw [e]
      intro u hu
      rcases List.mem_append.1 hu with h | h
      · exact h3 u h
      · exact k4 u h
theorem open_ty (hT : (T.all (typB P T)) = true) : ∀ (fuel : Nat) (t : TypeId) (cs : List Value) (x : DataW H × List MemPlace), nmem T t = true → DataW.trod enc P w base spare held fuel t cs = some x →
    ∃ rcs, TyC P t rcs ∧ RV.Rels w rcs cs ∧ ∀ u ∈ cs, u.oneCell' = true := by
  intro fuel
  induction fuel with
  | zero => intro t cs x _ h; simp [DataW.trod] at h
  | succ fuel ih =>
    intro t cs x ht h
    have hb := List.all_eq_true.1 hT _ (nmem_mem ht)
    unfold typB at hb
    split at hb
    · rename_i k hu
      obtain ⟨n, rfl, _, wf⟩ := DataW.trod_int hu h
      exact ⟨[.c (.int k n)], .int hu wf, by simp [RV.rels, RV.rel], by simp [Value.oneCell']⟩
    · rename_i hu
      obtain ⟨b, rfl, _⟩ := DataW.trod_bool hu h
      exact ⟨[.bool b], .bool hu, by simp [RV.rels, RV.rel], by simp [Value.oneCell']⟩
    · rename_i hu
      obtain ⟨s, rfl, _, hs⟩ := DataW.trod_string hu h
      exact ⟨[.str s], .str hu hs, by simp [RV.rels, RV.rel], by simp [Value.oneCell']⟩
    · rename_i e hu
      simp only [Bool.and_eq_true] at hb
      have hpos := Nat.le_of_ble_eq_true hb.2
      rcases DataW.trod_slice hu h with ⟨rfl, _⟩ | ⟨a, len, cap, elems, rest, n, hf, rfl, _, _, h1, h2, h3, h4, _⟩
      · refine ⟨[.seq (P.cellsOf e) []], .slice hu (Nat.zero_le _) (by simp), ?_, by simp [Value.oneCell']⟩
        simp only [RV.rels, RV.rel]
        exact ⟨_, _, rfl, ⟨none, 0, 0, rfl, rfl, Nat.le_refl _, Nat.zero_le _, fun h => absurd h (by omega)⟩, rfl⟩
      · have hn : n = fuel := by omega
        subst hn
        have hel : ∀ i, i < len → ∃ rc : List RV, TyC P e rc ∧ rc.length = P.cellsOf e ∧ ∀ (j : Nat) rr, rc[j]? = some rr → ∃ u, w.cell? (a.add (i * P.cellsOf e + j)) = some u ∧ u.oneCell' = true ∧ RV.Rel w rr u := by
          intro i hi
          have h5 := h4 i hi
          rw [List.getElem?_eq_getElem (by omega : i < elems.length)] at h5
          obtain ⟨cs', hc', ht'⟩ := Option.bind_eq_some_iff.1 h5
          obtain ⟨rc, r1, r2, r3⟩ := ih e cs' _ hb.1.1 ht'
          obtain ⟨_, hl', hat⟩ := World.cells?_some hc'
          have hlen := RV.rels_len rc cs' r2
          refine ⟨rc, r1, by omega, fun j rr hj => ?_⟩
          obtain ⟨u, e1, e2⟩ := RV.rels_at rc cs' r2 j rr hj
          have hjl := (List.getElem?_eq_some_iff.1 hj).1
          refine ⟨u, ?_, r3 u (List.mem_of_getElem? e1), e2⟩
          rw [← Go.Deep.add_add, hat j (by omega), e1]
        obtain ⟨els, l1, l2⟩ := list_of' len hel
        refine ⟨[.seq (P.cellsOf e) els], .slice hu (by omega) (fun el hel => ?_), ?_, by simp [Value.oneCell']⟩
        · obtain ⟨i, hi, rfl⟩ := List.getElem_of_mem hel
          exact (l2 i _ (List.getElem?_eq_getElem hi)).1
        · simp only [RV.rels, RV.rel]
          refine ⟨_, _, rfl, ⟨some a, len, cap, rfl, l1.symm, h1, h2, fun hn => ?_⟩, rfl⟩
          obtain ⟨rc0, q1, q2, q3⟩ := hel 0 hn
          obtain ⟨u0, q4, _⟩ := q3 0 rc0[0] (List.getElem?_eq_getElem (by omega))
          have hx := addr_plain (x := a) (w := w) (b := u0) (by simpa using q4)
          refine ⟨a.block, a.off, by rw [← hx], ?_, trivial, RV.relE_of _ _ _ fun k el hk => ?_⟩
          · rw [Nat.zero_mul, Nat.zero_add] at q4
            have := World.block_lt_of_cell? w _ q4
            rwa [hx, add_lit] at this
          · obtain ⟨_, z1, z2⟩ := l2 k el hk
            refine ⟨z1, RV.relAt_of _ _ fun j rr hj => ?_⟩
            obtain ⟨u, e1, e2, e3⟩ := z2 j rr hj
            rw [hx, add_lit] at e1
            exact ⟨u, by rw [Nat.add_assoc]; exact e1, e2, e3⟩
    · rename_i fs hu
      simp only [Bool.and_eq_true] at hb
      obtain ⟨xs, n, hf, _, hl, hxl, hfl⟩ := DataW.trod_struct hu h
      have hn : n = fuel := by omega
      subst hn
      obtain ⟨cells, c1, c2, c3, c4⟩ := open_fields (P := P) (w := w) hl fs.toList 0 hb.2 (fun f hfm => by
        obtain ⟨i, hi, rfl⟩ := List.getElem_of_mem hfm
        have hi' : i < fs.size := by simpa using hi
        have h5 := hfl i fs.toList[i] (by simp [hi'])
        rw [List.getElem?_eq_getElem (by omega : i < xs.length)] at h5
        exact ih _ _ _ (List.all_eq_true.1 hb.1 _ hfm) h5)
      simp only [List.drop_zero] at c3 c4
      exact ⟨_, .struct hu (by simpa using c1) (fun j f c hj hc => c2 j f c (by simpa using hj) hc), c3, c4⟩
    · cases hb
/-- A whole argument. -/
theorem open_arg (hT : (T.all (typB P T)) = true) {t : TypeId} (ht : nmem T t = true) {v : Value} {d : DataW H} {p : List MemPlace} (h : DataW.Trod enc P w base spare held t v d p) :
    ∃ rcs, TyC P t rcs ∧ RV.Rels w rcs v.cells.toList ∧ ∀ u ∈ v.cells.toList, u.oneCell' = true := by
  obtain ⟨fuel, hf⟩ := h
  exact open_ty hT fuel t _ _ ht hf
end
section
variable {P : Program} {t e : TypeId} {rcs : List RV}
theorem TyC.inv_int {k : IntKind} (h : TyC P t rcs) (hu : P.underlying t = some (.int k)) : ∃ n, rcs = [.c (.int k n)] ∧ (Lit.int k n).wf = true := by
  cases h with
  | int h wf => rw [hu] at h; injection h with h; injection h with h; subst h; exact ⟨_, rfl, wf⟩
  | bool h => rw [hu] at h; cases h
  | str h => rw [hu] at h; cases h
  | slice h => rw [hu] at h; cases h
  | struct h => rw [hu] at h; cases h
theorem TyC.inv_bool (h : TyC P t rcs) (hu : P.underlying t = some .bool) : ∃ b, rcs = [.bool b] := by
  cases h with
  | int h wf => rw [hu] at h; cases h
  | bool h => exact ⟨_, rfl⟩
  | str h => rw [hu] at h; cases h
  | slice h => rw [hu] at h; cases h
  | struct h => rw [hu] at h; cases h
theorem TyC.inv_str (h : TyC P t rcs) (hu : P.underlying t = some .string) : ∃ s, rcs = [.str s] ∧ s.size ≤ maxLen := by
  cases h with
  | int h wf => rw [hu] at h; cases h
  | bool h => rw [hu] at h; cases h
  | str h hs => exact ⟨_, rfl, hs⟩
  | slice h => rw [hu] at h; cases h
  | struct h => rw [hu] at h; cases h
theorem TyC.inv_slice (h : TyC P t rcs) (hu : P.underlying t = some (.slice e)) : ∃ els, rcs = [.seq (P.cellsOf e) els] ∧ els.length ≤ maxLen ∧ ∀ el ∈ els, TyC P e el := by
  cases h with
  | int h wf => rw [hu] at h; cases h
  | bool h => rw [hu] at h; cases h
  | str h => rw [hu] at h; cases h
  | slice h hl hels => rw [hu] at h; injection h with h; injection h with h; subst h; exact ⟨_, rfl, hl, hels⟩
  | struct h => rw [hu] at h; cases h
theorem TyC.inv_struct {fs : Array Field} (h : TyC P t rcs) (hu : P.underlying t = some (.struct fs)) : ∃ cells : List (List RV), rcs = cells.flatten ∧ cells.length = fs.size ∧ ∀ (j : Nat) f c, fs[j]? = some f → cells[j]? = some c → TyC P f.type c := by
  cases h with
  | int h wf => rw [hu] at h; cases h
  | bool h => rw [hu] at h; cases h
  | str h => rw [hu] at h; cases h
  | slice h => rw [hu] at h; cases h
  | struct h hl hc => rw [hu] at h; injection h with h; injection h with h; subst h; exact ⟨_, rfl, hl, hc⟩
/-- Elements of which each is such cells: a list. -/
theorem els_of {α : Type} {f : α → List RV} {Q : α → Prop} : ∀ {els : List (List RV)}, (∀ el ∈ els, ∃ x, el = f x ∧ Q x) → ∃ l : List α, els = l.map f ∧ ∀ x ∈ l, Q x
  | [], _ => ⟨[], rfl, by simp⟩
  | el :: els, h => by
    obtain ⟨x, rfl, hx⟩ := h el (by simp)
    obtain ⟨l, e, hl⟩ := els_of (els := els) (fun e he => h e (List.mem_cons_of_mem _ he))
    exact ⟨x :: l, by rw [e]; rfl, by simpa using ⟨hx, hl⟩⟩
end
end Go.Proofs.Ytkhnijggbfoimaa
/- Loops over values, and tests that are decided. Over any program. -/
namespace Go.Proofs.Ytkhnijggbfoimaa
set_option linter.unusedSimpArgs false
set_option linter.unusedVariables false
open Go.RowKit
section
variable {P : Program} {C : Ctx} {ops : Array Oper} {rest : List Oper} {k : List Item} {R : Act → World → Prop} {env : Env} {σ : List Ob} {t : Nat} {ty : TypeId} {pos : String} {after : Array Edge}
section
variable {x y : Code} {φ : Prop} [Decidable φ]
theorem Runs.cond_yes (hc : look env t = .bool (decide φ)) (hφ : φ) (h : Runs P C (.code x :: k) R ⟨(t, .bool true) :: env, σ⟩) : Runs P C (.code (.cond (.tmp t) x y) :: k) R ⟨env, σ⟩ := Runs.cond_dec hc (fun _ => h) (fun h => absurd hφ h)
theorem Runs.cond_no (hc : look env t = .bool (decide φ)) (hφ : ¬ φ) (h : Runs P C (.code y :: k) R ⟨(t, .bool false) :: env, σ⟩) : Runs P C (.code (.cond (.tmp t) x y) :: k) R ⟨env, σ⟩ := Runs.cond_dec hc (fun h => absurd h hφ) (fun _ => h)
theorem Runs.cond_nyes (hc : look env t = .bool (!decide φ)) (hφ : ¬ φ) (h : Runs P C (.code x :: k) R ⟨(t, .bool true) :: env, σ⟩) : Runs P C (.code (.cond (.tmp t) x y) :: k) R ⟨env, σ⟩ := Runs.cond_ndec hc (fun _ => h) (fun h => absurd h hφ)
theorem Runs.cond_nno (hc : look env t = .bool (!decide φ)) (hφ : φ) (h : Runs P C (.code y :: k) R ⟨(t, .bool false) :: env, σ⟩) : Runs P C (.code (.cond (.tmp t) x y) :: k) R ⟨env, σ⟩ := Runs.cond_ndec hc (fun h => absurd hφ h) (fun _ => h)
end
/-- A place lies in the frame. -/
theorem tl {C : Ctx} {t m : Nat} (hn : C.n = m) (h : Nat.ble (t + 1) m = true) : t < C.n := Nat.lt_of_lt_of_eq (Nat.le_of_ble_eq_true h) hn.symm
theorem RunsL.pe {o : Oper} {m : Nat} (hn : C.n = m) (hg : o.guard = none) (hd : o.dst = some t) (ht : Nat.ble (t + 1) m = true) (h : ∃ v, Pur P C o env σ v ∧ RunsL P C ops rest k R ⟨(t, v) :: env, σ⟩) : RunsL P C ops (o :: rest) k R ⟨env, σ⟩ := by
  obtain ⟨v, h, hk⟩ := h
  exact RunsL.pur h hg hd (tl hn ht) hk
theorem RunsD.pe {o : Oper} (hg : gsay ops env o.guard = some true) (hd : o.dst = some t) (h : ∃ v, Pur P C o env σ v ∧ RunsD P C ops rest k R ⟨(t, v) :: env, σ⟩) : RunsD P C ops (o :: rest) k R ⟨env, σ⟩ := by
  obtain ⟨v, h, hk⟩ := h
  exact RunsD.pur h hg hd hk
/-- A loop that counts: E j and s j are the frame at its head, Q j what holds there. -/
theorem Runs.loopN (m : Nat) {c : Code} {k' : List Item} (hc : Proofs.Ytkhnijggbfoimaa.ctls m k = .code (.loop c) :: k') (E : Nat → Env) (s : Nat → List Ob) (Q : Nat → Prop) (len : Nat) (j0 : Nat) (hj0 : j0 ≤ len) (h0 : Q j0) (henv : Sub (E j0) env) (hs : s j0 = σ)
    (round : ∀ j, j ≤ len → Q j → (∀ env' σ', Sub (E (j + 1)) env' → j < len → Q (j + 1) → s (j + 1) = σ' → Runs P C (.inLoop c :: k') R ⟨env', σ'⟩) → Runs P C (.code c :: .inLoop c :: k') R ⟨E j, s j⟩) :
    Runs P C k R ⟨env, σ⟩ := by
  refine Runs.ctls m hc ?_
  subst hs
  refine Runs.keep (E j0) henv ?_
  refine Runs.loop (fun n S => ∃ j, j + n = len ∧ Q j ∧ S = ⟨E j, s j⟩) (fun n S hI ih => ?_) (len - j0) ⟨j0, by omega, h0, rfl⟩
  obtain ⟨j, hj, hQ, rfl⟩ := hI
  refine round j (by omega) hQ fun env' σ' hsub hlt hQ' hσ => ?_
  subst hσ
  exact Runs.keep _ hsub (ih (n - 1) (by omega) _ ⟨j + 1, by omega, hQ', rfl⟩)
/-- A loop whose frame at the head is known up to some data: I n E' s' holds of it, n goes down. -/
theorem Runs.loopI (m : Nat) {c : Code} {k' : List Item} (hc : Proofs.Ytkhnijggbfoimaa.ctls m k = .code (.loop c) :: k') (I : Nat → Env → List Ob → Prop) (n : Nat) (env0 : Env) (henv : Sub env0 env) (h0 : I n env0 σ)
    (round : ∀ n E s, I n E s → (∀ n' E' env' s', n' < n → I n' E' s' → Sub E' env' → Runs P C (.inLoop c :: k') R ⟨env', s'⟩) → Runs P C (.code c :: .inLoop c :: k') R ⟨E, s⟩) :
    Runs P C k R ⟨env, σ⟩ := by
  refine Runs.ctls m hc (Runs.keep env0 henv ?_)
  refine Runs.loop (fun n S => I n S.env S.σ) (fun n S hI ih => ?_) n h0
  obtain ⟨E, s⟩ := S
  exact round n E s hI fun n' E' env' s' hn hI' hsub => Runs.keep _ hsub (ih n' hn ⟨E', s'⟩ hI')
end
theorem ends_own {P : Program} {C : Ctx} {fn : Func} {R : RR → Prop} {S : St} {t i sz : Nat} {e : TypeId} {cs : List AV} {rs : List RV} (hm : ∀ b, ¬ C.mu b) (hr : fn.results = #[.tmp t]) (hx : look S.env t = .own i) (ho : S.σ[i]? = some ⟨e, sz, cs⟩) (hc : cs = rs.map .ro) (hR : R (.row e sz rs)) : ∀ a w, Sim C S a w → Ends P C fn R a w :=
  ends1 hm hr _ rfl (.row e sz rs) [i] (by simp only [Harv]; exact ⟨i, hx, by rw [ho, hc], rfl⟩) (by simp) hR
theorem rr_bool {a b : Bool} (h : a = b) : RR.ro (.bool a) = .ro (.bool b) := by rw [h]
theorem rr_int {a b : Int} (h : a = b) : RR.ro (.int a) = .ro (.int b) := by rw [h]
theorem rr_ro {a b : RV} (h : a = b) : RR.ro a = .ro b := by rw [h]
/-- A slice of ints. -/
def intsR (l : List Int) : RV := .seq 1 (l.map fun z => [.int z])
def bytesR (l : List UInt8) : RV := .seq 1 (l.map fun z => [.u8 z])
def strsR (l : List ByteArray) : RV := .seq 1 (l.map fun z => [.str z])
/-- A contract, for the library. -/
theorem AC.calls {P : Program} {f : FuncId} {args : List RV} {R : RR → Prop} (h : AC P f args R) (w : World) (us : Array Value) (hu : RV.Rels w args us.toList) :
    Calls P f us w fun e w' => ∃ u rr bs, e = .returned u ∧ R rr ∧ RR.rel w' (fun b => b ∉ bs) rr u bs ∧ bs.Nodup ∧ (∀ b ∈ bs, w.heap.size ≤ b ∧ b < w'.heap.size) ∧ Below w.heap.size w w' :=
  (h w (fun _ => True) us (fun _ _ => trivial) hu).mono fun _ _ ⟨u, rr, bs, e, h1, h2, h3⟩ => ⟨u, rr, bs, e, h1, RR.rel_mono (fun _ hb => hb.2) _ _ _ h2, h3⟩
/-- .. that returns a Bool. -/
theorem AC.law {P : Program} {f : FuncId} {args : List RV} (h : ACv P f args (.bool true)) (w : World) (us : Array Value) (hu : RV.Rels w args us.toList) :
    Calls P f us w fun e w' => e = .returned (.bool true) ∧ Below w.heap.size w w' :=
  (h.calls w us hu).mono fun _ _ ⟨u, rr, bs, e, h1, h2, _, _, h5⟩ => by
    subst h1
    simp only [RR.rel, RV.rel] at h2
    rw [e, h2.1]
    exact ⟨rfl, h5⟩
end Go.Proofs.Ytkhnijggbfoimaa
/- What a function built becomes data at its end; rows of wide elements. Over any program. -/
namespace Go.Proofs.Ytkhnijggbfoimaa
set_option linter.unusedSimpArgs false
set_option linter.unusedVariables false
open Go.RowKit
open AV (Mem Keeps)
/-- A fresh result, taken as data. -/
theorem AC.shut {P : Program} {f : FuncId} {args : List RV} {R : RR → Prop} {r : RV} (h : AC P f args R) (hs : ∀ rr, R rr → Seals rr r) : ACv P f args r :=
  fun w ok us h0 hu => (h w ok us h0 hu).mono fun _ _ ⟨u, rr, bs, e, h1, h2, h3, h4, h5⟩ => ⟨u, .ro r, [], e, rfl, by
    simp only [RR.rel]
    exact ⟨seals_rel (fun b hb => ⟨hb.1, by simp⟩) rr r u bs (hs rr h1) h2 (fun b hb => ⟨h0 b (h4 b hb).1, by simp⟩), trivial⟩, by simp, by simp, h5⟩
section
variable {P : Program} {C : Ctx} {fn : Func} {R : RR → Prop} {S : St} {a : Act} {w : World}
/-- The end of a function whose result, memory and all, is taken as data. -/
theorem ends_lend {x : ResultVar} {v : AV} {r : RV} (hm : ∀ b, ¬ C.mu b) (hr : fn.results = #[x]) (hx : ResV P S x v) (hR : R (.ro r)) (hl : Lends C S.σ v r) : ∀ a w, Sim C S a w → Ends P C fn R a w := by
  intro a w ⟨h1, h2, φ, hG, hH⟩
  obtain ⟨u, k1, k2⟩ := resV_run (P := P) hG hH x v hx
  have hrel := hl ⟨w, φ, S.σ, C.ok⟩ u C.ok hG rfl (fun b hb => hb.1) (fun i g hi hg => hG.frm.new g ((hG.mine i g hi hg).resolve_left (hm g))) k2
  exact ⟨h1, u, by rw [results_eq, hr]; simp [k1], .ro r, [], hR, by simp only [RR.rel]; exact ⟨RV.rel_mono ⟨Nat.le_refl _, fun b _ hb => ⟨⟨hb, by simp⟩, rfl⟩⟩ r u hrel, trivial⟩, by simp, by simp, hG.frm.below0 hm⟩
theorem ends_cellR {p ty n i off : Nat} {o : Ob} {rs : List RV} [ht : TN P ty n] (hm : ∀ b, ¬ C.mu b) (hr : fn.results = #[.cell p ty]) (h1 : look S.env p = .obj i off) (h2 : S.σ[i]? = some o) (h3 : off + n ≤ o.cs.length) (hR : R (.ro (.agg rs))) (hc : (o.cs.drop off).take n = rs.map .ro) : ∀ a w, Sim C S a w → Ends P C fn R a w :=
  ends_lend (v := .agg ((o.cs.drop off).take n)) hm hr (by simp only [ResV]; exact ⟨i, off, o, h1, h2, .inr ⟨n, ht, h3, rfl⟩⟩) hR (hc ▸ Lends.agg (LendsL.ros rs))
theorem ends_ownR {t i : Nat} {o : Ob} {els : List (List RV)} (hm : ∀ b, ¬ C.mu b) (hr : fn.results = #[.tmp t]) (hx : look S.env t = .own i) (ho : S.σ[i]? = some o) (hR : R (.ro (.seq o.sz els))) (hc : o.cs = els.flatten.map .ro) (hl : ∀ x ∈ els, x.length = o.sz) : ∀ a w, Sim C S a w → Ends P C fn R a w :=
  ends_lend (v := .own i) hm hr (by simp only [ResV]; exact hx.symm) hR (Lends.own ho hc hl)
end
/-! ### Rows that are filled from the left. -/
theorem sets_app : ∀ (l P Z : List AV) (k : Nat), P.length = k → l.length ≤ Z.length → setsAt (P ++ Z) k l = P ++ l ++ Z.drop l.length
  | [], P, Z, k, _, _ => by simp [setsAt]
  | x :: xs, P, [], k, _, h => by simp at h
  | x :: xs, P, z :: Z, k, hk, h => by
    rw [setsAt, List.set_append_right _ _ (by omega), hk, Nat.sub_self, List.set_cons_zero, ← List.singleton_append, ← List.append_assoc, sets_app xs (P ++ [x]) Z (k + 1) (by simp [hk]) (by simpa using h)]
    simp
section
variable {α : Type} (f : α → List RV) (zc : List RV) (sz : Nat)
def filled (l : List α) (j : Nat) : List RV := ((l.take j).map f).flatten ++ (List.replicate (l.length - j) zc).flatten
theorem filled_zero (l : List α) : filled f zc l 0 = (List.replicate l.length zc).flatten := by simp [filled]
theorem filled_full (l : List α) : filled f zc l l.length = (l.map f).flatten := by simp [filled]
variable {f zc sz}
theorem map_flatten_len (hf : ∀ x, (f x).length = sz) : ∀ l : List α, (l.map f).flatten.length = l.length * sz
  | [] => by simp
  | x :: xs => by rw [List.map_cons, List.flatten_cons, List.length_append, hf, map_flatten_len hf xs, List.length_cons, Nat.succ_mul, Nat.add_comm]
theorem rep_flatten_len {α : Type} (l : List α) : ∀ n : Nat, (List.replicate n l).flatten.length = n * l.length
  | 0 => by simp
  | n + 1 => by rw [List.replicate_succ, List.flatten_cons, List.length_append, rep_flatten_len l n, Nat.succ_mul, Nat.add_comm]
theorem filled_len (hf : ∀ x, (f x).length = sz) (hz : zc.length = sz) (l : List α) (j : Nat) (hj : j ≤ l.length) : (filled f zc l j).length = l.length * sz := by
  rw [filled, List.length_append, map_flatten_len hf, rep_flatten_len, hz, List.length_take, Nat.min_eq_left hj, ← Nat.add_mul, Nat.add_sub_cancel' hj]
theorem filled_set (hf : ∀ x, (f x).length = sz) (hz : zc.length = sz) (l : List α) (j : Nat) (x : α) (hx : l[j]? = some x) :
    setsAt ((filled f zc l j).map .ro) (j * sz) ((f x).map .ro) = (filled f zc l (j + 1)).map .ro := by
  obtain ⟨hj, rfl⟩ := List.getElem?_eq_some_iff.1 hx
  have e : l.length - j = (l.length - (j + 1)) + 1 := by omega
  rw [filled, List.map_append, sets_app _ _ _ _ (by simp only [List.length_map]; rw [map_flatten_len hf, List.length_take, Nat.min_eq_left (by omega)]) (by simp only [List.length_map, rep_flatten_len, hf, hz, e]; rw [Nat.succ_mul]; omega)]
  have e2 : List.drop (List.map AV.ro (f l[j])).length (List.map AV.ro (List.replicate (l.length - j) zc).flatten) = List.map AV.ro (List.replicate (l.length - (j + 1)) zc).flatten := by
    rw [e, List.replicate_succ, List.flatten_cons, List.map_append, List.drop_left' (by rw [List.length_map, List.length_map, hf, hz])]
  rw [e2, filled, List.take_succ_eq_append_getElem hj]
  simp only [List.map_append, List.map_cons, List.map_nil, List.flatten_append, List.flatten_cons, List.flatten_nil, List.append_nil, List.append_assoc]
end
theorem rep_at {α : Type} (l : List α) (h0 : 0 < l.length) : ∀ (n i : Nat), i < n * l.length → (List.replicate n l).flatten[i]? = l[i % l.length]?
  | 0, i, h => by simp at h
  | n + 1, i, h => by
    rw [List.replicate_succ, List.flatten_cons]
    rcases Nat.lt_or_ge i l.length with hlt | hge
    · rw [List.getElem?_append_left hlt, Nat.mod_eq_of_lt hlt]
    · rw [List.getElem?_append_right hge, rep_at l h0 n (i - l.length) (by rw [Nat.succ_mul] at h; omega), Nat.mod_eq_sub_mod hge]
theorem made_N (zs : List Value) (n : Nat) (h0 : 0 < zs.length) : (madeCells zs.toArray (n * zs.length)).toList = (List.replicate n zs).flatten := by
  refine List.ext_getElem? fun i => ?_
  rcases Nat.lt_or_ge i (n * zs.length) with h | h
  · rw [rep_at zs h0 n i h]
    have hm : i % zs.length < zs.length := Nat.mod_lt _ h0
    rw [madeCells, Array.getElem?_toList, Array.getElem?_map, Array.getElem?_range, if_pos h]
    simp only [Option.map_some, List.size_toArray]
    rw [List.getElem?_eq_getElem hm, getElem!_pos _ _ (by simpa using hm)]
    simp
  · rw [List.getElem?_eq_none (by simpa [size_madeCells] using h), List.getElem?_eq_none (by rw [rep_flatten_len]; exact h)]
section
variable {P : Program} {C : Ctx} {ops : Array Oper} {rest : List Oper} {k : List Item} {R : Act → World → Prop} {env : Env} {σ : List Ob} {t : Nat} {ty : TypeId} {pos : String} {after : Array Edge} {gd : Option (Nat × Bool)}
/-- A row of wide elements is made. -/
theorem op_makeN {tt e : TypeId} {z : Value} {sz bytes n : Nat} {zs : List Value} {x y : Operand} {kd kd' : IntKind} [hs : SL P tt e z sz bytes] (hx : ev env x = .ro (.c (.int kd (n : Int)))) (hy : ev env y = .ro (.c (.int kd' (n : Int)))) (hz : z.cells = zs.toArray) (hzl : zs.length = sz) (hz0' : 0 < sz) (hz1 : zs.all Value.oneCell' = true)
    (b2 : bytes * n ≤ 281474976710656) (b3 : n ≤ maxLen) (ht : t < C.n) (hk : RunsL P C ops rest k R ⟨(t, .own σ.length) :: env, σ ++ [⟨e, sz, ((List.replicate n (zs.map RV.c)).flatten).map .ro⟩]⟩) :
    RunsL P C ops (⟨some t, .makeSlice tt x y, ty, pos, after, none⟩ :: rest) k R ⟨env, σ⟩ :=
  RunsL.val rfl rfl ht (fun a w φ hG hH => by
    obtain ⟨i, hi, hz0, hsz, hb⟩ := hs.el.hi
    have hbb : (i.bytes : Int) * (n : Int) ≤ 281474976710656 := by
      rw [hb]
      have h : ((bytes * n : Nat) : Int) ≤ 281474976710656 := by omega
      rwa [Int.natCast_mul] at h
    have hr := run_make (P := P) w tt e i z hs.el.ht hi hz0 kd kd' n n (by omega) (Int.le_refl _) hbb (by simp [maxLen] at b3; omega)
    simp only [Int.toNat_natCast, hsz] at hr
    subst hzl
    have hm : (madeCells z.cells (n * zs.length)).toList = (List.replicate n zs).flatten := by rw [hz]; exact made_N zs n hz0'
    have hlen : ((List.replicate n (zs.map RV.c)).flatten).length = n * zs.length := by rw [rep_flatten_len, List.length_map]
    have hg := good_alloc hG (madeCells z.cells (n * zs.length)) e zs.length (((List.replicate n (zs.map RV.c)).flatten).map .ro) (Nat.le_of_eq (by rw [List.length_map, hlen, size_madeCells])) (fun j v hj => by
      rw [List.getElem?_map, Option.map_eq_some_iff] at hj
      obtain ⟨r, hr', rfl⟩ := hj
      have hjn : j < n * zs.length := by have := (List.getElem?_eq_some_iff.1 hr').1; omega
      rw [rep_at _ (by simpa using hz0') n j (by simpa using hjn), List.getElem?_map, Option.map_eq_some_iff, List.length_map] at hr'
      obtain ⟨c, hc, rfl⟩ := hr'
      refine ⟨c, ?_, List.all_eq_true.1 hz1 c (List.mem_of_getElem? hc), by simp [AV.rel, RV.rel]⟩
      rw [← Array.getElem?_toList, hm, rep_at _ hz0' n j hjn, hc])
    refine ⟨slv w.heap.size n n, _, _, by simp only [execOp, ev_c (ev_rel hH x) hx, ev_c (ev_rel hH y) hy, Sem.run_bind, hr, Result.andThen]; rfl, hg.1, hg.2, ?_⟩
    simp only [AV.rel]
    exact ⟨⟨e, zs.length, ((List.replicate n (zs.map RV.c)).flatten).map .ro⟩, n, by rw [List.getElem?_append_right (Nat.le_refl _), Nat.sub_self]; rfl, by show List.length (List.map _ _) = _; rw [List.length_map, hlen], hz0', .inr ⟨w.heap.size, n, _, upd_eq, rfl, heap_alloc_new w _, Nat.le_refl _, b3, size_madeCells _ _⟩⟩) hk
/-- What the frame no longer needs, falls. -/
theorem Runs.shed {E' : Env} {s' more : List Ob} (hsub : Sub E' env) (hσ : σ = s' ++ more) (hf : Free s'.length E') (ho : FreeO s'.length s') (h : Runs P C k R ⟨E', s'⟩) : Runs P C k R ⟨env, σ⟩ := by
  subst hσ
  exact Runs.keep E' hsub (Runs.drop hf ho h)
/-- A loop that counts, whose rounds may leave objects behind. -/
theorem Runs.loopD {more0 : List Ob} (m : Nat) {c : Code} {k' : List Item} (hc : Proofs.Ytkhnijggbfoimaa.ctls m k = .code (.loop c) :: k') (E : Nat → Env) (s : Nat → List Ob) (hf : ∀ j, Free (s j).length (E j) ∧ FreeO (s j).length (s j)) (Q : Nat → Prop) (len : Nat) (j0 : Nat) (hj0 : j0 ≤ len) (h0 : Q j0) (henv : Sub (E j0) env) (hs : s j0 ++ more0 = σ)
    (round : ∀ j, j ≤ len → Q j → (∀ env' σ' more, Sub (E (j + 1)) env' → j < len → Q (j + 1) → s (j + 1) ++ more = σ' → Runs P C (.inLoop c :: k') R ⟨env', σ'⟩) → Runs P C (.code c :: .inLoop c :: k') R ⟨E j, s j⟩) :
    Runs P C k R ⟨env, σ⟩ := by
  refine Runs.ctls m hc ?_
  refine Runs.shed henv hs.symm (hf j0).1 (hf j0).2 ?_
  refine Runs.loop (fun n S => ∃ j, j + n = len ∧ Q j ∧ S = ⟨E j, s j⟩) (fun n S hI ih => ?_) (len - j0) ⟨j0, by omega, h0, rfl⟩
  obtain ⟨j, hj, hQ, rfl⟩ := hI
  refine round j (by omega) hQ fun env' σ' more hsub hlt hQ' hσ => ?_
  exact Runs.shed hsub hσ.symm (hf _).1 (hf _).2 (ih (n - 1) (by omega) _ ⟨j + 1, by omega, hQ', rfl⟩)
theorem Sub.cons_new {e env : Env} {t : Nat} {v : AV} (h : Sub e env) (hn : ∀ x ∈ e, x.1 ≠ t) : Sub e ((t, v) :: env) := by
  induction e with
  | nil => trivial
  | cons p e ih =>
    obtain ⟨s, u⟩ := p
    simp only [Sub] at h ⊢
    exact ⟨by rw [look_put, if_neg (fun he => hn (s, u) (by simp) he.symm)]; exact h.1, ih h.2 fun x hx => hn x (by simp [hx])⟩
/-! ### Slice literals. -/
/-- The cells of the parts of a literal that names each place in turn. -/
def partCells (env : Env) : Nat → List (Nat × Operand) → Option (List (List AV))
  | _, [] => some []
  | n, p :: l => match Nat.beq p.1 n with
    | true => match cells? (ev env p.2) with
      | some c => match partCells env (n + 1) l with
        | some cs => some (c :: cs)
        | none => none
      | none => none
    | false => none
theorem partCells_ok {m : Mem} {a : Act} : ∀ (l : List (Nat × Operand)) (n : Nat) (css : List (List AV)), (∀ p ∈ l, AV.rel m (ev env p.2) (a.eval p.2)) → partCells env n l = some css →
    (l.map fun p => (p.1, a.eval p.2)) = ((l.map fun p => a.eval p.2).zipIdx n).map (fun x => (x.2, x.1)) ∧ css.length = l.length ∧
    ∀ (i : Nat) p c, l[i]? = some p → css[i]? = some c → (a.eval p.2).cells.size = c.length ∧ ∀ (j : Nat) x, c[j]? = some x → ∃ y, (a.eval p.2).cells[j]? = some y ∧ y.oneCell' = true ∧ AV.rel m x y
  | [], n, css, _, h => by simp only [partCells, Option.some.injEq] at h; subst h; simp
  | p :: l, n, css, hH, h => by
    unfold partCells at h
    split at h
    · rename_i hb
      split at h
      · rename_i c hc
        split at h
        · rename_i cs hcs
          injection h with h; subst h
          obtain ⟨h1, h2, h3⟩ := partCells_ok l (n + 1) cs (fun p hp => hH p (by simp [hp])) hcs
          have hn : p.1 = n := Nat.eq_of_beq_eq_true hb
          refine ⟨by simp only [List.map_cons, List.zipIdx_cons, h1, hn], by simp [h2], fun i q d e1 e2 => ?_⟩
          cases i with
          | zero => simp at e1 e2; subst e1; subst e2; exact cells_rel (hH p (by simp)) hc
          | succ i => exact h3 i q d (by simpa using e1) (by simpa using e2)
        · cases h
      · cases h
    · cases h
theorem flatMap_at {α β : Type} {sz : Nat} (f : α → List β) : ∀ (l : List α), (∀ x ∈ l, (f x).length = sz) → ∀ (i j : Nat) x, l[i]? = some x → j < sz → (l.flatMap f)[i * sz + j]? = (f x)[j]?
  | [], _, i, j, x, h, _ => by simp at h
  | y :: l, hl, i, j, x, h, hj => by
    have hy := hl y (by simp)
    rw [List.flatMap_cons]
    cases i with
    | zero => simp at h; subst h; rw [Nat.zero_mul, Nat.zero_add, List.getElem?_append_left (by omega)]
    | succ i =>
      rw [List.getElem?_append_right (by rw [Nat.succ_mul]; omega), hy, show (i + 1) * sz + j - sz = i * sz + j by rw [Nat.succ_mul]; omega]
      exact flatMap_at f l (fun x hx => hl x (by simp [hx])) i j x (by simpa using h) hj
theorem built {tt e : TypeId} {z : Value} {sz bytes len : Nat} {parts : Array (Nat × Operand)} {css : List (List AV)} [hs : SL P tt e z sz bytes] {m : Mem} {a : Act} (hH : ∀ p ∈ parts.toList, AV.rel m (ev env p.2) (a.eval p.2)) (hp : partCells env 0 parts.toList = some css)
    (hl : css.length = len) (hsz : ∀ c ∈ css, c.length = sz) (hpos : 0 < len * sz) (hsm : len * sz ≤ 16777216) :
    ∃ us : Array Value, (Instr.buildSlice tt len (parts.map fun p => (p.1, a.eval p.2))).run P m.w = .ok (slv m.w.heap.size len len) (m.w.alloc (.cells us e)) ∧ us.size = len * sz ∧
      ∀ (j : Nat) v, css.flatten[j]? = some v → ∃ u, us[j]? = some u ∧ u.oneCell' = true ∧ AV.rel m v u := by
  obtain ⟨h1, h2, h3⟩ := partCells_ok parts.toList 0 css hH hp
  obtain ⟨i, hi, hz0, hsz', hb⟩ := hs.el.hi
  have hs0 : 0 < sz := Nat.pos_of_mul_pos_left hpos
  let vs := parts.toList.map fun p => a.eval p.2
  have hvl : vs.length = len := by simp [vs, ← hl, h2]
  have hvat : ∀ (i : Nat) v, vs[i]? = some v → ∃ p c, parts.toList[i]? = some p ∧ css[i]? = some c ∧ v = a.eval p.2 := fun i v hv => by
    simp only [vs, List.getElem?_map, Option.map_eq_some_iff] at hv
    obtain ⟨p, hp', rfl⟩ := hv
    have hil : i < css.length := by rw [h2]; exact (List.getElem?_eq_some_iff.1 hp').1
    exact ⟨p, css[i], hp', List.getElem?_eq_getElem hil, rfl⟩
  have hcs : ∀ v ∈ vs, v.cells.size = sz := fun v hv => by
    obtain ⟨i, hi', rfl⟩ := List.getElem_of_mem hv
    obtain ⟨p, c, e1, e2, e3⟩ := hvat i _ (List.getElem?_eq_getElem hi')
    rw [e3, (h3 i p c e1 e2).1]
    exact hsz c (List.mem_of_getElem? e2)
  refine ⟨(vs.flatMap fun v => v.cells.toList).toArray, ?_, ?_, fun j v hj => ?_⟩
  · refine run_buildSlice m.w tt e len _ _ i z hs.el.ht hi hz0 (by rw [hsz']; omega) (by rw [hsz']; omega) ?_
    rw [Array.toList_map, h1, hsz']
    exact Great.fill_whole hs0 vs _ hcs (by simp [hvl])
  · rw [List.size_toArray, List.length_flatMap]
    have : ∀ l : List Value, (∀ v ∈ l, v.cells.size = sz) → (l.map fun v => v.cells.toList.length).sum = l.length * sz := by
      intro l hl'
      induction l with
      | nil => simp
      | cons v l ih => rw [List.map_cons, List.sum_cons, ih (fun v hv => hl' v (by simp [hv])), Array.length_toList, hl' v (by simp), List.length_cons, Nat.succ_mul, Nat.add_comm]
    rw [this vs hcs, hvl]
  · have hjl : j < css.length * sz := by rw [← flatten_len hsz]; exact (List.getElem?_eq_some_iff.1 hj).1
    have hq : j / sz < css.length := Nat.div_lt_of_lt_mul (by rwa [Nat.mul_comm])
    have hr : j % sz < sz := Nat.mod_lt _ hs0
    have hjj : j = (j / sz) * sz + j % sz := by rw [Nat.mul_comm]; exact (Nat.div_add_mod j sz).symm
    have hvq : j / sz < vs.length := by rw [hvl, ← hl]; exact hq
    obtain ⟨p, c, e1, e2, e3⟩ := hvat (j / sz) _ (List.getElem?_eq_getElem hvq)
    obtain ⟨k1, k2⟩ := h3 _ p c e1 e2
    have hcv : c[j % sz]? = some v := by
      have := flatMap_at (fun x : List AV => x) css hsz (j / sz) (j % sz) c e2 hr
      rw [← this, ← hjj, ← hj]; simp [List.flatMap]
    obtain ⟨y, y1, y2, y3⟩ := k2 _ v hcv
    refine ⟨y, ?_, y2, y3⟩
    rw [List.getElem?_toArray, hjj, flatMap_at (fun v : Value => v.cells.toList) vs (by simpa using hcs) (j / sz) (j % sz) _ (List.getElem?_eq_getElem hvq) hr, e3, Array.getElem?_toList, y1]
/-- .. whose memory the frame owns. -/
theorem op_build {tt e : TypeId} {z : Value} {sz bytes len : Nat} {parts : Array (Nat × Operand)} {css : List (List AV)} [hs : SL P tt e z sz bytes] (hp : partCells env 0 parts.toList = some css)
    (hl : css.length = len) (hsz : (css.all fun c => Nat.beq c.length sz) = true) (hpos : Nat.ble 1 (len * sz) = true) (hsm : Nat.ble (len * sz) 16777216 = true) (ht : t < C.n) (hk : RunsL P C ops rest k R ⟨(t, .own σ.length) :: env, σ ++ [⟨e, sz, css.flatten⟩]⟩) :
    RunsL P C ops (⟨some t, .buildSlice tt len parts, ty, pos, after, none⟩ :: rest) k R ⟨env, σ⟩ :=
  RunsL.val rfl rfl ht (fun a w φ hG hH => by
    have hsz' : ∀ c ∈ css, c.length = sz := fun c hc => Nat.eq_of_beq_eq_true (List.all_eq_true.1 hsz c hc)
    have h1 := Nat.le_of_ble_eq_true hpos
    have h2 := Nat.le_of_ble_eq_true hsm
    obtain ⟨us, k1, k2, k3⟩ := built (P := P) (tt := tt) (a := a) (m := ⟨w, φ, σ, C.ok⟩) (fun p _ => ev_rel hH p.2) hp hl hsz' h1 h2
    have hcl : css.flatten.length = len * sz := by rw [flatten_len hsz', hl]
    have hg := good_alloc hG us e sz css.flatten (by omega) k3
    have hlen : 0 < sz := Nat.pos_of_mul_pos_left h1
    refine ⟨slv w.heap.size len len, _, _, by simp only [execOp, Sem.run_bind]; rw [k1]; rfl, hg.1, hg.2, ?_⟩
    simp only [AV.rel]
    have hml : len ≤ maxLen := by have : len * 1 ≤ len * sz := Nat.mul_le_mul_left _ hlen; simp [maxLen]; omega
    exact ⟨⟨e, sz, css.flatten⟩, len, by rw [List.getElem?_append_right (Nat.le_refl _), Nat.sub_self]; rfl, hcl, hlen, .inr ⟨w.heap.size, len, _, upd_eq, rfl, heap_alloc_new w _, Nat.le_refl _, hml, k2⟩⟩) hk
/-- Data in each cell. -/
def roList : List AV → Option (List RV)
  | [] => some []
  | .ro r :: l => match roList l with
    | some rs => some (r :: rs)
    | none => none
  | _ :: _ => none
theorem roList_eq : ∀ (l : List AV) (rs : List RV), roList l = some rs → l = rs.map .ro
  | [], rs, h => by simp only [roList, Option.some.injEq] at h; subst h; rfl
  | .ro r :: l, rs, h => by
    unfold roList at h
    split at h
    · rename_i rs' h'
      injection h with h; subst h
      rw [roList_eq l rs' h']; rfl
    · cases h
  | .obj _ _ :: l, rs, h => by cases h
  | .own _ :: l, rs, h => by cases h
  | .agg _ :: l, rs, h => by cases h
  | .tup _ :: l, rs, h => by cases h
  | .fn _ _ _ :: l, rs, h => by cases h
  | .junk :: l, rs, h => by cases h
def roLists : List (List AV) → Option (List (List RV))
  | [] => some []
  | l :: ls => match roList l with
    | some r => match roLists ls with
      | some rs => some (r :: rs)
      | none => none
    | none => none
theorem roLists_eq : ∀ (l : List (List AV)) (rs : List (List RV)), roLists l = some rs → l = rs.map (·.map .ro)
  | [], rs, h => by simp only [roLists, Option.some.injEq] at h; subst h; rfl
  | l :: ls, rs, h => by
    unfold roLists at h
    split at h
    · rename_i r hr
      split at h
      · rename_i rs' h'
        injection h with h; subst h
        rw [roList_eq l r hr, roLists_eq ls rs' h']; rfl
      · cases h
    · cases h
/-- A literal that is only read. -/
theorem pu_build {tt e : TypeId} {z : Value} {sz bytes len : Nat} {parts : Array (Nat × Operand)} {css : List (List AV)} {els : List (List RV)} [hs : SL P tt e z sz bytes] (hp : partCells env 0 parts.toList = some css) (hr : roLists css = some els)
    (hl : css.length = len) (hsz : (css.all fun c => Nat.beq c.length sz) = true) (hpos : Nat.ble 1 (len * sz) = true) (hsm : Nat.ble (len * sz) 16777216 = true) :
    Pur P C ⟨some t, .buildSlice tt len parts, ty, pos, after, gd⟩ env σ (.ro (.seq sz els)) := by
  refine ⟨fun a m hG hσ hH K Q hK => ?_⟩
  have hsz' : ∀ c ∈ css, c.length = sz := fun c hc => Nat.eq_of_beq_eq_true (List.all_eq_true.1 hsz c hc)
  have h1 := Nat.le_of_ble_eq_true hpos
  have h2 := Nat.le_of_ble_eq_true hsm
  obtain ⟨w, φ, σ', ok⟩ := m
  have hok : ok = C.ok := hG.ok0
  subst hok
  subst hσ
  have hcss := roLists_eq _ _ hr
  obtain ⟨us, k1, k2, k3⟩ := built (P := P) (tt := tt) (a := a) (m := ⟨w, φ, σ', C.ok⟩) (fun p hp' => hH p.2 (by simp only [Op.operands, List.mem_map, List.mem_toArray, Array.mem_def]; exact ⟨p, hp', rfl⟩)) hp hl hsz' h1 h2
  have he : (execOp a.eval ⟨some t, .buildSlice tt len parts, ty, pos, after, gd⟩).run P w = .ok (.value (slv w.heap.size len len)) (w.alloc (.cells us e)) := by simp only [execOp, Sem.run_bind]; rw [k1]; rfl
  have hlen : 0 < sz := Nat.pos_of_mul_pos_left h1
  have hml : len ≤ maxLen := by have : len * 1 ≤ len * sz := Nat.mul_le_mul_left _ hlen; simp [maxLen]; omega
  unfold Oper.wp
  rw [he]
  simp only [Oper.upon]
  have hbl := below_one w (.cells us e)
  have hle : els.length = len := by rw [← hl, hcss, List.length_map]
  refine hK _ _ hbl ?_
  simp only [AV.rel, RV.rel]
  refine ⟨some ⟨w.heap.size, 0, none⟩, len, len, rfl, hle.symm, Nat.le_refl _, hml, fun _ => ⟨w.heap.size, 0, rfl, (Array.getElem?_eq_some_iff.1 (heap_alloc_new w _)).1, ok_args hG _ (Nat.le_refl _), ?_⟩⟩
  have hel : ∀ x ∈ els, x.length = sz := fun x hx => by
    have := hsz' (x.map .ro) (by rw [hcss]; exact List.mem_map.2 ⟨x, hx, rfl⟩)
    simpa using this
  refine RV.relE_of _ _ _ fun k e' hk => ⟨hel e' (List.mem_of_getElem? hk), RV.relAt_of _ _ fun j r hj => ?_⟩
  have hjl : j < sz := by have := (List.getElem?_eq_some_iff.1 hj).1; rwa [hel e' (List.mem_of_getElem? hk)] at this
  have hcat := flatten_at hsz' k j (e'.map .ro) (by rw [hcss, List.getElem?_map, hk]; rfl) hjl
  rw [List.getElem?_map, hj] at hcat
  obtain ⟨u, u1, u2, u3⟩ := k3 _ _ hcat
  simp only [AV.rel] at u3
  refine ⟨u, by rw [cell_of_row _ _ _ us _ _ (heap_alloc_new w _), Nat.zero_add]; exact u1, u2, RV.rel_mono ⟨hbl.size, fun b hb ho => ⟨ho, hbl.block b hb⟩⟩ r u u3⟩
/-- Cells, loaded, under another name. -/
theorem pu_loadN_eq {tt : TypeId} {x : Operand} {cs cs' : List RV} {n : Nat} [TN P tt n] (hx : ev env x = .ro (.rp cs)) (he : cs = cs') (hn : cs'.length = n) : Pur P C ⟨some t, .load tt x, ty, pos, after, gd⟩ env σ (.ro (.agg cs')) := by
  subst he
  exact pu_loadN_ro hx hn
/-- Data of plain values, as a value. -/
theorem agg_flat {m : Mem} : ∀ (vs : List Value) (us : List Value), RV.rels m.w m.ok (vs.map .c) us → us = vs
  | [], us, h => by simpa [RV.rels] using h
  | v :: vs, us, h => by
    simp only [List.map_cons, RV.rels] at h
    obtain ⟨u, us', rfl, h1, h2⟩ := h
    simp only [RV.rel] at h1
    rw [h1, agg_flat vs us' h2]
/-- An operation on two structs of plain values. -/
theorem pu_binA {op : BinOp} {xt yt : TypeId} {x y : Operand} {vx vy : List Value} {vz : Value} (hx : ev env x = .ro (.agg (vx.map .c))) (hy : ev env y = .ro (.agg (vy.map .c)))
    (hr : ∀ w, ((do eqGuard op xt x y (.agg vx.toArray) (.agg vy.toArray); binOp op xt (.agg vx.toArray) (.agg vy.toArray) : Sem Value)).run P w = .ok vz w) : Pur P C ⟨some t, .binOp op xt x y yt, ty, pos, after, gd⟩ env σ (.ro (.c vz)) :=
  Pur.of (fun a m hG hσ hH => by
    refine ⟨vz, ?_, by simp [AV.rel, RV.rel]⟩
    have key : ∀ {x : Operand} {vs : List Value}, AV.rel m (ev env x) (a.eval x) → ev env x = .ro (.agg (vs.map .c)) → a.eval x = .agg vs.toArray := by
      intro x vs h hx
      rw [hx] at h
      simp only [AV.rel, RV.rel] at h
      obtain ⟨us, e, h⟩ := h
      rw [e]
      have := agg_flat vs _ h
      rw [← this]
    have h := hr m.w
    simp only [Sem.run_bind] at h
    simp only [execOp, key (hH x (by simp [Op.operands])) hx, key (hH y (by simp [Op.operands])) hy, Sem.run_bind, Sem.run_pure]
    generalize Sem.run P (eqGuard op xt x y (.agg vx.toArray) (.agg vy.toArray)) m.w = r at h ⊢
    cases r with
    | ok a' w' => simp only [Result.andThen] at h ⊢; rw [h]
    | halt h' w' => simp [Result.andThen] at h)
end
end Go.Proofs.Ytkhnijggbfoimaa
/- The arguments of a law, opened to data; data of plain types, by its parts. Over any program. -/
namespace Go.Proofs.Ytkhnijggbfoimaa
set_option linter.unusedSimpArgs false
set_option linter.unusedVariables false
open Go.RowKit Go.ChangeShapes Go.WideShapes
section
variable {H : Type} {enc : TypeId × Value → H} {P : Program} {w : World} {base : Nat} {spare : Nat → Bool} {held : Bool} {T : List Nat} {r : Reach} {b0 : Nat} {t e : TypeId} {v : Value} {d : DataW H} {p : List MemPlace}
theorem open_cell (hT : (T.all (typB P T)) = true) (ht : nmem T t = true) (hc : v.cells.toList = [v]) (h : DataW.Trod enc P w base spare held t v d p) : ∃ r, TyC P t [r] ∧ RV.Rels w [r] [v] := by
  obtain ⟨rcs', h1, h2, _⟩ := open_arg hT ht h
  rw [hc] at h2
  match rcs', h2 with
  | [], h2 => simp [RV.Rels, RV.rels] at h2
  | [r], h2 => exact ⟨r, h1, h2⟩
  | _ :: _ :: _, h2 => simp [RV.Rels, RV.rels] at h2; obtain ⟨_, _, ⟨_, rfl⟩, _, _, _, h, _⟩ := h2; cases h
theorem open_agg {fs : Array Field} (hT : (T.all (typB P T)) = true) (ht : nmem T t = true) (hu : P.underlying t = some (.struct fs)) (hv : Value.okWide P w r b0 t v) (h : DataW.Trod enc P w base spare held t v d p) : ∃ rcs, TyC P t rcs ∧ RV.Rels w [.agg rcs] [v] := by
  obtain ⟨cs, rfl, _⟩ := okWide_struct hu hv
  obtain ⟨rcs, h1, h2, _⟩ := open_arg hT ht h
  exact ⟨rcs, h1, by simp only [RV.Rels, RV.rels]; exact ⟨_, [], rfl, by simp only [RV.rel]; exact ⟨cs, rfl, by simpa [Value.cells] using h2⟩, rfl⟩⟩
theorem open_int1 {k : IntKind} (hT : (T.all (typB P T)) = true) (ht : nmem T t = true) (hu : P.underlying t = some (.int k)) (hv : Value.okWide P w r b0 t v) (h : DataW.Trod enc P w base spare held t v d p) : ∃ n, RV.Rels w [.c (.int k n)] [v] ∧ (Lit.int k n).wf = true := by
  obtain ⟨n, rfl⟩ := okWide_int hu hv
  obtain ⟨r, h1, h2⟩ := open_cell hT ht (by rfl) h
  obtain ⟨m, e, hw⟩ := h1.inv_int hu
  injection e with e; subst e
  exact ⟨m, h2, hw⟩
theorem open_bool1 (hT : (T.all (typB P T)) = true) (ht : nmem T t = true) (hu : P.underlying t = some .bool) (hv : Value.okWide P w r b0 t v) (h : DataW.Trod enc P w base spare held t v d p) : ∃ b, RV.Rels w [.bool b] [v] := by
  obtain ⟨n, rfl⟩ := okWide_bool hu hv
  obtain ⟨r, h1, h2⟩ := open_cell hT ht (by rfl) h
  obtain ⟨m, e⟩ := h1.inv_bool hu
  injection e with e; subst e
  exact ⟨m, h2⟩
theorem open_str1 (hT : (T.all (typB P T)) = true) (ht : nmem T t = true) (hu : P.underlying t = some .string) (hv : Value.okWide P w r b0 t v) (h : DataW.Trod enc P w base spare held t v d p) : ∃ s, RV.Rels w [.str s] [v] ∧ s.size ≤ maxLen := by
  obtain ⟨n, rfl⟩ := okWide_string hu hv
  obtain ⟨r, h1, h2⟩ := open_cell hT ht (by rfl) h
  obtain ⟨m, e, hw⟩ := h1.inv_str hu
  injection e with e; subst e
  exact ⟨m, h2, hw⟩
theorem open_slice1 (hT : (T.all (typB P T)) = true) (ht : nmem T t = true) (hu : P.underlying t = some (.slice e)) (hv : Value.okWide P w r b0 t v) (h : DataW.Trod enc P w base spare held t v d p) : ∃ r, TyC P t [r] ∧ RV.Rels w [r] [v] := by
  obtain ⟨a, n, c, rfl⟩ := okWide_slice hu hv
  exact open_cell hT ht (by rfl) h
end
/-! ### Data of a plain type, by its parts. -/
section
variable {P : Program} {t e : TypeId} {rcs : List RV} {r : RV}
def TyCs (P : Program) : List TypeId → List (List RV) → Prop
  | [], cs => cs = []
  | t :: ts, cs => ∃ c cs', cs = c :: cs' ∧ TyC P t c ∧ TyCs P ts cs'
theorem TyCs.of : ∀ (fs : List Field) (cells : List (List RV)), cells.length = fs.length → (∀ (j : Nat) f c, fs[j]? = some f → cells[j]? = some c → TyC P f.type c) → TyCs P (fs.map (·.type)) cells
  | [], cells, hl, _ => by simpa [TyCs] using List.eq_nil_of_length_eq_zero hl
  | f :: fs, [], hl, _ => by simp at hl
  | f :: fs, c :: cs, hl, h => by
    simp only [List.map_cons, TyCs]
    exact ⟨c, cs, rfl, h 0 f c rfl rfl, TyCs.of fs cs (by simpa using hl) fun j f' c' e1 e2 => h (j + 1) f' c' (by simpa using e1) (by simpa using e2)⟩
theorem TyC.parts {fs : Array Field} (h : TyC P t rcs) (hu : P.underlying t = some (.struct fs)) : ∃ cells : List (List RV), rcs = cells.flatten ∧ TyCs P (fs.toList.map (·.type)) cells := by
  obtain ⟨cells, h1, h2, h3⟩ := h.inv_struct hu
  exact ⟨cells, h1, TyCs.of fs.toList cells (by simpa using h2) fun j f c e1 e2 => h3 j f c (by simpa using e1) e2⟩
theorem TyC.i64 (h : TyC P t rcs) (hu : P.underlying t = some (.int .i64)) : ∃ n, rcs = [.int n] ∧ I64 n := by
  obtain ⟨n, e, hw⟩ := h.inv_int hu
  exact ⟨n, e, bounds_i64 hw⟩
theorem TyC.byte (h : TyC P t rcs) (hu : P.underlying t = some (.int .u8)) : ∃ c : UInt8, rcs = [.u8 c] := by
  obtain ⟨n, e, hw⟩ := h.inv_int hu
  obtain ⟨c, rfl⟩ := u8_of_wf hw
  exact ⟨c, e⟩
theorem TyC.ints (h : TyC P t rcs) (hu : P.underlying t = some (.slice e)) (he : P.underlying e = some (.int .i64)) (hc : P.cellsOf e = 1) : ∃ l : List Int, rcs = [intsR l] ∧ l.length ≤ maxLen ∧ ∀ z ∈ l, I64 z := by
  obtain ⟨els, rfl, hl, hels⟩ := h.inv_slice hu
  obtain ⟨l, rfl, hq⟩ := els_of (f := fun z : Int => [RV.int z]) (Q := I64) fun el hel => (hels el hel).i64 he
  exact ⟨l, by rw [hc]; rfl, by simpa using hl, hq⟩
theorem TyC.bytes (h : TyC P t rcs) (hu : P.underlying t = some (.slice e)) (he : P.underlying e = some (.int .u8)) (hc : P.cellsOf e = 1) : ∃ l : List UInt8, rcs = [bytesR l] ∧ l.length ≤ maxLen := by
  obtain ⟨els, rfl, hl, hels⟩ := h.inv_slice hu
  obtain ⟨l, rfl, _⟩ := els_of (f := fun z : UInt8 => [RV.u8 z]) (Q := fun _ => True) fun el hel => (by obtain ⟨c, e⟩ := (hels el hel).byte he; exact ⟨c, e, trivial⟩)
  exact ⟨l, by rw [hc]; rfl, by simpa using hl⟩
theorem TyC.strs (h : TyC P t rcs) (hu : P.underlying t = some (.slice e)) (he : P.underlying e = some .string) (hc : P.cellsOf e = 1) : ∃ l : List ByteArray, rcs = [strsR l] ∧ l.length ≤ maxLen ∧ ∀ s ∈ l, s.size ≤ maxLen := by
  obtain ⟨els, rfl, hl, hels⟩ := h.inv_slice hu
  obtain ⟨l, rfl, hq⟩ := els_of (f := fun s : ByteArray => [RV.str s]) (Q := fun s => s.size ≤ maxLen) fun el hel => (hels el hel).inv_str he
  exact ⟨l, by rw [hc]; rfl, by simpa using hl, hq⟩
end
theorem cons_rels {w : World} {r : RV} {rs : List RV} {u : Value} {us : List Value} (h : RV.Rels w [r] [u]) (hs : RV.Rels w rs us) : RV.Rels w (r :: rs) (u :: us) := by
  simp only [RV.Rels, RV.rels] at h hs ⊢
  obtain ⟨u', us', e, h1, rfl⟩ := h
  injection e with e1 e2; subst e1
  exact ⟨u, us, rfl, h1, hs⟩
theorem nil_rels {w : World} : RV.Rels w [] [] := by simp [RV.Rels, RV.rels]
end Go.Proofs.Ytkhnijggbfoimaa
/- What the tables of this program say, as instances. Printed by a program (tab.py). -/
namespace Go.Proofs.Ytkhnijggbfoimaa
set_option maxRecDepth 100000
instance : T1 Try.prog 2 := ⟨by kernel_rfl⟩
instance : TI Try.prog 2 .i64 := ⟨Try.underlying2⟩
instance : TZ Try.prog 2 [(.int .i64 0)] := ⟨_, _, rfl, rfl, rfl, by decide⟩
instance : T1 Try.prog 3 := ⟨by kernel_rfl⟩
instance : TI Try.prog 3 .i64 := ⟨Try.underlying3⟩
instance : TZ Try.prog 3 [(.int .i64 0)] := ⟨_, _, rfl, rfl, rfl, by decide⟩
instance : T1 Try.prog 4 := ⟨by kernel_rfl⟩
instance : TZ Try.prog 4 [(.bool false)] := ⟨_, _, rfl, rfl, rfl, by decide⟩
instance : T1 Try.prog 5 := ⟨by kernel_rfl⟩
instance : TI Try.prog 5 .u8 := ⟨Try.underlying5⟩
instance : TZ Try.prog 5 [(.int .u8 0)] := ⟨_, _, rfl, rfl, rfl, by decide⟩
instance : T1 Try.prog 6 := ⟨by kernel_rfl⟩
instance : TI Try.prog 6 .u8 := ⟨Try.underlying6⟩
instance : TZ Try.prog 6 [(.int .u8 0)] := ⟨_, _, rfl, rfl, rfl, by decide⟩
instance : FA Try.prog 7 0 0 := ⟨by kernel_rfl⟩
instance : FA Try.prog 7 1 1 := ⟨by kernel_rfl⟩
instance : FA Try.prog 7 2 2 := ⟨by kernel_rfl⟩
instance : FA Try.prog 7 3 3 := ⟨by kernel_rfl⟩
instance : TN Try.prog 7 4 := ⟨by kernel_rfl⟩
instance : TZ Try.prog 7 [(.int .i64 0), (.int .i64 0), (.bool false), (.int .u8 0)] := ⟨_, _, rfl, rfl, rfl, by decide⟩
instance : FA Try.prog 8 0 0 := ⟨by kernel_rfl⟩
instance : FA Try.prog 8 1 1 := ⟨by kernel_rfl⟩
instance : FA Try.prog 8 2 2 := ⟨by kernel_rfl⟩
instance : FA Try.prog 8 3 3 := ⟨by kernel_rfl⟩
instance : TN Try.prog 8 4 := ⟨by kernel_rfl⟩
instance : TZ Try.prog 8 [(.int .i64 0), (.int .i64 0), (.bool false), (.int .u8 0)] := ⟨_, _, rfl, rfl, rfl, by decide⟩
instance : T1 Try.prog 9 := ⟨by kernel_rfl⟩
instance : TS Try.prog 9 := ⟨Try.underlying9⟩
instance : TZ Try.prog 9 [(.string ⟨#[]⟩)] := ⟨_, _, rfl, rfl, rfl, by decide⟩
instance : T1 Try.prog 10 := ⟨by kernel_rfl⟩
instance : TS Try.prog 10 := ⟨Try.underlying10⟩
instance : TZ Try.prog 10 [(.string ⟨#[]⟩)] := ⟨_, _, rfl, rfl, rfl, by decide⟩
instance : T1 Try.prog 11 := ⟨by kernel_rfl⟩
instance : TS Try.prog 11 := ⟨Try.underlying11⟩
instance : TZ Try.prog 11 [(.string ⟨#[]⟩)] := ⟨_, _, rfl, rfl, rfl, by decide⟩
instance : T1 Try.prog 12 := ⟨by kernel_rfl⟩
instance : TI Try.prog 12 .u64 := ⟨Try.underlying12⟩
instance : TZ Try.prog 12 [(.int .u64 0)] := ⟨_, _, rfl, rfl, rfl, by decide⟩
instance : FA Try.prog 13 0 0 := ⟨by kernel_rfl⟩
instance : FA Try.prog 13 1 1 := ⟨by kernel_rfl⟩
instance : TN Try.prog 13 2 := ⟨by kernel_rfl⟩
instance : TZ Try.prog 13 [(.string ⟨#[]⟩), (.int .u64 0)] := ⟨_, _, rfl, rfl, rfl, by decide⟩
instance : FA Try.prog 14 0 0 := ⟨by kernel_rfl⟩
instance : FA Try.prog 14 1 1 := ⟨by kernel_rfl⟩
instance : TN Try.prog 14 2 := ⟨by kernel_rfl⟩
instance : TZ Try.prog 14 [(.string ⟨#[]⟩), (.int .u64 0)] := ⟨_, _, rfl, rfl, rfl, by decide⟩
instance : T1 Try.prog 15 := ⟨by kernel_rfl⟩
instance : TZ Try.prog 15 [(.pointer none)] := ⟨_, _, rfl, rfl, rfl, by decide⟩
instance : T1 Try.prog 16 := ⟨by kernel_rfl⟩
instance : TZ Try.prog 16 [(.pointer none)] := ⟨_, _, rfl, rfl, rfl, by decide⟩
instance : T1 Try.prog 17 := ⟨by kernel_rfl⟩
instance : TZ Try.prog 17 [(.pointer none)] := ⟨_, _, rfl, rfl, rfl, by decide⟩
instance : FA Try.prog 18 0 0 := ⟨by kernel_rfl⟩
instance : TN Try.prog 18 1 := ⟨by kernel_rfl⟩
instance : TZ Try.prog 18 [(.pointer none)] := ⟨_, _, rfl, rfl, rfl, by decide⟩
instance : FA Try.prog 19 0 0 := ⟨by kernel_rfl⟩
instance : TN Try.prog 19 1 := ⟨by kernel_rfl⟩
instance : TZ Try.prog 19 [(.pointer none)] := ⟨_, _, rfl, rfl, rfl, by decide⟩
instance : T1 Try.prog 21 := ⟨by kernel_rfl⟩
instance : TI Try.prog 21 .i32 := ⟨Try.underlying21⟩
instance : TZ Try.prog 21 [(.int .i32 0)] := ⟨_, _, rfl, rfl, rfl, by decide⟩
instance : T1 Try.prog 22 := ⟨by kernel_rfl⟩
instance : TZ Try.prog 22 [(.slice none 0 0)] := ⟨_, _, rfl, rfl, rfl, by decide⟩
instance : SL Try.prog 22 76 (.agg #[(.int .i64 0), (.int .i64 0), (.int .i64 0)]) 3 24 := ⟨Elem.mk' Try.underlying22 (by kernel_rfl) rfl (by decide)⟩
instance : T1 Try.prog 23 := ⟨by kernel_rfl⟩
instance : TZ Try.prog 23 [(.slice none 0 0)] := ⟨_, _, rfl, rfl, rfl, by decide⟩
instance : SL Try.prog 23 3 ((.int .i64 0)) 1 8 := ⟨Elem.mk' Try.underlying23 (by kernel_rfl) rfl (by decide)⟩
instance : FA Try.prog 24 0 0 := ⟨by kernel_rfl⟩
instance : FA Try.prog 24 1 1 := ⟨by kernel_rfl⟩
instance : TN Try.prog 24 2 := ⟨by kernel_rfl⟩
instance : TZ Try.prog 24 [(.slice none 0 0), (.slice none 0 0)] := ⟨_, _, rfl, rfl, rfl, by decide⟩
instance : FA Try.prog 25 0 0 := ⟨by kernel_rfl⟩
instance : FA Try.prog 25 1 1 := ⟨by kernel_rfl⟩
instance : TN Try.prog 25 2 := ⟨by kernel_rfl⟩
instance : TZ Try.prog 25 [(.slice none 0 0), (.slice none 0 0)] := ⟨_, _, rfl, rfl, rfl, by decide⟩
instance : FA Try.prog 26 0 0 := ⟨by kernel_rfl⟩
instance : FA Try.prog 26 1 1 := ⟨by kernel_rfl⟩
instance : FA Try.prog 26 2 2 := ⟨by kernel_rfl⟩
instance : FA Try.prog 26 3 3 := ⟨by kernel_rfl⟩
instance : FA Try.prog 26 4 4 := ⟨by kernel_rfl⟩
instance : FA Try.prog 26 5 5 := ⟨by kernel_rfl⟩
instance : FA Try.prog 26 6 6 := ⟨by kernel_rfl⟩
instance : FA Try.prog 26 7 7 := ⟨by kernel_rfl⟩
instance : FA Try.prog 26 8 8 := ⟨by kernel_rfl⟩
instance : FA Try.prog 26 9 9 := ⟨by kernel_rfl⟩
instance : TN Try.prog 26 10 := ⟨by kernel_rfl⟩
instance : TZ Try.prog 26 [(.int .i64 0), (.int .i64 0), (.slice none 0 0), (.slice none 0 0), (.int .i64 0), (.bool false), (.bool false), (.int .i64 0), (.int .i64 0), (.int .i64 0)] := ⟨_, _, rfl, rfl, rfl, by decide⟩
instance : FA Try.prog 27 0 0 := ⟨by kernel_rfl⟩
instance : FA Try.prog 27 1 1 := ⟨by kernel_rfl⟩
instance : FA Try.prog 27 2 2 := ⟨by kernel_rfl⟩
instance : FA Try.prog 27 3 3 := ⟨by kernel_rfl⟩
instance : FA Try.prog 27 4 4 := ⟨by kernel_rfl⟩
instance : FA Try.prog 27 5 5 := ⟨by kernel_rfl⟩
instance : FA Try.prog 27 6 6 := ⟨by kernel_rfl⟩
instance : FA Try.prog 27 7 7 := ⟨by kernel_rfl⟩
instance : FA Try.prog 27 8 8 := ⟨by kernel_rfl⟩
instance : FA Try.prog 27 9 9 := ⟨by kernel_rfl⟩
instance : TN Try.prog 27 10 := ⟨by kernel_rfl⟩
instance : TZ Try.prog 27 [(.int .i64 0), (.int .i64 0), (.slice none 0 0), (.slice none 0 0), (.int .i64 0), (.bool false), (.bool false), (.int .i64 0), (.int .i64 0), (.int .i64 0)] := ⟨_, _, rfl, rfl, rfl, by decide⟩
instance : FA Try.prog 30 0 0 := ⟨by kernel_rfl⟩
instance : FA Try.prog 30 1 1 := ⟨by kernel_rfl⟩
instance : FA Try.prog 30 2 2 := ⟨by kernel_rfl⟩
instance : FA Try.prog 30 3 3 := ⟨by kernel_rfl⟩
instance : FA Try.prog 30 4 4 := ⟨by kernel_rfl⟩
instance : FA Try.prog 30 5 5 := ⟨by kernel_rfl⟩
instance : FA Try.prog 30 6 6 := ⟨by kernel_rfl⟩
instance : FA Try.prog 30 7 7 := ⟨by kernel_rfl⟩
instance : FA Try.prog 30 8 8 := ⟨by kernel_rfl⟩
instance : FA Try.prog 30 9 9 := ⟨by kernel_rfl⟩
instance : TN Try.prog 30 10 := ⟨by kernel_rfl⟩
instance : TZ Try.prog 30 [(.int .i64 0), (.int .i64 0), (.slice none 0 0), (.slice none 0 0), (.int .i64 0), (.bool false), (.bool false), (.int .i64 0), (.int .i64 0), (.int .i64 0)] := ⟨_, _, rfl, rfl, rfl, by decide⟩
instance : T1 Try.prog 32 := ⟨by kernel_rfl⟩
instance : TZ Try.prog 32 [(.slice none 0 0)] := ⟨_, _, rfl, rfl, rfl, by decide⟩
instance : SL Try.prog 32 74 (.agg #[(.int .i64 0), (.int .i64 0), (.int .i64 0)]) 3 24 := ⟨Elem.mk' Try.underlying32 (by kernel_rfl) rfl (by decide)⟩
instance : FA Try.prog 33 0 0 := ⟨by kernel_rfl⟩
instance : FA Try.prog 33 1 1 := ⟨by kernel_rfl⟩
instance : TN Try.prog 33 2 := ⟨by kernel_rfl⟩
instance : TZ Try.prog 33 [(.slice none 0 0), (.slice none 0 0)] := ⟨_, _, rfl, rfl, rfl, by decide⟩
instance : FA Try.prog 34 0 0 := ⟨by kernel_rfl⟩
instance : FA Try.prog 34 1 1 := ⟨by kernel_rfl⟩
instance : TN Try.prog 34 2 := ⟨by kernel_rfl⟩
instance : TZ Try.prog 34 [(.slice none 0 0), (.slice none 0 0)] := ⟨_, _, rfl, rfl, rfl, by decide⟩
instance : T1 Try.prog 44 := ⟨by kernel_rfl⟩
instance : TZ Try.prog 44 [(.slice none 0 0)] := ⟨_, _, rfl, rfl, rfl, by decide⟩
instance : SL Try.prog 44 5 ((.int .u8 0)) 1 1 := ⟨Elem.mk' Try.underlying44 (by kernel_rfl) rfl (by decide)⟩
instance : T1 Try.prog 60 := ⟨by kernel_rfl⟩
instance : TZ Try.prog 60 [(.pointer none)] := ⟨_, _, rfl, rfl, rfl, by decide⟩
instance : FA Try.prog 73 0 0 := ⟨by kernel_rfl⟩
instance : FA Try.prog 73 1 1 := ⟨by kernel_rfl⟩
instance : FA Try.prog 73 2 2 := ⟨by kernel_rfl⟩
instance : TN Try.prog 73 3 := ⟨by kernel_rfl⟩
instance : TZ Try.prog 73 [(.int .i64 0), (.int .i64 0), (.int .i64 0)] := ⟨_, _, rfl, rfl, rfl, by decide⟩
instance : FA Try.prog 74 0 0 := ⟨by kernel_rfl⟩
instance : FA Try.prog 74 1 1 := ⟨by kernel_rfl⟩
instance : FA Try.prog 74 2 2 := ⟨by kernel_rfl⟩
instance : TN Try.prog 74 3 := ⟨by kernel_rfl⟩
instance : TZ Try.prog 74 [(.int .i64 0), (.int .i64 0), (.int .i64 0)] := ⟨_, _, rfl, rfl, rfl, by decide⟩
instance : FA Try.prog 76 0 0 := ⟨by kernel_rfl⟩
instance : FA Try.prog 76 1 1 := ⟨by kernel_rfl⟩
instance : FA Try.prog 76 2 2 := ⟨by kernel_rfl⟩
instance : TN Try.prog 76 3 := ⟨by kernel_rfl⟩
instance : TZ Try.prog 76 [(.int .i64 0), (.int .i64 0), (.int .i64 0)] := ⟨_, _, rfl, rfl, rfl, by decide⟩
instance : TN Try.prog 87 18 := ⟨by kernel_rfl⟩
instance : AR Try.prog 87 18 1 := ⟨by kernel_rfl⟩
instance : T1 Try.prog 94 := ⟨by kernel_rfl⟩
instance : TZ Try.prog 94 [(.pointer none)] := ⟨_, _, rfl, rfl, rfl, by decide⟩
instance : FA Try.prog 102 0 0 := ⟨by kernel_rfl⟩
instance : FA Try.prog 102 1 1 := ⟨by kernel_rfl⟩
instance : FA Try.prog 102 2 2 := ⟨by kernel_rfl⟩
instance : FA Try.prog 102 3 3 := ⟨by kernel_rfl⟩
instance : TN Try.prog 102 4 := ⟨by kernel_rfl⟩
instance : TZ Try.prog 102 [(.pointer none), (.pointer none), (.pointer none), (.string ⟨#[]⟩)] := ⟨_, _, rfl, rfl, rfl, by decide⟩
instance : FA Try.prog 103 0 0 := ⟨by kernel_rfl⟩
instance : FA Try.prog 103 1 1 := ⟨by kernel_rfl⟩
instance : FA Try.prog 103 2 2 := ⟨by kernel_rfl⟩
instance : FA Try.prog 103 3 3 := ⟨by kernel_rfl⟩
instance : TN Try.prog 103 4 := ⟨by kernel_rfl⟩
instance : TZ Try.prog 103 [(.pointer none), (.pointer none), (.pointer none), (.string ⟨#[]⟩)] := ⟨_, _, rfl, rfl, rfl, by decide⟩
instance : TN Try.prog 104 0 := ⟨by kernel_rfl⟩
instance : AR Try.prog 104 0 1 := ⟨by kernel_rfl⟩
instance : T1 Try.prog 108 := ⟨by kernel_rfl⟩
instance : TI Try.prog 108 .u32 := ⟨Try.underlying108⟩
instance : TZ Try.prog 108 [(.int .u32 0)] := ⟨_, _, rfl, rfl, rfl, by decide⟩
instance : T1 Try.prog 109 := ⟨by kernel_rfl⟩
instance : TI Try.prog 109 .u8 := ⟨Try.underlying109⟩
instance : TZ Try.prog 109 [(.int .u8 0)] := ⟨_, _, rfl, rfl, rfl, by decide⟩
instance : T1 Try.prog 110 := ⟨by kernel_rfl⟩
instance : TI Try.prog 110 .u8 := ⟨Try.underlying110⟩
instance : TZ Try.prog 110 [(.int .u8 0)] := ⟨_, _, rfl, rfl, rfl, by decide⟩
instance : T1 Try.prog 112 := ⟨by kernel_rfl⟩
instance : TZ Try.prog 112 [(.pointer none)] := ⟨_, _, rfl, rfl, rfl, by decide⟩
instance : T1 Try.prog 113 := ⟨by kernel_rfl⟩
instance : TI Try.prog 113 .i32 := ⟨Try.underlying113⟩
instance : TZ Try.prog 113 [(.int .i32 0)] := ⟨_, _, rfl, rfl, rfl, by decide⟩
instance : T1 Try.prog 114 := ⟨by kernel_rfl⟩
instance : TI Try.prog 114 .i32 := ⟨Try.underlying114⟩
instance : TZ Try.prog 114 [(.int .i32 0)] := ⟨_, _, rfl, rfl, rfl, by decide⟩
instance : FA Try.prog 115 0 0 := ⟨by kernel_rfl⟩
instance : FA Try.prog 115 1 1 := ⟨by kernel_rfl⟩
instance : FA Try.prog 115 2 2 := ⟨by kernel_rfl⟩
instance : FA Try.prog 115 3 3 := ⟨by kernel_rfl⟩
instance : FA Try.prog 115 4 4 := ⟨by kernel_rfl⟩
instance : FA Try.prog 115 5 5 := ⟨by kernel_rfl⟩
instance : FA Try.prog 115 6 6 := ⟨by kernel_rfl⟩
instance : FA Try.prog 115 8 8 := ⟨by kernel_rfl⟩
instance : FA Try.prog 115 9 9 := ⟨by kernel_rfl⟩
instance : FA Try.prog 115 10 10 := ⟨by kernel_rfl⟩
instance : TN Try.prog 115 11 := ⟨by kernel_rfl⟩
instance : TZ Try.prog 115 [(.int .u64 0), (.int .u64 0), (.int .u32 0), (.int .u8 0), (.int .u8 0), (.int .u8 0), (.int .u8 0), .nilFunc, (.pointer none), (.int .i32 0), (.int .i32 0)] := ⟨_, _, rfl, rfl, rfl, by decide⟩
instance : FA Try.prog 116 0 0 := ⟨by kernel_rfl⟩
instance : FA Try.prog 116 1 1 := ⟨by kernel_rfl⟩
instance : FA Try.prog 116 2 2 := ⟨by kernel_rfl⟩
instance : FA Try.prog 116 3 3 := ⟨by kernel_rfl⟩
instance : FA Try.prog 116 4 4 := ⟨by kernel_rfl⟩
instance : FA Try.prog 116 5 5 := ⟨by kernel_rfl⟩
instance : FA Try.prog 116 6 6 := ⟨by kernel_rfl⟩
instance : FA Try.prog 116 8 8 := ⟨by kernel_rfl⟩
instance : FA Try.prog 116 9 9 := ⟨by kernel_rfl⟩
instance : FA Try.prog 116 10 10 := ⟨by kernel_rfl⟩
instance : TN Try.prog 116 11 := ⟨by kernel_rfl⟩
instance : TZ Try.prog 116 [(.int .u64 0), (.int .u64 0), (.int .u32 0), (.int .u8 0), (.int .u8 0), (.int .u8 0), (.int .u8 0), .nilFunc, (.pointer none), (.int .i32 0), (.int .i32 0)] := ⟨_, _, rfl, rfl, rfl, by decide⟩
instance : FN Try.prog 3 Try.f3 := ⟨Try.func3, by kernel_rfl, by kernel_rfl⟩
instance : FN Try.prog 4 Try.f4 := ⟨Try.func4, by kernel_rfl, by kernel_rfl⟩
instance : FN Try.prog 5 Try.f5 := ⟨Try.func5, by kernel_rfl, by kernel_rfl⟩
instance : FN Try.prog 6 Try.f6 := ⟨Try.func6, by kernel_rfl, by kernel_rfl⟩
instance : FN Try.prog 7 Try.f7 := ⟨Try.func7, by kernel_rfl, by kernel_rfl⟩
instance : FN Try.prog 8 Try.f8 := ⟨Try.func8, by kernel_rfl, by kernel_rfl⟩
instance : FN Try.prog 9 Try.f9 := ⟨Try.func9, by kernel_rfl, by kernel_rfl⟩
instance : FN Try.prog 10 Try.f10 := ⟨Try.func10, by kernel_rfl, by kernel_rfl⟩
instance : FN Try.prog 11 Try.f11 := ⟨Try.func11, by kernel_rfl, by kernel_rfl⟩
instance : FN Try.prog 12 Try.f12 := ⟨Try.func12, by kernel_rfl, by kernel_rfl⟩
instance : FN Try.prog 13 Try.f13 := ⟨Try.func13, by kernel_rfl, by kernel_rfl⟩
instance : FN Try.prog 14 Try.f14 := ⟨Try.func14, by kernel_rfl, by kernel_rfl⟩
instance : FN Try.prog 15 Try.f15 := ⟨Try.func15, by kernel_rfl, by kernel_rfl⟩
instance : FN Try.prog 16 Try.f16 := ⟨Try.func16, by kernel_rfl, by kernel_rfl⟩
instance : FN Try.prog 17 Try.f17 := ⟨Try.func17, by kernel_rfl, by kernel_rfl⟩
instance : FN Try.prog 18 Try.f18 := ⟨Try.func18, by kernel_rfl, by kernel_rfl⟩
instance : FN Try.prog 19 Try.f19 := ⟨Try.func19, by kernel_rfl, by kernel_rfl⟩
instance : FN Try.prog 20 Try.f20 := ⟨Try.func20, by kernel_rfl, by kernel_rfl⟩
instance : FN Try.prog 21 Try.f21 := ⟨Try.func21, by kernel_rfl, by kernel_rfl⟩
instance : FN Try.prog 22 Try.f22 := ⟨Try.func22, by kernel_rfl, by kernel_rfl⟩
instance : FN Try.prog 23 Try.f23 := ⟨Try.func23, by kernel_rfl, by kernel_rfl⟩
instance : FN Try.prog 24 Try.f24 := ⟨Try.func24, by kernel_rfl, by kernel_rfl⟩
instance : FN Try.prog 25 Try.f25 := ⟨Try.func25, by kernel_rfl, by kernel_rfl⟩
instance : FN Try.prog 26 Try.f26 := ⟨Try.func26, by kernel_rfl, by kernel_rfl⟩
instance : FN Try.prog 27 Try.f27 := ⟨Try.func27, by kernel_rfl, by kernel_rfl⟩
instance : FN Try.prog 28 Try.f28 := ⟨Try.func28, by kernel_rfl, by kernel_rfl⟩
instance : FN Try.prog 29 Try.f29 := ⟨Try.func29, by kernel_rfl, by kernel_rfl⟩
instance : FN Try.prog 30 Try.f30 := ⟨Try.func30, by kernel_rfl, by kernel_rfl⟩
instance : FN Try.prog 31 Try.f31 := ⟨Try.func31, by kernel_rfl, by kernel_rfl⟩
instance : FN Try.prog 32 Try.f32 := ⟨Try.func32, by kernel_rfl, by kernel_rfl⟩
instance : FN Try.prog 33 Try.f33 := ⟨Try.func33, by kernel_rfl, by kernel_rfl⟩
instance : FN Try.prog 34 Try.f34 := ⟨Try.func34, by kernel_rfl, by kernel_rfl⟩
instance : FN Try.prog 35 Try.f35 := ⟨Try.func35, by kernel_rfl, by kernel_rfl⟩
instance : FN Try.prog 36 Try.f36 := ⟨Try.func36, by kernel_rfl, by kernel_rfl⟩
instance : FN Try.prog 37 Try.f37 := ⟨Try.func37, by kernel_rfl, by kernel_rfl⟩
instance : FN Try.prog 38 Try.f38 := ⟨Try.func38, by kernel_rfl, by kernel_rfl⟩
instance : FN Try.prog 39 Try.f39 := ⟨Try.func39, by kernel_rfl, by kernel_rfl⟩
instance : FN Try.prog 40 Try.f40 := ⟨Try.func40, by kernel_rfl, by kernel_rfl⟩
instance : FN Try.prog 41 Try.f41 := ⟨Try.func41, by kernel_rfl, by kernel_rfl⟩
instance : FN Try.prog 42 Try.f42 := ⟨Try.func42, by kernel_rfl, by kernel_rfl⟩
instance : FN Try.prog 43 Try.f43 := ⟨Try.func43, by kernel_rfl, by kernel_rfl⟩
instance : FN Try.prog 44 Try.f44 := ⟨Try.func44, by kernel_rfl, by kernel_rfl⟩
instance : FN Try.prog 45 Try.f45 := ⟨Try.func45, by kernel_rfl, by kernel_rfl⟩
instance : FN Try.prog 46 Try.f46 := ⟨Try.func46, by kernel_rfl, by kernel_rfl⟩
instance : FN Try.prog 47 Try.f47 := ⟨Try.func47, by kernel_rfl, by kernel_rfl⟩
instance : FN Try.prog 48 Try.f48 := ⟨Try.func48, by kernel_rfl, by kernel_rfl⟩
instance : FN Try.prog 49 Try.f49 := ⟨Try.func49, by kernel_rfl, by kernel_rfl⟩
instance : FN Try.prog 50 Try.f50 := ⟨Try.func50, by kernel_rfl, by kernel_rfl⟩
instance : FN Try.prog 51 Try.f51 := ⟨Try.func51, by kernel_rfl, by kernel_rfl⟩
instance : FN Try.prog 52 Try.f52 := ⟨Try.func52, by kernel_rfl, by kernel_rfl⟩
instance : FN Try.prog 53 Try.f53 := ⟨Try.func53, by kernel_rfl, by kernel_rfl⟩
instance : FN Try.prog 54 Try.f54 := ⟨Try.func54, by kernel_rfl, by kernel_rfl⟩
instance : FN Try.prog 55 Try.f55 := ⟨Try.func55, by kernel_rfl, by kernel_rfl⟩
instance : FN Try.prog 56 Try.f56 := ⟨Try.func56, by kernel_rfl, by kernel_rfl⟩
instance : FN Try.prog 57 Try.f57 := ⟨Try.func57, by kernel_rfl, by kernel_rfl⟩
instance : FN Try.prog 58 Try.f58 := ⟨Try.func58, by kernel_rfl, by kernel_rfl⟩
instance : FN Try.prog 59 Try.f59 := ⟨Try.func59, by kernel_rfl, by kernel_rfl⟩
instance : FN Try.prog 60 Try.f60 := ⟨Try.func60, by kernel_rfl, by kernel_rfl⟩
instance : FN Try.prog 61 Try.f61 := ⟨Try.func61, by kernel_rfl, by kernel_rfl⟩
instance : FN Try.prog 62 Try.f62 := ⟨Try.func62, by kernel_rfl, by kernel_rfl⟩
instance : FN Try.prog 63 Try.f63 := ⟨Try.func63, by kernel_rfl, by kernel_rfl⟩
instance : FN Try.prog 64 Try.f64 := ⟨Try.func64, by kernel_rfl, by kernel_rfl⟩
instance : FN Try.prog 65 Try.f65 := ⟨Try.func65, by kernel_rfl, by kernel_rfl⟩
instance : FN Try.prog 66 Try.f66 := ⟨Try.func66, by kernel_rfl, by kernel_rfl⟩
instance : FN Try.prog 67 Try.f67 := ⟨Try.func67, by kernel_rfl, by kernel_rfl⟩
instance : FN Try.prog 68 Try.f68 := ⟨Try.func68, by kernel_rfl, by kernel_rfl⟩
instance : FN Try.prog 69 Try.f69 := ⟨Try.func69, by kernel_rfl, by kernel_rfl⟩
instance : FN Try.prog 70 Try.f70 := ⟨Try.func70, by kernel_rfl, by kernel_rfl⟩
instance : FN Try.prog 71 Try.f71 := ⟨Try.func71, by kernel_rfl, by kernel_rfl⟩
instance : FN Try.prog 72 Try.f72 := ⟨Try.func72, by kernel_rfl, by kernel_rfl⟩
instance : FN Try.prog 73 Try.f73 := ⟨Try.func73, by kernel_rfl, by kernel_rfl⟩
instance : FN Try.prog 74 Try.f74 := ⟨Try.func74, by kernel_rfl, by kernel_rfl⟩
instance : FN Try.prog 75 Try.f75 := ⟨Try.func75, by kernel_rfl, by kernel_rfl⟩
instance : FN Try.prog 76 Try.f76 := ⟨Try.func76, by kernel_rfl, by kernel_rfl⟩
instance : FN Try.prog 77 Try.f77 := ⟨Try.func77, by kernel_rfl, by kernel_rfl⟩
instance : FN Try.prog 78 Try.f78 := ⟨Try.func78, by kernel_rfl, by kernel_rfl⟩
instance : FN Try.prog 79 Try.f79 := ⟨Try.func79, by kernel_rfl, by kernel_rfl⟩
instance : FN Try.prog 80 Try.f80 := ⟨Try.func80, by kernel_rfl, by kernel_rfl⟩
instance : FN Try.prog 81 Try.f81 := ⟨Try.func81, by kernel_rfl, by kernel_rfl⟩
instance : FN Try.prog 82 Try.f82 := ⟨Try.func82, by kernel_rfl, by kernel_rfl⟩
instance : FN Try.prog 83 Try.f83 := ⟨Try.func83, by kernel_rfl, by kernel_rfl⟩
instance : FN Try.prog 84 Try.f84 := ⟨Try.func84, by kernel_rfl, by kernel_rfl⟩
instance : FN Try.prog 85 Try.f85 := ⟨Try.func85, by kernel_rfl, by kernel_rfl⟩
instance : FN Try.prog 86 Try.f86 := ⟨Try.func86, by kernel_rfl, by kernel_rfl⟩
instance : FN Try.prog 87 Try.f87 := ⟨Try.func87, by kernel_rfl, by kernel_rfl⟩
instance : FN Try.prog 88 Try.f88 := ⟨Try.func88, by kernel_rfl, by kernel_rfl⟩
instance : FN Try.prog 89 Try.f89 := ⟨Try.func89, by kernel_rfl, by kernel_rfl⟩
instance : FN Try.prog 90 Try.f90 := ⟨Try.func90, by kernel_rfl, by kernel_rfl⟩
instance : FN Try.prog 91 Try.f91 := ⟨Try.func91, by kernel_rfl, by kernel_rfl⟩
instance : FN Try.prog 92 Try.f92 := ⟨Try.func92, by kernel_rfl, by kernel_rfl⟩
instance : FN Try.prog 93 Try.f93 := ⟨Try.func93, by kernel_rfl, by kernel_rfl⟩
instance : FN Try.prog 94 Try.f94 := ⟨Try.func94, by kernel_rfl, by kernel_rfl⟩
instance : FN Try.prog 95 Try.f95 := ⟨Try.func95, by kernel_rfl, by kernel_rfl⟩
instance : FN Try.prog 96 Try.f96 := ⟨Try.func96, by kernel_rfl, by kernel_rfl⟩
instance : FN Try.prog 97 Try.f97 := ⟨Try.func97, by kernel_rfl, by kernel_rfl⟩
instance : FN Try.prog 98 Try.f98 := ⟨Try.func98, by kernel_rfl, by kernel_rfl⟩
instance : FN Try.prog 99 Try.f99 := ⟨Try.func99, by kernel_rfl, by kernel_rfl⟩
instance : FN Try.prog 100 Try.f100 := ⟨Try.func100, by kernel_rfl, by kernel_rfl⟩
instance : FN Try.prog 101 Try.f101 := ⟨Try.func101, by kernel_rfl, by kernel_rfl⟩
instance : FN Try.prog 102 Try.f102 := ⟨Try.func102, by kernel_rfl, by kernel_rfl⟩
instance : FN Try.prog 103 Try.f103 := ⟨Try.func103, by kernel_rfl, by kernel_rfl⟩
instance : FN Try.prog 104 Try.f104 := ⟨Try.func104, by kernel_rfl, by kernel_rfl⟩
instance : FN Try.prog 105 Try.f105 := ⟨Try.func105, by kernel_rfl, by kernel_rfl⟩
instance : FN Try.prog 106 Try.f106 := ⟨Try.func106, by kernel_rfl, by kernel_rfl⟩
instance : FN Try.prog 107 Try.f107 := ⟨Try.func107, by kernel_rfl, by kernel_rfl⟩
instance : FN Try.prog 108 Try.f108 := ⟨Try.func108, by kernel_rfl, by kernel_rfl⟩
def tab : Tab := ⟨[(25, [0, 1]), (27, [0, 1, 2, 3, 4, 5, 6, 7, 8, 9]), (30, [0, 1, 2, 3, 4, 5, 6, 7, 8, 9]), (34, [0, 1]), (74, [0, 1, 2]), (76, [0, 1, 2])], [2, 3, 4, 5, 9, 21, 22, 23, 32, 44, 60, 94, 108, 112], [(25, 2), (27, 10), (30, 10), (34, 2), (74, 3), (76, 3), (87, 18), (104, 0)], [22, 23, 32, 44], [9], [4]⟩
theorem tabOk : TabOk Try.prog tab := ⟨by kernel_rfl, by kernel_rfl, by kernel_rfl, by kernel_rfl, by kernel_rfl, by kernel_rfl⟩
theorem mixed : Try.prog.follows .mixedOrders = true := by kernel_rfl
def plains : List Nat := [2, 3, 4, 5, 6, 7, 9, 12, 13, 21, 22, 23, 24, 25, 26, 27, 30, 32, 33, 34, 44, 73, 74, 76, 108]
theorem plainsOk : (plains.all (typB Try.prog plains)) = true := by kernel_rfl
end Go.Proofs.Ytkhnijggbfoimaa
/- The laws' own helpers on slices of integers, over values: sizes, copies, comparisons. -/
namespace Go.Proofs.Ytkhnijggbfoimaa
set_option linter.unusedSimpArgs false
set_option linter.unusedVariables false
open Go.RowKit
/-- What is left of a size. -/
def sz1 (left n : Int) : Int := if left < n then -1 else left - n
theorem sz1_neg {left n : Int} (h : left < n) : sz1 left n = -1 := if_pos h
theorem sz1_pos {left n : Int} (h : n ≤ left) : sz1 left n = left - n := if_neg (by omega)
theorem sz1_lt {left n : Int} (h : sz1 left n < 0) : sz1 left n = -1 := by
  by_cases hl : left < n
  · exact sz1_neg hl
  · rw [sz1_pos (by omega)] at h; omega
theorem sz1_ge {left n : Int} (h : ¬ sz1 left n < 0) : n ≤ left := by
  by_cases hl : left < n
  · rw [sz1_neg hl] at h; omega
  · omega
theorem seals_ints (e : TypeId) (l : List Int) : Seals (.row e 1 (l.map RV.int)) (intsR l) := by
  have h := seals_row1 e (l.map RV.int)
  rwa [List.map_map] at h
theorem take_set {α : Type} (l : List α) (z : α) (n k : Nat) (hn : l.length = n) (x : α) (hx : l[k]? = some x) : (l.take k ++ List.replicate (n - k) z).set k x = l.take (k + 1) ++ List.replicate (n - (k + 1)) z := by
  obtain ⟨hk, rfl⟩ := List.getElem?_eq_some_iff.1 hx
  exact set_step l z n k hn (by omega) hk
theorem szInts_ac (a : List Int) (left : Int) (h0 : 0 ≤ left) (h1 : left ≤ 1048576) (hl : a.length ≤ maxLen) : ACv Try.prog 31 [intsR a, .int left] (.int (sz1 left a.length)) := by
  unfold maxLen at hl
  refine ac_enter Try.func31 rfl _ Try.ntmps31 (by simp) fun C hn hm => ?_
  by_cases h : left < (a.length : Int)
  · repeat' (first
 | refine RunsL.step tabOk hn rfl ?_
 | refine RunsL.nil ?_
 | refine Runs.toRegion 30 rfl ?_
 | (refine RunsL.pe hn rfl rfl rfl ?_; first
 | refine ⟨_, pu_sub rfl rfl (by first | omega | (simp only [List.length_map]; omega)), ?_⟩)
 | (refine Runs.ctls 30 rfl ?_; first | refine Runs.cond_t rfl ?_ | refine Runs.cond_f rfl ?_ | ((first | refine Runs.cond_yes rfl ?_ ?_ | refine Runs.cond_nno rfl ?_ ?_); · first | omega | rfl | assumption | (simp only [List.length_map]; omega)) | ((first | refine Runs.cond_no rfl ?_ ?_ | refine Runs.cond_nyes rfl ?_ ?_); · first | omega | rfl | assumption | (simp only [List.length_map]; omega)) | refine Runs.cond_dec rfl (fun h => ?_) (fun h => ?_) | refine Runs.cond_ndec rfl (fun h => ?_) (fun h => ?_) | refine Runs.cond_nb rfl (fun h => ?_) (fun h => ?_) | refine Runs.cond_b rfl (fun h => ?_) (fun h => ?_) | refine Runs.ret (ends_ro hm rfl rfl ?_) | exact Runs.ret (ends_cellR hm rfl rfl rfl (Nat.le_of_ble_eq_true rfl) rfl rfl))
 | refine op_box rfl (tl hn rfl) ?_
 | refine op_storeF rfl rfl rfl rfl (Nat.le_of_ble_eq_true rfl) ?_
 | refine op_alloc (tl hn rfl) ?_
 | refine op_storeN rfl rfl rfl rfl (Nat.le_of_ble_eq_true rfl) ?_
 | (refine RunsL.pe hn rfl rfl rfl ?_; first
 | refine ⟨_, pu_add rfl rfl (by omega), ?_⟩
 | refine ⟨_, pu_indexAddr_map rfl rfl (by omega) (by assumption), ?_⟩
 | refine ⟨_, pu_sub rfl rfl (by omega), ?_⟩
 | refine ⟨_, pu_pick_b rfl rfl rfl, ?_⟩
 | refine ⟨_, pu_mul rfl rfl (by omega), ?_⟩
 | refine ⟨_, pu_build rfl rfl rfl rfl rfl rfl, ?_⟩))
    exact rr_int (sz1_neg h).symm
  · repeat' (first
 | refine RunsL.step tabOk hn rfl ?_
 | refine RunsL.nil ?_
 | refine Runs.toRegion 30 rfl ?_
 | (refine RunsL.pe hn rfl rfl rfl ?_; first
 | refine ⟨_, pu_sub rfl rfl (by first | omega | (simp only [List.length_map]; omega)), ?_⟩)
 | (refine Runs.ctls 30 rfl ?_; first | refine Runs.cond_t rfl ?_ | refine Runs.cond_f rfl ?_ | ((first | refine Runs.cond_yes rfl ?_ ?_ | refine Runs.cond_nno rfl ?_ ?_); · first | omega | rfl | assumption | (simp only [List.length_map]; omega)) | ((first | refine Runs.cond_no rfl ?_ ?_ | refine Runs.cond_nyes rfl ?_ ?_); · first | omega | rfl | assumption | (simp only [List.length_map]; omega)) | refine Runs.cond_dec rfl (fun h => ?_) (fun h => ?_) | refine Runs.cond_ndec rfl (fun h => ?_) (fun h => ?_) | refine Runs.cond_nb rfl (fun h => ?_) (fun h => ?_) | refine Runs.cond_b rfl (fun h => ?_) (fun h => ?_) | refine Runs.ret (ends_ro hm rfl rfl ?_) | exact Runs.ret (ends_cellR hm rfl rfl rfl (Nat.le_of_ble_eq_true rfl) rfl rfl))
 | refine op_box rfl (tl hn rfl) ?_
 | refine op_storeF rfl rfl rfl rfl (Nat.le_of_ble_eq_true rfl) ?_
 | refine op_alloc (tl hn rfl) ?_
 | refine op_storeN rfl rfl rfl rfl (Nat.le_of_ble_eq_true rfl) ?_
 | (refine RunsL.pe hn rfl rfl rfl ?_; first
 | refine ⟨_, pu_add rfl rfl (by omega), ?_⟩
 | refine ⟨_, pu_indexAddr_map rfl rfl (by omega) (by assumption), ?_⟩
 | refine ⟨_, pu_sub rfl rfl (by omega), ?_⟩
 | refine ⟨_, pu_pick_b rfl rfl rfl, ?_⟩
 | refine ⟨_, pu_mul rfl rfl (by omega), ?_⟩
 | refine ⟨_, pu_build rfl rfl rfl rfl rfl rfl, ?_⟩))
    exact rr_int (by rw [sz1_pos (by omega)]; simp)
theorem eqInts_ac (a : List Int) (hl : a.length ≤ maxLen) : ACv Try.prog 42 [intsR a, intsR a] (.bool true) := by
  unfold maxLen at hl
  refine ac_enter Try.func42 rfl _ Try.ntmps42 (by simp) fun C hn hm => ?_
  repeat' (first
 | refine RunsL.step tabOk hn rfl ?_
 | refine RunsL.nil ?_
 | refine Runs.toRegion 30 rfl ?_
 | (refine Runs.ctls 30 rfl ?_; first | refine Runs.cond_t rfl ?_ | refine Runs.cond_f rfl ?_ | ((first | refine Runs.cond_yes rfl ?_ ?_ | refine Runs.cond_nno rfl ?_ ?_); · first | omega | rfl | assumption | (simp only [List.length_map]; omega)) | ((first | refine Runs.cond_no rfl ?_ ?_ | refine Runs.cond_nyes rfl ?_ ?_); · first | omega | rfl | assumption | (simp only [List.length_map]; omega)) | refine Runs.cond_dec rfl (fun h => ?_) (fun h => ?_) | refine Runs.cond_ndec rfl (fun h => ?_) (fun h => ?_) | refine Runs.cond_nb rfl (fun h => ?_) (fun h => ?_) | refine Runs.cond_b rfl (fun h => ?_) (fun h => ?_) | refine Runs.ret (ends_ro hm rfl rfl ?_) | exact Runs.ret (ends_cellR hm rfl rfl rfl (Nat.le_of_ble_eq_true rfl) rfl rfl))
 | refine op_box rfl (tl hn rfl) ?_
 | refine op_storeF rfl rfl rfl rfl (Nat.le_of_ble_eq_true rfl) ?_
 | refine op_alloc (tl hn rfl) ?_
 | refine op_storeN rfl rfl rfl rfl (Nat.le_of_ble_eq_true rfl) ?_
 | refine RunsD.step tabOk hn rfl rfl ?_
 | refine RunsD.nil ?_
 | refine Runs.toDraw 30 mixed hn rfl (by kernel_rfl) rfl ?_
 | ((first | refine RunsL.pe hn rfl rfl rfl ?_ | refine RunsD.pe rfl rfl ?_); first
 | refine ⟨_, pu_add rfl rfl (by omega), ?_⟩
 | refine ⟨_, pu_indexAddr_map rfl rfl (by omega) (by assumption), ?_⟩
 | refine ⟨_, pu_sub rfl rfl (by omega), ?_⟩
 | refine ⟨_, pu_pick_b rfl rfl rfl, ?_⟩
 | refine ⟨_, pu_mul rfl rfl (by omega), ?_⟩
 | refine ⟨_, pu_build rfl rfl rfl rfl rfl rfl, ?_⟩))
  refine Runs.loopN 30 rfl (fun j => [(0, .ro (intsR a)), (1, .ro (intsR a)), (5, .int (j : Int))]) (fun _ => []) (fun _ => True) a.length 0 (Nat.zero_le _) trivial ⟨rfl, rfl, rfl, trivial⟩ rfl fun j hj _ next => ?_
  by_cases hlt : j < a.length
  · obtain ⟨x, hx⟩ : ∃ x, a[(j : Int).toNat]? = some x := ⟨_, List.getElem?_eq_getElem hlt⟩
    repeat' (first
 | refine RunsL.step tabOk hn rfl ?_
 | refine RunsL.nil ?_
 | refine Runs.toRegion 30 rfl ?_
 | (refine Runs.ctls 30 rfl ?_; first | refine Runs.cond_t rfl ?_ | refine Runs.cond_f rfl ?_ | ((first | refine Runs.cond_yes rfl ?_ ?_ | refine Runs.cond_nno rfl ?_ ?_); · first | omega | rfl | assumption | (simp only [List.length_map]; omega)) | ((first | refine Runs.cond_no rfl ?_ ?_ | refine Runs.cond_nyes rfl ?_ ?_); · first | omega | rfl | assumption | (simp only [List.length_map]; omega)) | refine Runs.cond_dec rfl (fun h => ?_) (fun h => ?_) | refine Runs.cond_ndec rfl (fun h => ?_) (fun h => ?_) | refine Runs.cond_nb rfl (fun h => ?_) (fun h => ?_) | refine Runs.cond_b rfl (fun h => ?_) (fun h => ?_) | refine Runs.ret (ends_ro hm rfl rfl ?_) | exact Runs.ret (ends_cellR hm rfl rfl rfl (Nat.le_of_ble_eq_true rfl) rfl rfl))
 | refine op_box rfl (tl hn rfl) ?_
 | refine op_storeF rfl rfl rfl rfl (Nat.le_of_ble_eq_true rfl) ?_
 | refine op_alloc (tl hn rfl) ?_
 | refine op_storeN rfl rfl rfl rfl (Nat.le_of_ble_eq_true rfl) ?_
 | refine RunsD.step tabOk hn rfl rfl ?_
 | refine RunsD.nil ?_
 | refine Runs.toDraw 30 mixed hn rfl (by kernel_rfl) rfl ?_
 | ((first | refine RunsL.pe hn rfl rfl rfl ?_ | refine RunsD.pe rfl rfl ?_); first
 | refine ⟨_, pu_add rfl rfl (by omega), ?_⟩
 | refine ⟨_, pu_indexAddr_map rfl rfl (by omega) (by assumption), ?_⟩
 | refine ⟨_, pu_sub rfl rfl (by omega), ?_⟩
 | refine ⟨_, pu_pick_b rfl rfl rfl, ?_⟩
 | refine ⟨_, pu_mul rfl rfl (by omega), ?_⟩
 | refine ⟨_, pu_build rfl rfl rfl rfl rfl rfl, ?_⟩))
    exact next _ _ ⟨rfl, rfl, rfl, trivial⟩ hlt trivial rfl
  · repeat' (first
 | refine RunsL.step tabOk hn rfl ?_
 | refine RunsL.nil ?_
 | refine Runs.toRegion 30 rfl ?_
 | (refine Runs.ctls 30 rfl ?_; first | refine Runs.cond_t rfl ?_ | refine Runs.cond_f rfl ?_ | ((first | refine Runs.cond_yes rfl ?_ ?_ | refine Runs.cond_nno rfl ?_ ?_); · first | omega | rfl | assumption | (simp only [List.length_map]; omega)) | ((first | refine Runs.cond_no rfl ?_ ?_ | refine Runs.cond_nyes rfl ?_ ?_); · first | omega | rfl | assumption | (simp only [List.length_map]; omega)) | refine Runs.cond_dec rfl (fun h => ?_) (fun h => ?_) | refine Runs.cond_ndec rfl (fun h => ?_) (fun h => ?_) | refine Runs.cond_nb rfl (fun h => ?_) (fun h => ?_) | refine Runs.cond_b rfl (fun h => ?_) (fun h => ?_) | refine Runs.ret (ends_ro hm rfl rfl ?_) | exact Runs.ret (ends_cellR hm rfl rfl rfl (Nat.le_of_ble_eq_true rfl) rfl rfl))
 | refine op_box rfl (tl hn rfl) ?_
 | refine op_storeF rfl rfl rfl rfl (Nat.le_of_ble_eq_true rfl) ?_
 | refine op_alloc (tl hn rfl) ?_
 | refine op_storeN rfl rfl rfl rfl (Nat.le_of_ble_eq_true rfl) ?_
 | refine RunsD.step tabOk hn rfl rfl ?_
 | refine RunsD.nil ?_
 | refine Runs.toDraw 30 mixed hn rfl (by kernel_rfl) rfl ?_
 | ((first | refine RunsL.pe hn rfl rfl rfl ?_ | refine RunsD.pe rfl rfl ?_); first
 | refine ⟨_, pu_add rfl rfl (by omega), ?_⟩
 | refine ⟨_, pu_indexAddr_map rfl rfl (by omega) (by assumption), ?_⟩
 | refine ⟨_, pu_sub rfl rfl (by omega), ?_⟩
 | refine ⟨_, pu_pick_b rfl rfl rfl, ?_⟩
 | refine ⟨_, pu_mul rfl rfl (by omega), ?_⟩
 | refine ⟨_, pu_build rfl rfl rfl rfl rfl rfl, ?_⟩))
    exact rr_bool rfl
theorem toInts_ac (a : List Int) (hl : a.length ≤ 4194304) : ACv Try.prog 38 [intsR a] (intsR a) := by
  refine AC.shut (R := fun rr => rr = .row 3 1 (a.map RV.int)) ?_ (by rintro _ rfl; exact seals_ints _ a)
  refine ac_enter Try.func38 rfl _ Try.ntmps38 (by simp) fun C hn hm => ?_
  repeat' (first
 | refine RunsL.step tabOk hn rfl ?_
 | refine RunsL.nil ?_
 | refine Runs.toRegion 30 rfl ?_
 | refine op_make1 rfl rfl rfl rfl (by first | omega | (simp only [List.length_map]; omega)) (by unfold maxLen; simp only [List.length_map]; omega) (tl hn rfl) ?_
 | (refine Runs.ctls 30 rfl ?_; first | refine Runs.cond_t rfl ?_ | refine Runs.cond_f rfl ?_ | ((first | refine Runs.cond_yes rfl ?_ ?_ | refine Runs.cond_nno rfl ?_ ?_); · first | omega | rfl | assumption | (simp only [List.length_map]; omega)) | ((first | refine Runs.cond_no rfl ?_ ?_ | refine Runs.cond_nyes rfl ?_ ?_); · first | omega | rfl | assumption | (simp only [List.length_map]; omega)) | refine Runs.cond_dec rfl (fun h => ?_) (fun h => ?_) | refine Runs.cond_ndec rfl (fun h => ?_) (fun h => ?_) | refine Runs.cond_nb rfl (fun h => ?_) (fun h => ?_) | refine Runs.cond_b rfl (fun h => ?_) (fun h => ?_) | refine Runs.ret (ends_ro hm rfl rfl ?_) | exact Runs.ret (ends_cellR hm rfl rfl rfl (Nat.le_of_ble_eq_true rfl) rfl rfl))
 | refine op_box rfl (tl hn rfl) ?_
 | refine op_storeF rfl rfl rfl rfl (Nat.le_of_ble_eq_true rfl) ?_
 | refine op_alloc (tl hn rfl) ?_
 | refine op_storeN rfl rfl rfl rfl (Nat.le_of_ble_eq_true rfl) ?_
 | (refine RunsL.pe hn rfl rfl rfl ?_; first
 | refine ⟨_, pu_add rfl rfl (by omega), ?_⟩
 | refine ⟨_, pu_indexAddr_map rfl rfl (by omega) (by assumption), ?_⟩
 | refine ⟨_, pu_sub rfl rfl (by omega), ?_⟩
 | refine ⟨_, pu_pick_b rfl rfl rfl, ?_⟩
 | refine ⟨_, pu_mul rfl rfl (by omega), ?_⟩
 | refine ⟨_, pu_build rfl rfl rfl rfl rfl rfl, ?_⟩))
  refine Runs.loopN 30 rfl (fun j => [(0, .ro (intsR a)), (3, .own 0), (4, .int (j : Int))]) (fun j => [⟨3, 1, (a.take j ++ List.replicate (a.length - j) 0).map fun z => .ro (.int z)⟩]) (fun _ => True) a.length 0 (Nat.zero_le _) trivial ⟨rfl, rfl, rfl, trivial⟩ (by simp) fun j hj _ next => ?_
  by_cases hlt : j < a.length
  · obtain ⟨x, hx⟩ : ∃ x, a[(j : Int).toNat]? = some x := ⟨_, List.getElem?_eq_getElem hlt⟩
    repeat' (first
 | refine RunsL.step tabOk hn rfl ?_
 | refine RunsL.nil ?_
 | refine Runs.toRegion 30 rfl ?_
 | refine op_storeF rfl rfl rfl rfl (by simp; omega) ?_
 | (refine RunsL.pe hn rfl rfl rfl ?_; first
 | refine ⟨_, pu_indexAddr_own (n := a.length) rfl rfl rfl rfl (by simp; omega) (by omega) (by omega), ?_⟩)
 | (refine Runs.ctls 30 rfl ?_; first | refine Runs.cond_t rfl ?_ | refine Runs.cond_f rfl ?_ | ((first | refine Runs.cond_yes rfl ?_ ?_ | refine Runs.cond_nno rfl ?_ ?_); · first | omega | rfl | assumption | (simp only [List.length_map]; omega)) | ((first | refine Runs.cond_no rfl ?_ ?_ | refine Runs.cond_nyes rfl ?_ ?_); · first | omega | rfl | assumption | (simp only [List.length_map]; omega)) | refine Runs.cond_dec rfl (fun h => ?_) (fun h => ?_) | refine Runs.cond_ndec rfl (fun h => ?_) (fun h => ?_) | refine Runs.cond_nb rfl (fun h => ?_) (fun h => ?_) | refine Runs.cond_b rfl (fun h => ?_) (fun h => ?_) | refine Runs.ret (ends_ro hm rfl rfl ?_) | exact Runs.ret (ends_cellR hm rfl rfl rfl (Nat.le_of_ble_eq_true rfl) rfl rfl))
 | refine op_box rfl (tl hn rfl) ?_
 | refine op_storeF rfl rfl rfl rfl (Nat.le_of_ble_eq_true rfl) ?_
 | refine op_alloc (tl hn rfl) ?_
 | refine op_storeN rfl rfl rfl rfl (Nat.le_of_ble_eq_true rfl) ?_
 | (refine RunsL.pe hn rfl rfl rfl ?_; first
 | refine ⟨_, pu_add rfl rfl (by omega), ?_⟩
 | refine ⟨_, pu_indexAddr_map rfl rfl (by omega) (by assumption), ?_⟩
 | refine ⟨_, pu_sub rfl rfl (by omega), ?_⟩
 | refine ⟨_, pu_pick_b rfl rfl rfl, ?_⟩
 | refine ⟨_, pu_mul rfl rfl (by omega), ?_⟩
 | refine ⟨_, pu_build rfl rfl rfl rfl rfl rfl, ?_⟩))
    refine next _ _ ⟨rfl, rfl, rfl, trivial⟩ hlt trivial ?_
    have h := take_set a 0 a.length j rfl x hx
    simp only [List.set_cons_zero, Nat.mul_one, Int.toNat_natCast]
    rw [← h, List.map_set]
  · obtain rfl : j = a.length := by omega
    repeat' (first
 | refine RunsL.step tabOk hn rfl ?_
 | refine RunsL.nil ?_
 | refine Runs.toRegion 30 rfl ?_
 | (refine Runs.ctls 30 rfl ?_; first | refine Runs.cond_t rfl ?_ | refine Runs.cond_f rfl ?_ | ((first | refine Runs.cond_yes rfl ?_ ?_ | refine Runs.cond_nno rfl ?_ ?_); · first | omega | rfl | assumption | (simp only [List.length_map]; omega)) | ((first | refine Runs.cond_no rfl ?_ ?_ | refine Runs.cond_nyes rfl ?_ ?_); · first | omega | rfl | assumption | (simp only [List.length_map]; omega)) | refine Runs.cond_dec rfl (fun h => ?_) (fun h => ?_) | refine Runs.cond_ndec rfl (fun h => ?_) (fun h => ?_) | refine Runs.cond_nb rfl (fun h => ?_) (fun h => ?_) | refine Runs.cond_b rfl (fun h => ?_) (fun h => ?_) | refine Runs.ret (ends_ro hm rfl rfl ?_) | exact Runs.ret (ends_cellR hm rfl rfl rfl (Nat.le_of_ble_eq_true rfl) rfl rfl))
 | refine op_box rfl (tl hn rfl) ?_
 | refine op_storeF rfl rfl rfl rfl (Nat.le_of_ble_eq_true rfl) ?_
 | refine op_alloc (tl hn rfl) ?_
 | refine op_storeN rfl rfl rfl rfl (Nat.le_of_ble_eq_true rfl) ?_
 | (refine RunsL.pe hn rfl rfl rfl ?_; first
 | refine ⟨_, pu_add rfl rfl (by omega), ?_⟩
 | refine ⟨_, pu_indexAddr_map rfl rfl (by omega) (by assumption), ?_⟩
 | refine ⟨_, pu_sub rfl rfl (by omega), ?_⟩
 | refine ⟨_, pu_pick_b rfl rfl rfl, ?_⟩
 | refine ⟨_, pu_mul rfl rfl (by omega), ?_⟩
 | refine ⟨_, pu_build rfl rfl rfl rfl rfl rfl, ?_⟩))
    exact Runs.ctls 30 rfl (Runs.ret (ends_own (rs := a.map RV.int) hm rfl rfl rfl (by simp) rfl))
end Go.Proofs.Ytkhnijggbfoimaa
/- The laws' own helpers on programs, over values: sizes, copies, comparisons. -/
namespace Go.Proofs.Ytkhnijggbfoimaa
set_option linter.unusedSimpArgs false
set_option linter.unusedVariables false
open Go.RowKit
structure Ins where
  op : Int
  a : Int
  b : Int
structure Prg where
  code : List Ins
  entries : List Int
def insR (i : Ins) : List RV := [.int i.op, .int i.a, .int i.b]
def inssR (l : List Ins) : RV := .seq 3 (l.map insR)
def prgR (p : Prg) : RV := .agg [inssR p.code, intsR p.entries]
theorem insR_len (i : Ins) : (insR i).length = 3 := rfl
theorem toIns_ac (i : Ins) : ACv Try.prog 55 [.agg (insR i)] (.agg (insR i)) := by
  refine ac_enter Try.func55 rfl _ Try.ntmps55 (by simp) fun C hn hm => ?_
  repeat' (first
 | refine RunsL.step tabOk hn rfl ?_
 | refine RunsL.nil ?_
 | refine Runs.toRegion 30 rfl ?_
 | (refine Runs.ctls 30 rfl ?_; first | refine Runs.cond_t rfl ?_ | refine Runs.cond_f rfl ?_ | ((first | refine Runs.cond_yes rfl ?_ ?_ | refine Runs.cond_nno rfl ?_ ?_); · first | omega | rfl | assumption | (simp only [List.length_map]; omega)) | ((first | refine Runs.cond_no rfl ?_ ?_ | refine Runs.cond_nyes rfl ?_ ?_); · first | omega | rfl | assumption | (simp only [List.length_map]; omega)) | refine Runs.cond_dec rfl (fun h => ?_) (fun h => ?_) | refine Runs.cond_ndec rfl (fun h => ?_) (fun h => ?_) | refine Runs.cond_nb rfl (fun h => ?_) (fun h => ?_) | refine Runs.cond_b rfl (fun h => ?_) (fun h => ?_) | refine Runs.ret (ends_ro hm rfl rfl ?_) | exact Runs.ret (ends_cellR hm rfl rfl rfl (Nat.le_of_ble_eq_true rfl) rfl rfl))
 | refine op_box rfl (tl hn rfl) ?_
 | refine op_storeF rfl rfl rfl rfl (Nat.le_of_ble_eq_true rfl) ?_
 | refine op_alloc (tl hn rfl) ?_
 | refine op_storeN rfl rfl rfl rfl (Nat.le_of_ble_eq_true rfl) ?_
 | (refine RunsL.pe hn rfl rfl rfl ?_; first
 | refine ⟨_, pu_add rfl rfl (by omega), ?_⟩
 | refine ⟨_, pu_indexAddr_map rfl rfl (by omega) (by assumption), ?_⟩
 | refine ⟨_, pu_sub rfl rfl (by omega), ?_⟩
 | refine ⟨_, pu_pick_b rfl rfl rfl, ?_⟩
 | refine ⟨_, pu_mul rfl rfl (by omega), ?_⟩
 | refine ⟨_, pu_build rfl rfl rfl rfl rfl rfl, ?_⟩))
theorem eqIns_ac (i : Ins) : ACv Try.prog 61 [.agg (insR i), .agg (insR i)] (.bool true) := by
  refine ac_enter Try.func61 rfl _ Try.ntmps61 (by simp) fun C hn hm => ?_
  repeat' (first
 | refine RunsL.step tabOk hn rfl ?_
 | refine RunsL.nil ?_
 | refine Runs.toRegion 30 rfl ?_
 | (refine Runs.ctls 30 rfl ?_; first | refine Runs.cond_t rfl ?_ | refine Runs.cond_f rfl ?_ | ((first | refine Runs.cond_yes rfl ?_ ?_ | refine Runs.cond_nno rfl ?_ ?_); · first | omega | rfl | assumption | (simp only [List.length_map]; omega)) | ((first | refine Runs.cond_no rfl ?_ ?_ | refine Runs.cond_nyes rfl ?_ ?_); · first | omega | rfl | assumption | (simp only [List.length_map]; omega)) | refine Runs.cond_dec rfl (fun h => ?_) (fun h => ?_) | refine Runs.cond_ndec rfl (fun h => ?_) (fun h => ?_) | refine Runs.cond_nb rfl (fun h => ?_) (fun h => ?_) | refine Runs.cond_b rfl (fun h => ?_) (fun h => ?_) | refine Runs.ret (ends_ro hm rfl rfl ?_) | exact Runs.ret (ends_cellR hm rfl rfl rfl (Nat.le_of_ble_eq_true rfl) rfl rfl))
 | refine op_box rfl (tl hn rfl) ?_
 | refine op_storeF rfl rfl rfl rfl (Nat.le_of_ble_eq_true rfl) ?_
 | refine op_alloc (tl hn rfl) ?_
 | refine op_storeN rfl rfl rfl rfl (Nat.le_of_ble_eq_true rfl) ?_
 | (refine RunsL.pe hn rfl rfl rfl ?_; first
 | refine ⟨_, pu_add rfl rfl (by omega), ?_⟩
 | refine ⟨_, pu_indexAddr_map rfl rfl (by omega) (by assumption), ?_⟩
 | refine ⟨_, pu_sub rfl rfl (by omega), ?_⟩
 | refine ⟨_, pu_pick_b rfl rfl rfl, ?_⟩
 | refine ⟨_, pu_mul rfl rfl (by omega), ?_⟩
 | refine ⟨_, pu_build rfl rfl rfl rfl rfl rfl, ?_⟩))
  exact rr_bool rfl
theorem szInss_ac (a : List Ins) (left : Int) (h0 : 0 ≤ left) (h1 : left ≤ 1048576) (hl : a.length ≤ maxLen) : ACv Try.prog 30 [inssR a, .int left] (.int (sz1 left a.length)) := by
  unfold maxLen at hl
  refine ac_enter Try.func30 rfl _ Try.ntmps30 (by simp) fun C hn hm => ?_
  by_cases h : left < (a.length : Int)
  · repeat' (first
 | refine RunsL.step tabOk hn rfl ?_
 | refine RunsL.nil ?_
 | refine Runs.toRegion 30 rfl ?_
 | (refine RunsL.pe hn rfl rfl rfl ?_; first
 | refine ⟨_, pu_sub rfl rfl (by first | omega | (simp only [List.length_map]; omega)), ?_⟩)
 | (refine Runs.ctls 30 rfl ?_; first | refine Runs.cond_t rfl ?_ | refine Runs.cond_f rfl ?_ | ((first | refine Runs.cond_yes rfl ?_ ?_ | refine Runs.cond_nno rfl ?_ ?_); · first | omega | rfl | assumption | (simp only [List.length_map]; omega)) | ((first | refine Runs.cond_no rfl ?_ ?_ | refine Runs.cond_nyes rfl ?_ ?_); · first | omega | rfl | assumption | (simp only [List.length_map]; omega)) | refine Runs.cond_dec rfl (fun h => ?_) (fun h => ?_) | refine Runs.cond_ndec rfl (fun h => ?_) (fun h => ?_) | refine Runs.cond_nb rfl (fun h => ?_) (fun h => ?_) | refine Runs.cond_b rfl (fun h => ?_) (fun h => ?_) | refine Runs.ret (ends_ro hm rfl rfl ?_) | exact Runs.ret (ends_cellR hm rfl rfl rfl (Nat.le_of_ble_eq_true rfl) rfl rfl))
 | refine op_box rfl (tl hn rfl) ?_
 | refine op_storeF rfl rfl rfl rfl (Nat.le_of_ble_eq_true rfl) ?_
 | refine op_alloc (tl hn rfl) ?_
 | refine op_storeN rfl rfl rfl rfl (Nat.le_of_ble_eq_true rfl) ?_
 | (refine RunsL.pe hn rfl rfl rfl ?_; first
 | refine ⟨_, pu_add rfl rfl (by omega), ?_⟩
 | refine ⟨_, pu_indexAddr_map rfl rfl (by omega) (by assumption), ?_⟩
 | refine ⟨_, pu_sub rfl rfl (by omega), ?_⟩
 | refine ⟨_, pu_pick_b rfl rfl rfl, ?_⟩
 | refine ⟨_, pu_mul rfl rfl (by omega), ?_⟩
 | refine ⟨_, pu_build rfl rfl rfl rfl rfl rfl, ?_⟩))
    exact rr_int (sz1_neg h).symm
  · repeat' (first
 | refine RunsL.step tabOk hn rfl ?_
 | refine RunsL.nil ?_
 | refine Runs.toRegion 30 rfl ?_
 | (refine RunsL.pe hn rfl rfl rfl ?_; first
 | refine ⟨_, pu_sub rfl rfl (by first | omega | (simp only [List.length_map]; omega)), ?_⟩)
 | (refine Runs.ctls 30 rfl ?_; first | refine Runs.cond_t rfl ?_ | refine Runs.cond_f rfl ?_ | ((first | refine Runs.cond_yes rfl ?_ ?_ | refine Runs.cond_nno rfl ?_ ?_); · first | omega | rfl | assumption | (simp only [List.length_map]; omega)) | ((first | refine Runs.cond_no rfl ?_ ?_ | refine Runs.cond_nyes rfl ?_ ?_); · first | omega | rfl | assumption | (simp only [List.length_map]; omega)) | refine Runs.cond_dec rfl (fun h => ?_) (fun h => ?_) | refine Runs.cond_ndec rfl (fun h => ?_) (fun h => ?_) | refine Runs.cond_nb rfl (fun h => ?_) (fun h => ?_) | refine Runs.cond_b rfl (fun h => ?_) (fun h => ?_) | refine Runs.ret (ends_ro hm rfl rfl ?_) | exact Runs.ret (ends_cellR hm rfl rfl rfl (Nat.le_of_ble_eq_true rfl) rfl rfl))
 | refine op_box rfl (tl hn rfl) ?_
 | refine op_storeF rfl rfl rfl rfl (Nat.le_of_ble_eq_true rfl) ?_
 | refine op_alloc (tl hn rfl) ?_
 | refine op_storeN rfl rfl rfl rfl (Nat.le_of_ble_eq_true rfl) ?_
 | (refine RunsL.pe hn rfl rfl rfl ?_; first
 | refine ⟨_, pu_add rfl rfl (by omega), ?_⟩
 | refine ⟨_, pu_indexAddr_map rfl rfl (by omega) (by assumption), ?_⟩
 | refine ⟨_, pu_sub rfl rfl (by omega), ?_⟩
 | refine ⟨_, pu_pick_b rfl rfl rfl, ?_⟩
 | refine ⟨_, pu_mul rfl rfl (by omega), ?_⟩
 | refine ⟨_, pu_build rfl rfl rfl rfl rfl rfl, ?_⟩))
    exact rr_int (by rw [sz1_pos (by omega)]; simp)
theorem eqInss_ac (a : List Ins) (hl : a.length ≤ maxLen) : ACv Try.prog 43 [inssR a, inssR a] (.bool true) := by
  unfold maxLen at hl
  refine ac_enter Try.func43 rfl _ Try.ntmps43 (by simp) fun C hn hm => ?_
  repeat' (first
 | refine RunsL.step tabOk hn rfl ?_
 | refine RunsL.nil ?_
 | refine Runs.toRegion 30 rfl ?_
 | (refine Runs.ctls 30 rfl ?_; first | refine Runs.cond_t rfl ?_ | refine Runs.cond_f rfl ?_ | ((first | refine Runs.cond_yes rfl ?_ ?_ | refine Runs.cond_nno rfl ?_ ?_); · first | omega | rfl | assumption | (simp only [List.length_map]; omega)) | ((first | refine Runs.cond_no rfl ?_ ?_ | refine Runs.cond_nyes rfl ?_ ?_); · first | omega | rfl | assumption | (simp only [List.length_map]; omega)) | refine Runs.cond_dec rfl (fun h => ?_) (fun h => ?_) | refine Runs.cond_ndec rfl (fun h => ?_) (fun h => ?_) | refine Runs.cond_nb rfl (fun h => ?_) (fun h => ?_) | refine Runs.cond_b rfl (fun h => ?_) (fun h => ?_) | refine Runs.ret (ends_ro hm rfl rfl ?_) | exact Runs.ret (ends_cellR hm rfl rfl rfl (Nat.le_of_ble_eq_true rfl) rfl rfl))
 | refine op_box rfl (tl hn rfl) ?_
 | refine op_storeF rfl rfl rfl rfl (Nat.le_of_ble_eq_true rfl) ?_
 | refine op_alloc (tl hn rfl) ?_
 | refine op_storeN rfl rfl rfl rfl (Nat.le_of_ble_eq_true rfl) ?_
 | refine RunsD.step tabOk hn rfl rfl ?_
 | refine RunsD.nil ?_
 | refine Runs.toDraw 30 mixed hn rfl (by kernel_rfl) rfl ?_
 | ((first | refine RunsL.pe hn rfl rfl rfl ?_ | refine RunsD.pe rfl rfl ?_); first
 | refine ⟨_, pu_add rfl rfl (by omega), ?_⟩
 | refine ⟨_, pu_indexAddr_map rfl rfl (by omega) (by assumption), ?_⟩
 | refine ⟨_, pu_sub rfl rfl (by omega), ?_⟩
 | refine ⟨_, pu_pick_b rfl rfl rfl, ?_⟩
 | refine ⟨_, pu_mul rfl rfl (by omega), ?_⟩
 | refine ⟨_, pu_build rfl rfl rfl rfl rfl rfl, ?_⟩))
  refine Runs.loopN 30 rfl (fun j => [(0, .ro (inssR a)), (1, .ro (inssR a)), (5, .int (j : Int))]) (fun _ => []) (fun _ => True) a.length 0 (Nat.zero_le _) trivial ⟨rfl, rfl, rfl, trivial⟩ rfl fun j hj _ next => ?_
  by_cases hlt : j < a.length
  · obtain ⟨x, hx⟩ : ∃ x, a[(j : Int).toNat]? = some x := ⟨_, List.getElem?_eq_getElem hlt⟩
    repeat' (first
 | refine RunsL.step tabOk hn rfl ?_
 | refine RunsL.nil ?_
 | refine Runs.toRegion 30 rfl ?_
 | ((first | refine RunsL.pe hn rfl rfl rfl ?_ | refine RunsD.pe rfl rfl ?_); first
 | refine ⟨_, pu_callR (eqIns_ac x) rfl, ?_⟩)
 | (refine Runs.ctls 30 rfl ?_; first | refine Runs.cond_t rfl ?_ | refine Runs.cond_f rfl ?_ | ((first | refine Runs.cond_yes rfl ?_ ?_ | refine Runs.cond_nno rfl ?_ ?_); · first | omega | rfl | assumption | (simp only [List.length_map]; omega)) | ((first | refine Runs.cond_no rfl ?_ ?_ | refine Runs.cond_nyes rfl ?_ ?_); · first | omega | rfl | assumption | (simp only [List.length_map]; omega)) | refine Runs.cond_dec rfl (fun h => ?_) (fun h => ?_) | refine Runs.cond_ndec rfl (fun h => ?_) (fun h => ?_) | refine Runs.cond_nb rfl (fun h => ?_) (fun h => ?_) | refine Runs.cond_b rfl (fun h => ?_) (fun h => ?_) | refine Runs.ret (ends_ro hm rfl rfl ?_) | exact Runs.ret (ends_cellR hm rfl rfl rfl (Nat.le_of_ble_eq_true rfl) rfl rfl))
 | refine op_box rfl (tl hn rfl) ?_
 | refine op_storeF rfl rfl rfl rfl (Nat.le_of_ble_eq_true rfl) ?_
 | refine op_alloc (tl hn rfl) ?_
 | refine op_storeN rfl rfl rfl rfl (Nat.le_of_ble_eq_true rfl) ?_
 | refine RunsD.step tabOk hn rfl rfl ?_
 | refine RunsD.nil ?_
 | refine Runs.toDraw 30 mixed hn rfl (by kernel_rfl) rfl ?_
 | ((first | refine RunsL.pe hn rfl rfl rfl ?_ | refine RunsD.pe rfl rfl ?_); first
 | refine ⟨_, pu_add rfl rfl (by omega), ?_⟩
 | refine ⟨_, pu_indexAddr_map rfl rfl (by omega) (by assumption), ?_⟩
 | refine ⟨_, pu_sub rfl rfl (by omega), ?_⟩
 | refine ⟨_, pu_pick_b rfl rfl rfl, ?_⟩
 | refine ⟨_, pu_mul rfl rfl (by omega), ?_⟩
 | refine ⟨_, pu_build rfl rfl rfl rfl rfl rfl, ?_⟩))
    exact next _ _ ⟨rfl, rfl, rfl, trivial⟩ hlt trivial rfl
  · repeat' (first
 | refine RunsL.step tabOk hn rfl ?_
 | refine RunsL.nil ?_
 | refine Runs.toRegion 30 rfl ?_
 | (refine Runs.ctls 30 rfl ?_; first | refine Runs.cond_t rfl ?_ | refine Runs.cond_f rfl ?_ | ((first | refine Runs.cond_yes rfl ?_ ?_ | refine Runs.cond_nno rfl ?_ ?_); · first | omega | rfl | assumption | (simp only [List.length_map]; omega)) | ((first | refine Runs.cond_no rfl ?_ ?_ | refine Runs.cond_nyes rfl ?_ ?_); · first | omega | rfl | assumption | (simp only [List.length_map]; omega)) | refine Runs.cond_dec rfl (fun h => ?_) (fun h => ?_) | refine Runs.cond_ndec rfl (fun h => ?_) (fun h => ?_) | refine Runs.cond_nb rfl (fun h => ?_) (fun h => ?_) | refine Runs.cond_b rfl (fun h => ?_) (fun h => ?_) | refine Runs.ret (ends_ro hm rfl rfl ?_) | exact Runs.ret (ends_cellR hm rfl rfl rfl (Nat.le_of_ble_eq_true rfl) rfl rfl))
 | refine op_box rfl (tl hn rfl) ?_
 | refine op_storeF rfl rfl rfl rfl (Nat.le_of_ble_eq_true rfl) ?_
 | refine op_alloc (tl hn rfl) ?_
 | refine op_storeN rfl rfl rfl rfl (Nat.le_of_ble_eq_true rfl) ?_
 | refine RunsD.step tabOk hn rfl rfl ?_
 | refine RunsD.nil ?_
 | refine Runs.toDraw 30 mixed hn rfl (by kernel_rfl) rfl ?_
 | ((first | refine RunsL.pe hn rfl rfl rfl ?_ | refine RunsD.pe rfl rfl ?_); first
 | refine ⟨_, pu_add rfl rfl (by omega), ?_⟩
 | refine ⟨_, pu_indexAddr_map rfl rfl (by omega) (by assumption), ?_⟩
 | refine ⟨_, pu_sub rfl rfl (by omega), ?_⟩
 | refine ⟨_, pu_pick_b rfl rfl rfl, ?_⟩
 | refine ⟨_, pu_mul rfl rfl (by omega), ?_⟩
 | refine ⟨_, pu_build rfl rfl rfl rfl rfl rfl, ?_⟩))
    exact rr_bool rfl
theorem toInss_ac (a : List Ins) (hl : a.length ≤ 4194304) : ACv Try.prog 37 [inssR a] (inssR a) := by
  have hl' : (a.map insR).length = a.length := List.length_map ..
  refine ac_enter Try.func37 rfl _ Try.ntmps37 (by simp) fun C hn hm => ?_
  repeat' (first
 | refine RunsL.step tabOk hn rfl ?_
 | refine RunsL.nil ?_
 | refine Runs.toRegion 30 rfl ?_
 | refine op_makeN (zs := [.int .i64 0, .int .i64 0, .int .i64 0]) rfl rfl rfl rfl (by decide) rfl (by omega) (by unfold maxLen; omega) (tl hn rfl) ?_
 | (refine Runs.ctls 30 rfl ?_; first | refine Runs.cond_t rfl ?_ | refine Runs.cond_f rfl ?_ | ((first | refine Runs.cond_yes rfl ?_ ?_ | refine Runs.cond_nno rfl ?_ ?_); · first | omega | rfl | assumption | (simp only [List.length_map]; omega)) | ((first | refine Runs.cond_no rfl ?_ ?_ | refine Runs.cond_nyes rfl ?_ ?_); · first | omega | rfl | assumption | (simp only [List.length_map]; omega)) | refine Runs.cond_dec rfl (fun h => ?_) (fun h => ?_) | refine Runs.cond_ndec rfl (fun h => ?_) (fun h => ?_) | refine Runs.cond_nb rfl (fun h => ?_) (fun h => ?_) | refine Runs.cond_b rfl (fun h => ?_) (fun h => ?_) | refine Runs.ret (ends_ro hm rfl rfl ?_) | exact Runs.ret (ends_cellR hm rfl rfl rfl (Nat.le_of_ble_eq_true rfl) rfl rfl))
 | refine op_box rfl (tl hn rfl) ?_
 | refine op_storeF rfl rfl rfl rfl (Nat.le_of_ble_eq_true rfl) ?_
 | refine op_alloc (tl hn rfl) ?_
 | refine op_storeN rfl rfl rfl rfl (Nat.le_of_ble_eq_true rfl) ?_
 | (refine RunsL.pe hn rfl rfl rfl ?_; first
 | refine ⟨_, pu_add rfl rfl (by omega), ?_⟩
 | refine ⟨_, pu_indexAddr_map rfl rfl (by omega) (by assumption), ?_⟩
 | refine ⟨_, pu_sub rfl rfl (by omega), ?_⟩
 | refine ⟨_, pu_pick_b rfl rfl rfl, ?_⟩
 | refine ⟨_, pu_mul rfl rfl (by omega), ?_⟩
 | refine ⟨_, pu_build rfl rfl rfl rfl rfl rfl, ?_⟩))
  refine Runs.loopN 30 rfl (fun j => [(0, .ro (inssR a)), (3, .own 0), (4, .int (j : Int))]) (fun j => [⟨74, 3, (filled insR [.int 0, .int 0, .int 0] a j).map .ro⟩]) (fun _ => True) a.length 0 (Nat.zero_le _) trivial ⟨rfl, rfl, rfl, trivial⟩ (by rw [filled_zero, hl']; rfl) fun j hj _ next => ?_
  have hlen := filled_len insR_len (zc := [.int 0, .int 0, .int 0]) rfl a j hj
  by_cases hlt : j < a.length
  · obtain ⟨x, hx⟩ : ∃ x, a[(j : Int).toNat]? = some x := ⟨_, List.getElem?_eq_getElem hlt⟩
    repeat' (first
 | refine RunsL.step tabOk hn rfl ?_
 | refine RunsL.nil ?_
 | refine Runs.toRegion 30 rfl ?_
 | refine op_storeN rfl rfl rfl rfl (by simp only [List.length_map, insR_len]; omega) ?_
 | (refine RunsL.pe hn rfl rfl rfl ?_; first
 | refine ⟨_, pu_callR (toIns_ac x) rfl, ?_⟩
 | refine ⟨_, pu_indexAddr_own (n := a.length) rfl rfl rfl rfl (by simp only [List.length_map]; omega) (by omega) (by omega), ?_⟩)
 | (refine Runs.ctls 30 rfl ?_; first | refine Runs.cond_t rfl ?_ | refine Runs.cond_f rfl ?_ | ((first | refine Runs.cond_yes rfl ?_ ?_ | refine Runs.cond_nno rfl ?_ ?_); · first | omega | rfl | assumption | (simp only [List.length_map]; omega)) | ((first | refine Runs.cond_no rfl ?_ ?_ | refine Runs.cond_nyes rfl ?_ ?_); · first | omega | rfl | assumption | (simp only [List.length_map]; omega)) | refine Runs.cond_dec rfl (fun h => ?_) (fun h => ?_) | refine Runs.cond_ndec rfl (fun h => ?_) (fun h => ?_) | refine Runs.cond_nb rfl (fun h => ?_) (fun h => ?_) | refine Runs.cond_b rfl (fun h => ?_) (fun h => ?_) | refine Runs.ret (ends_ro hm rfl rfl ?_) | exact Runs.ret (ends_cellR hm rfl rfl rfl (Nat.le_of_ble_eq_true rfl) rfl rfl))
 | refine op_box rfl (tl hn rfl) ?_
 | refine op_storeF rfl rfl rfl rfl (Nat.le_of_ble_eq_true rfl) ?_
 | refine op_alloc (tl hn rfl) ?_
 | refine op_storeN rfl rfl rfl rfl (Nat.le_of_ble_eq_true rfl) ?_
 | (refine RunsL.pe hn rfl rfl rfl ?_; first
 | refine ⟨_, pu_add rfl rfl (by omega), ?_⟩
 | refine ⟨_, pu_indexAddr_map rfl rfl (by omega) (by assumption), ?_⟩
 | refine ⟨_, pu_sub rfl rfl (by omega), ?_⟩
 | refine ⟨_, pu_pick_b rfl rfl rfl, ?_⟩
 | refine ⟨_, pu_mul rfl rfl (by omega), ?_⟩
 | refine ⟨_, pu_build rfl rfl rfl rfl rfl rfl, ?_⟩))
    refine next _ _ ⟨rfl, rfl, rfl, trivial⟩ hlt trivial ?_
    rw [← filled_set insR_len rfl a j x hx]
    rfl
  · obtain rfl : j = a.length := by omega
    repeat' (first
 | refine RunsL.step tabOk hn rfl ?_
 | refine RunsL.nil ?_
 | refine Runs.toRegion 30 rfl ?_
 | (refine Runs.ctls 30 rfl ?_; first | refine Runs.cond_t rfl ?_ | refine Runs.cond_f rfl ?_ | ((first | refine Runs.cond_yes rfl ?_ ?_ | refine Runs.cond_nno rfl ?_ ?_); · first | omega | rfl | assumption | (simp only [List.length_map]; omega)) | ((first | refine Runs.cond_no rfl ?_ ?_ | refine Runs.cond_nyes rfl ?_ ?_); · first | omega | rfl | assumption | (simp only [List.length_map]; omega)) | refine Runs.cond_dec rfl (fun h => ?_) (fun h => ?_) | refine Runs.cond_ndec rfl (fun h => ?_) (fun h => ?_) | refine Runs.cond_nb rfl (fun h => ?_) (fun h => ?_) | refine Runs.cond_b rfl (fun h => ?_) (fun h => ?_) | refine Runs.ret (ends_ro hm rfl rfl ?_) | exact Runs.ret (ends_cellR hm rfl rfl rfl (Nat.le_of_ble_eq_true rfl) rfl rfl))
 | refine op_box rfl (tl hn rfl) ?_
 | refine op_storeF rfl rfl rfl rfl (Nat.le_of_ble_eq_true rfl) ?_
 | refine op_alloc (tl hn rfl) ?_
 | refine op_storeN rfl rfl rfl rfl (Nat.le_of_ble_eq_true rfl) ?_
 | (refine RunsL.pe hn rfl rfl rfl ?_; first
 | refine ⟨_, pu_add rfl rfl (by omega), ?_⟩
 | refine ⟨_, pu_indexAddr_map rfl rfl (by omega) (by assumption), ?_⟩
 | refine ⟨_, pu_sub rfl rfl (by omega), ?_⟩
 | refine ⟨_, pu_pick_b rfl rfl rfl, ?_⟩
 | refine ⟨_, pu_mul rfl rfl (by omega), ?_⟩
 | refine ⟨_, pu_build rfl rfl rfl rfl rfl rfl, ?_⟩))
    exact Runs.ctls 30 rfl (Runs.ret (ends_ownR (els := a.map insR) hm rfl rfl rfl rfl (by rw [filled_full]) (by simp [insR_len])))
theorem toPrg_ac (p : Prg) (h1 : p.code.length ≤ 1048576) (h2 : p.entries.length ≤ 1048576) : ACv Try.prog 11 [prgR p] (prgR p) := by
  refine ac_enter Try.func11 rfl _ Try.ntmps11 (by simp) fun C hn hm => ?_
  repeat' (first
 | refine RunsL.step tabOk hn rfl ?_
 | refine RunsL.nil ?_
 | refine Runs.toRegion 30 rfl ?_
 | (refine RunsL.pe hn rfl rfl rfl ?_; first
 | refine ⟨_, pu_callR (toInss_ac p.code (by omega)) rfl, ?_⟩
 | refine ⟨_, pu_callR (toInts_ac p.entries (by omega)) rfl, ?_⟩)
 | (refine Runs.ctls 30 rfl ?_; first | refine Runs.cond_t rfl ?_ | refine Runs.cond_f rfl ?_ | ((first | refine Runs.cond_yes rfl ?_ ?_ | refine Runs.cond_nno rfl ?_ ?_); · first | omega | rfl | assumption | (simp only [List.length_map]; omega)) | ((first | refine Runs.cond_no rfl ?_ ?_ | refine Runs.cond_nyes rfl ?_ ?_); · first | omega | rfl | assumption | (simp only [List.length_map]; omega)) | refine Runs.cond_dec rfl (fun h => ?_) (fun h => ?_) | refine Runs.cond_ndec rfl (fun h => ?_) (fun h => ?_) | refine Runs.cond_nb rfl (fun h => ?_) (fun h => ?_) | refine Runs.cond_b rfl (fun h => ?_) (fun h => ?_) | refine Runs.ret (ends_ro hm rfl rfl ?_) | exact Runs.ret (ends_cellR hm rfl rfl rfl (Nat.le_of_ble_eq_true rfl) rfl rfl))
 | refine op_box rfl (tl hn rfl) ?_
 | refine op_storeF rfl rfl rfl rfl (Nat.le_of_ble_eq_true rfl) ?_
 | refine op_alloc (tl hn rfl) ?_
 | refine op_storeN rfl rfl rfl rfl (Nat.le_of_ble_eq_true rfl) ?_
 | (refine RunsL.pe hn rfl rfl rfl ?_; first
 | refine ⟨_, pu_add rfl rfl (by omega), ?_⟩
 | refine ⟨_, pu_indexAddr_map rfl rfl (by omega) (by assumption), ?_⟩
 | refine ⟨_, pu_sub rfl rfl (by omega), ?_⟩
 | refine ⟨_, pu_pick_b rfl rfl rfl, ?_⟩
 | refine ⟨_, pu_mul rfl rfl (by omega), ?_⟩
 | refine ⟨_, pu_build rfl rfl rfl rfl rfl rfl, ?_⟩))
theorem eqPrg_ac (p : Prg) (h1 : p.code.length ≤ maxLen) (h2 : p.entries.length ≤ maxLen) : ACv Try.prog 15 [prgR p, prgR p] (.bool true) := by
  refine ac_enter Try.func15 rfl _ Try.ntmps15 (by simp) fun C hn hm => ?_
  repeat' (first
 | refine RunsL.step tabOk hn rfl ?_
 | refine RunsL.nil ?_
 | refine Runs.toRegion 30 rfl ?_
 | (refine RunsL.pe hn rfl rfl rfl ?_; first
 | refine ⟨_, pu_callR (eqInss_ac p.code (by omega)) rfl, ?_⟩
 | refine ⟨_, pu_callR (eqInts_ac p.entries (by omega)) rfl, ?_⟩)
 | (refine Runs.ctls 30 rfl ?_; first | refine Runs.cond_t rfl ?_ | refine Runs.cond_f rfl ?_ | ((first | refine Runs.cond_yes rfl ?_ ?_ | refine Runs.cond_nno rfl ?_ ?_); · first | omega | rfl | assumption | (simp only [List.length_map]; omega)) | ((first | refine Runs.cond_no rfl ?_ ?_ | refine Runs.cond_nyes rfl ?_ ?_); · first | omega | rfl | assumption | (simp only [List.length_map]; omega)) | refine Runs.cond_dec rfl (fun h => ?_) (fun h => ?_) | refine Runs.cond_ndec rfl (fun h => ?_) (fun h => ?_) | refine Runs.cond_nb rfl (fun h => ?_) (fun h => ?_) | refine Runs.cond_b rfl (fun h => ?_) (fun h => ?_) | refine Runs.ret (ends_ro hm rfl rfl ?_) | exact Runs.ret (ends_cellR hm rfl rfl rfl (Nat.le_of_ble_eq_true rfl) rfl rfl))
 | refine op_box rfl (tl hn rfl) ?_
 | refine op_storeF rfl rfl rfl rfl (Nat.le_of_ble_eq_true rfl) ?_
 | refine op_alloc (tl hn rfl) ?_
 | refine op_storeN rfl rfl rfl rfl (Nat.le_of_ble_eq_true rfl) ?_
 | (refine RunsL.pe hn rfl rfl rfl ?_; first
 | refine ⟨_, pu_add rfl rfl (by omega), ?_⟩
 | refine ⟨_, pu_indexAddr_map rfl rfl (by omega) (by assumption), ?_⟩
 | refine ⟨_, pu_sub rfl rfl (by omega), ?_⟩
 | refine ⟨_, pu_pick_b rfl rfl rfl, ?_⟩
 | refine ⟨_, pu_mul rfl rfl (by omega), ?_⟩
 | refine ⟨_, pu_build rfl rfl rfl rfl rfl rfl, ?_⟩))
  exact rr_bool rfl
/-- What is left of a program's size. -/
def szPrg (left : Int) (p : Prg) : Int := if sz1 left p.code.length < 0 then -1 else sz1 (sz1 left p.code.length) p.entries.length
theorem szPrg_ac (p : Prg) (left : Int) (h0 : 0 ≤ left) (hl : left ≤ 1048576) (h1 : p.code.length ≤ maxLen) (h2 : p.entries.length ≤ maxLen) : ACv Try.prog 8 [prgR p, .int left] (.int (szPrg left p)) := by
  refine ac_enter Try.func8 rfl _ Try.ntmps8 (by simp) fun C hn hm => ?_
  by_cases h : sz1 left p.code.length < 0
  · repeat' (first
 | refine RunsL.step tabOk hn rfl ?_
 | refine RunsL.nil ?_
 | refine Runs.toRegion 30 rfl ?_
 | (refine RunsL.pe hn rfl rfl rfl ?_; first
 | refine ⟨_, pu_callR (szInss_ac p.code left h0 hl h1) rfl, ?_⟩)
 | (refine Runs.ctls 30 rfl ?_; first | refine Runs.cond_t rfl ?_ | refine Runs.cond_f rfl ?_ | ((first | refine Runs.cond_yes rfl ?_ ?_ | refine Runs.cond_nno rfl ?_ ?_); · first | omega | rfl | assumption | (simp only [List.length_map]; omega)) | ((first | refine Runs.cond_no rfl ?_ ?_ | refine Runs.cond_nyes rfl ?_ ?_); · first | omega | rfl | assumption | (simp only [List.length_map]; omega)) | refine Runs.cond_dec rfl (fun h => ?_) (fun h => ?_) | refine Runs.cond_ndec rfl (fun h => ?_) (fun h => ?_) | refine Runs.cond_nb rfl (fun h => ?_) (fun h => ?_) | refine Runs.cond_b rfl (fun h => ?_) (fun h => ?_) | refine Runs.ret (ends_ro hm rfl rfl ?_) | exact Runs.ret (ends_cellR hm rfl rfl rfl (Nat.le_of_ble_eq_true rfl) rfl rfl))
 | refine op_box rfl (tl hn rfl) ?_
 | refine op_storeF rfl rfl rfl rfl (Nat.le_of_ble_eq_true rfl) ?_
 | refine op_alloc (tl hn rfl) ?_
 | refine op_storeN rfl rfl rfl rfl (Nat.le_of_ble_eq_true rfl) ?_
 | (refine RunsL.pe hn rfl rfl rfl ?_; first
 | refine ⟨_, pu_add rfl rfl (by omega), ?_⟩
 | refine ⟨_, pu_indexAddr_map rfl rfl (by omega) (by assumption), ?_⟩
 | refine ⟨_, pu_sub rfl rfl (by omega), ?_⟩
 | refine ⟨_, pu_pick_b rfl rfl rfl, ?_⟩
 | refine ⟨_, pu_mul rfl rfl (by omega), ?_⟩
 | refine ⟨_, pu_build rfl rfl rfl rfl rfl rfl, ?_⟩))
    exact rr_int (by rw [szPrg, if_pos h])
  · have h3 := sz1_ge h
    have h4 := sz1_pos h3
    by_cases h5 : sz1 (sz1 left p.code.length) p.entries.length < 0
    · repeat' (first
 | refine RunsL.step tabOk hn rfl ?_
 | refine RunsL.nil ?_
 | refine Runs.toRegion 30 rfl ?_
 | (refine RunsL.pe hn rfl rfl rfl ?_; first
 | refine ⟨_, pu_callR (szInss_ac p.code left h0 hl h1) rfl, ?_⟩
 | refine ⟨_, pu_callR (szInts_ac p.entries (sz1 left p.code.length) (by omega) (by omega) h2) rfl, ?_⟩)
 | (refine Runs.ctls 30 rfl ?_; first | refine Runs.cond_t rfl ?_ | refine Runs.cond_f rfl ?_ | ((first | refine Runs.cond_yes rfl ?_ ?_ | refine Runs.cond_nno rfl ?_ ?_); · first | omega | rfl | assumption | (simp only [List.length_map]; omega)) | ((first | refine Runs.cond_no rfl ?_ ?_ | refine Runs.cond_nyes rfl ?_ ?_); · first | omega | rfl | assumption | (simp only [List.length_map]; omega)) | refine Runs.cond_dec rfl (fun h => ?_) (fun h => ?_) | refine Runs.cond_ndec rfl (fun h => ?_) (fun h => ?_) | refine Runs.cond_nb rfl (fun h => ?_) (fun h => ?_) | refine Runs.cond_b rfl (fun h => ?_) (fun h => ?_) | refine Runs.ret (ends_ro hm rfl rfl ?_) | exact Runs.ret (ends_cellR hm rfl rfl rfl (Nat.le_of_ble_eq_true rfl) rfl rfl))
 | refine op_box rfl (tl hn rfl) ?_
 | refine op_storeF rfl rfl rfl rfl (Nat.le_of_ble_eq_true rfl) ?_
 | refine op_alloc (tl hn rfl) ?_
 | refine op_storeN rfl rfl rfl rfl (Nat.le_of_ble_eq_true rfl) ?_
 | (refine RunsL.pe hn rfl rfl rfl ?_; first
 | refine ⟨_, pu_add rfl rfl (by omega), ?_⟩
 | refine ⟨_, pu_indexAddr_map rfl rfl (by omega) (by assumption), ?_⟩
 | refine ⟨_, pu_sub rfl rfl (by omega), ?_⟩
 | refine ⟨_, pu_pick_b rfl rfl rfl, ?_⟩
 | refine ⟨_, pu_mul rfl rfl (by omega), ?_⟩
 | refine ⟨_, pu_build rfl rfl rfl rfl rfl rfl, ?_⟩))
      exact rr_int (by rw [szPrg, if_neg h, sz1_lt h5])
    · repeat' (first
 | refine RunsL.step tabOk hn rfl ?_
 | refine RunsL.nil ?_
 | refine Runs.toRegion 30 rfl ?_
 | (refine RunsL.pe hn rfl rfl rfl ?_; first
 | refine ⟨_, pu_callR (szInss_ac p.code left h0 hl h1) rfl, ?_⟩
 | refine ⟨_, pu_callR (szInts_ac p.entries (sz1 left p.code.length) (by omega) (by omega) h2) rfl, ?_⟩)
 | (refine Runs.ctls 30 rfl ?_; first | refine Runs.cond_t rfl ?_ | refine Runs.cond_f rfl ?_ | ((first | refine Runs.cond_yes rfl ?_ ?_ | refine Runs.cond_nno rfl ?_ ?_); · first | omega | rfl | assumption | (simp only [List.length_map]; omega)) | ((first | refine Runs.cond_no rfl ?_ ?_ | refine Runs.cond_nyes rfl ?_ ?_); · first | omega | rfl | assumption | (simp only [List.length_map]; omega)) | refine Runs.cond_dec rfl (fun h => ?_) (fun h => ?_) | refine Runs.cond_ndec rfl (fun h => ?_) (fun h => ?_) | refine Runs.cond_nb rfl (fun h => ?_) (fun h => ?_) | refine Runs.cond_b rfl (fun h => ?_) (fun h => ?_) | refine Runs.ret (ends_ro hm rfl rfl ?_) | exact Runs.ret (ends_cellR hm rfl rfl rfl (Nat.le_of_ble_eq_true rfl) rfl rfl))
 | refine op_box rfl (tl hn rfl) ?_
 | refine op_storeF rfl rfl rfl rfl (Nat.le_of_ble_eq_true rfl) ?_
 | refine op_alloc (tl hn rfl) ?_
 | refine op_storeN rfl rfl rfl rfl (Nat.le_of_ble_eq_true rfl) ?_
 | (refine RunsL.pe hn rfl rfl rfl ?_; first
 | refine ⟨_, pu_add rfl rfl (by omega), ?_⟩
 | refine ⟨_, pu_indexAddr_map rfl rfl (by omega) (by assumption), ?_⟩
 | refine ⟨_, pu_sub rfl rfl (by omega), ?_⟩
 | refine ⟨_, pu_pick_b rfl rfl rfl, ?_⟩
 | refine ⟨_, pu_mul rfl rfl (by omega), ?_⟩
 | refine ⟨_, pu_build rfl rfl rfl rfl rfl rfl, ?_⟩))
      exact rr_int (by rw [szPrg, if_neg h])
theorem szPrg_ge {left : Int} {p : Prg} (h : ¬ szPrg left p < 0) : (p.code.length : Int) + p.entries.length ≤ left ∧ szPrg left p = left - p.code.length - p.entries.length := by
  unfold szPrg at h ⊢
  by_cases hc : sz1 left p.code.length < 0
  · rw [if_pos hc] at h; omega
  · rw [if_neg hc] at h ⊢
    have h3 := sz1_ge hc
    have h4 := sz1_pos h3
    have h5 := sz1_ge h
    have h6 := sz1_pos h5
    omega
end Go.Proofs.Ytkhnijggbfoimaa
/- A program, opened. -/
namespace Go.Proofs.Ytkhnijggbfoimaa
set_option linter.unusedSimpArgs false
set_option linter.unusedVariables false
open Go.RowKit
def InsOk (i : Ins) : Prop := I64 i.op ∧ I64 i.a ∧ I64 i.b
structure PrgOk (p : Prg) : Prop where
  code : ∀ i ∈ p.code, InsOk i
  entries : ∀ e ∈ p.entries, I64 e
  clen : p.code.length ≤ maxLen
  elen : p.entries.length ≤ maxLen
theorem ins_of {rcs : List RV} (h : TyC Try.prog 76 rcs) : ∃ i : Ins, rcs = insR i ∧ InsOk i := by
  obtain ⟨cells, rfl, hp⟩ := h.parts Try.underlying76
  obtain ⟨c0, _, rfl, h0, c1, _, rfl, h1, c2, _, rfl, h2, rfl⟩ := hp
  obtain ⟨n0, rfl, b0⟩ := h0.i64 Try.underlying3
  obtain ⟨n1, rfl, b1⟩ := h1.i64 Try.underlying3
  obtain ⟨n2, rfl, b2⟩ := h2.i64 Try.underlying3
  exact ⟨⟨n0, n1, n2⟩, rfl, b0, b1, b2⟩
theorem prg_of {rcs : List RV} (h : TyC Try.prog 25 rcs) : ∃ p : Prg, .agg rcs = prgR p ∧ PrgOk p := by
  obtain ⟨cells, rfl, hp⟩ := h.parts Try.underlying25
  obtain ⟨c0, _, rfl, h0, c1, _, rfl, h1, rfl⟩ := hp
  obtain ⟨els, rfl, hl, hels⟩ := h0.inv_slice Try.underlying22
  obtain ⟨l, rfl, hq⟩ := els_of (f := insR) (Q := InsOk) fun el hel => ins_of (hels el hel)
  obtain ⟨es, rfl, hl2, hq2⟩ := h1.ints Try.underlying23 Try.underlying3 (by kernel_rfl)
  have hc : Try.prog.cellsOf 76 = 3 := by kernel_rfl
  exact ⟨⟨l, es⟩, by rw [hc]; rfl, hq, hq2, by simpa using hl, hl2⟩
end Go.Proofs.Ytkhnijggbfoimaa
/- Equality of slices and of programs: both sides return the same. -/
namespace Go.Proofs.Ytkhnijggbfoimaa
set_option linter.unusedSimpArgs false
set_option linter.unusedVariables false
open Go.RowKit
deriving instance DecidableEq for Ins
deriving instance DecidableEq for Prg
section
variable {α : Type} {a b : List α} {j : Nat} {x y : α}
theorem take_eq_next (h : a.take j = b.take j) (hx : a[j]? = some x) (hy : b[j]? = some x) : a.take (j + 1) = b.take (j + 1) := by
  rw [List.take_add_one, List.take_add_one, h, hx, hy]
theorem take_eq_not (hx : a[j]? = some x) (hy : b[j]? = some y) (hn : x ≠ y) : a ≠ b := by
  rintro rfl
  rw [hx] at hy; injection hy with hy; exact hn hy
theorem take_eq_all (h : a.take a.length = b.take a.length) (hl : a.length = b.length) : a = b := by
  rw [List.take_length] at h; rw [hl, List.take_length] at h; exact h
end
def insV (i : Ins) : List Value := [.int .i64 i.op, .int .i64 i.a, .int .i64 i.b]
theorem ins_eqIn (i j : Ins) (d : Nat) (w : World) : (Op.equalIn (d + 2) 74 (.agg (insV i).toArray) (.agg (insV j).toArray)).run Try.prog w = .ok (decide (i = j)) w := by
  have hu : Try.prog.underlying 3 = some (.int .i64) := Try.underlying3
  rw [run_equalIn_agg w (d + 1) 74 _ _ (by kernel_rfl) (by kernel_rfl)]
  unfold Program.fieldsOf
  rw [Try.underlying74]
  simp [insV, go_sem, Op.eqFields, run_equalIn_int w d 3 .i64 .i64 _ _ hu]
  obtain ⟨a, b, c⟩ := i
  obtain ⟨x, y, z⟩ := j
  simp only [Ins.mk.injEq]
  split
  · split
    · split <;> simp_all
    · simp_all
  · simp_all
theorem ins_neq (x y : Operand) (i j : Ins) (w : World) : ((do eqGuard .neq 74 x y (.agg (insV i).toArray) (.agg (insV j).toArray); binOp .neq 74 (.agg (insV i).toArray) (.agg (insV j).toArray) : Sem Value)).run Try.prog w = .ok (.bool (!decide (i = j))) w := by
  rw [Sem.run_bind, run_eqGuard_agg w .neq _ x y _ _ (by kernel_rfl), Result.andThen_ok, run_neq_struct, ins_eqIn i j 9998 w]
  rfl
end Go.Proofs.Ytkhnijggbfoimaa
/- Machines over values: the laws' helpers, and equality. -/
namespace Go.Proofs.Ytkhnijggbfoimaa
set_option linter.unusedSimpArgs false
set_option linter.unusedVariables false
open Go.RowKit
structure Mch where
  pc : Int
  register : Int
  stack : List Int
  sums : List Int
  left : Int
  started : Bool
  escaped : Bool
  state : Int
  code : Int
  read : Int
deriving DecidableEq
def mchR (m : Mch) : RV := .agg [.int m.pc, .int m.register, intsR m.stack, intsR m.sums, .int m.left, .bool m.started, .bool m.escaped, .int m.state, .int m.code, .int m.read]
structure MchOk (m : Mch) : Prop where
  ats : I64 m.pc
  register : I64 m.register
  stack : ∀ z ∈ m.stack, I64 z
  sums : ∀ z ∈ m.sums, I64 z
  left : I64 m.left
  state : I64 m.state
  code : I64 m.code
  read : I64 m.read
  slen : m.stack.length ≤ maxLen
  tlen : m.sums.length ≤ maxLen
/-- What is left behind two lengths. -/
def sz2 (left : Int) (n m : Nat) : Int := if sz1 left n < 0 then -1 else sz1 (sz1 left n) m
theorem sz2_ge {left : Int} {n m : Nat} (h : ¬ sz2 left n m < 0) : (n : Int) + m ≤ left ∧ sz2 left n m = left - n - m := by
  unfold sz2 at h ⊢
  by_cases hc : sz1 left n < 0
  · rw [if_pos hc] at h; omega
  · rw [if_neg hc] at h ⊢
    have h3 := sz1_ge hc
    have h4 := sz1_pos h3
    have h5 := sz1_ge h
    have h6 := sz1_pos h5
    omega
theorem mch_of {rcs : List RV} (h : TyC Try.prog 27 rcs) : ∃ m : Mch, .agg rcs = mchR m ∧ MchOk m := by
  obtain ⟨cells, rfl, hp⟩ := h.parts Try.underlying27
  obtain ⟨c0, _, rfl, h0, c1, _, rfl, h1, c2, _, rfl, h2, c3, _, rfl, h3, c4, _, rfl, h4, c5, _, rfl, h5, c6, _, rfl, h6, c7, _, rfl, h7, c8, _, rfl, h8, c9, _, rfl, h9, rfl⟩ := hp
  obtain ⟨n0, rfl, b0⟩ := h0.i64 Try.underlying3
  obtain ⟨n1, rfl, b1⟩ := h1.i64 Try.underlying3
  obtain ⟨l2, rfl, b2, d2⟩ := h2.ints Try.underlying23 Try.underlying3 (by kernel_rfl)
  obtain ⟨l3, rfl, b3, d3⟩ := h3.ints Try.underlying23 Try.underlying3 (by kernel_rfl)
  obtain ⟨n4, rfl, b4⟩ := h4.i64 Try.underlying3
  obtain ⟨n5, rfl⟩ := h5.inv_bool Try.underlying4
  obtain ⟨n6, rfl⟩ := h6.inv_bool Try.underlying4
  obtain ⟨n7, rfl, b7⟩ := h7.i64 Try.underlying3
  obtain ⟨n8, rfl, b8⟩ := h8.i64 Try.underlying3
  obtain ⟨n9, rfl, b9⟩ := h9.i64 Try.underlying3
  exact ⟨⟨n0, n1, l2, l3, n4, n5, n6, n7, n8, n9⟩, rfl, ⟨b0, b1, d2, d3, b4, b7, b8, b9, b2, b3⟩⟩
theorem szMch_ac (m : Mch) (left : Int) (h0 : 0 ≤ left) (hl : left ≤ 1048576) (h1 : m.stack.length ≤ maxLen) (h2 : m.sums.length ≤ maxLen) : ACv Try.prog 9 [mchR m, .int left] (.int (sz2 left m.stack.length m.sums.length)) := by
  refine ac_enter Try.func9 rfl _ Try.ntmps9 (by simp) fun C hn hm => ?_
  by_cases h : sz1 left m.stack.length < 0
  · repeat' (first
 | refine RunsL.step tabOk hn rfl ?_
 | refine RunsL.nil ?_
 | refine Runs.toRegion 30 rfl ?_
 | (refine RunsL.pe hn rfl rfl rfl ?_; first
 | refine ⟨_, pu_callR (szInts_ac m.stack left h0 hl h1) rfl, ?_⟩)
 | (refine Runs.ctls 30 rfl ?_; first | refine Runs.cond_t rfl ?_ | refine Runs.cond_f rfl ?_ | ((first | refine Runs.cond_yes rfl ?_ ?_ | refine Runs.cond_nno rfl ?_ ?_); · first | omega | rfl | assumption | (simp only [List.length_map]; omega)) | ((first | refine Runs.cond_no rfl ?_ ?_ | refine Runs.cond_nyes rfl ?_ ?_); · first | omega | rfl | assumption | (simp only [List.length_map]; omega)) | refine Runs.cond_dec rfl (fun h => ?_) (fun h => ?_) | refine Runs.cond_ndec rfl (fun h => ?_) (fun h => ?_) | refine Runs.cond_nb rfl (fun h => ?_) (fun h => ?_) | refine Runs.cond_b rfl (fun h => ?_) (fun h => ?_) | refine Runs.ret (ends_ro hm rfl rfl ?_) | exact Runs.ret (ends_cellR hm rfl rfl rfl (Nat.le_of_ble_eq_true rfl) rfl rfl))
 | refine op_box rfl (tl hn rfl) ?_
 | refine op_storeF rfl rfl rfl rfl (Nat.le_of_ble_eq_true rfl) ?_
 | refine op_alloc (tl hn rfl) ?_
 | refine op_storeN rfl rfl rfl rfl (Nat.le_of_ble_eq_true rfl) ?_
 | (refine RunsL.pe hn rfl rfl rfl ?_; first
 | refine ⟨_, pu_add rfl rfl (by omega), ?_⟩
 | refine ⟨_, pu_indexAddr_map rfl rfl (by omega) (by assumption), ?_⟩
 | refine ⟨_, pu_sub rfl rfl (by omega), ?_⟩
 | refine ⟨_, pu_pick_b rfl rfl rfl, ?_⟩
 | refine ⟨_, pu_mul rfl rfl (by omega), ?_⟩
 | refine ⟨_, pu_build rfl rfl rfl rfl rfl rfl, ?_⟩))
    exact rr_int (by rw [sz2, if_pos h])
  · have h3 := sz1_ge h
    have h4 := sz1_pos h3
    by_cases h5 : sz1 (sz1 left m.stack.length) m.sums.length < 0
    · repeat' (first
 | refine RunsL.step tabOk hn rfl ?_
 | refine RunsL.nil ?_
 | refine Runs.toRegion 30 rfl ?_
 | (refine RunsL.pe hn rfl rfl rfl ?_; first
 | refine ⟨_, pu_callR (szInts_ac m.stack left h0 hl h1) rfl, ?_⟩
 | refine ⟨_, pu_callR (szInts_ac m.sums (sz1 left m.stack.length) (by omega) (by omega) h2) rfl, ?_⟩)
 | (refine Runs.ctls 30 rfl ?_; first | refine Runs.cond_t rfl ?_ | refine Runs.cond_f rfl ?_ | ((first | refine Runs.cond_yes rfl ?_ ?_ | refine Runs.cond_nno rfl ?_ ?_); · first | omega | rfl | assumption | (simp only [List.length_map]; omega)) | ((first | refine Runs.cond_no rfl ?_ ?_ | refine Runs.cond_nyes rfl ?_ ?_); · first | omega | rfl | assumption | (simp only [List.length_map]; omega)) | refine Runs.cond_dec rfl (fun h => ?_) (fun h => ?_) | refine Runs.cond_ndec rfl (fun h => ?_) (fun h => ?_) | refine Runs.cond_nb rfl (fun h => ?_) (fun h => ?_) | refine Runs.cond_b rfl (fun h => ?_) (fun h => ?_) | refine Runs.ret (ends_ro hm rfl rfl ?_) | exact Runs.ret (ends_cellR hm rfl rfl rfl (Nat.le_of_ble_eq_true rfl) rfl rfl))
 | refine op_box rfl (tl hn rfl) ?_
 | refine op_storeF rfl rfl rfl rfl (Nat.le_of_ble_eq_true rfl) ?_
 | refine op_alloc (tl hn rfl) ?_
 | refine op_storeN rfl rfl rfl rfl (Nat.le_of_ble_eq_true rfl) ?_
 | (refine RunsL.pe hn rfl rfl rfl ?_; first
 | refine ⟨_, pu_add rfl rfl (by omega), ?_⟩
 | refine ⟨_, pu_indexAddr_map rfl rfl (by omega) (by assumption), ?_⟩
 | refine ⟨_, pu_sub rfl rfl (by omega), ?_⟩
 | refine ⟨_, pu_pick_b rfl rfl rfl, ?_⟩
 | refine ⟨_, pu_mul rfl rfl (by omega), ?_⟩
 | refine ⟨_, pu_build rfl rfl rfl rfl rfl rfl, ?_⟩))
      exact rr_int (by rw [sz2, if_neg h, sz1_lt h5])
    · repeat' (first
 | refine RunsL.step tabOk hn rfl ?_
 | refine RunsL.nil ?_
 | refine Runs.toRegion 30 rfl ?_
 | (refine RunsL.pe hn rfl rfl rfl ?_; first
 | refine ⟨_, pu_callR (szInts_ac m.stack left h0 hl h1) rfl, ?_⟩
 | refine ⟨_, pu_callR (szInts_ac m.sums (sz1 left m.stack.length) (by omega) (by omega) h2) rfl, ?_⟩)
 | (refine Runs.ctls 30 rfl ?_; first | refine Runs.cond_t rfl ?_ | refine Runs.cond_f rfl ?_ | ((first | refine Runs.cond_yes rfl ?_ ?_ | refine Runs.cond_nno rfl ?_ ?_); · first | omega | rfl | assumption | (simp only [List.length_map]; omega)) | ((first | refine Runs.cond_no rfl ?_ ?_ | refine Runs.cond_nyes rfl ?_ ?_); · first | omega | rfl | assumption | (simp only [List.length_map]; omega)) | refine Runs.cond_dec rfl (fun h => ?_) (fun h => ?_) | refine Runs.cond_ndec rfl (fun h => ?_) (fun h => ?_) | refine Runs.cond_nb rfl (fun h => ?_) (fun h => ?_) | refine Runs.cond_b rfl (fun h => ?_) (fun h => ?_) | refine Runs.ret (ends_ro hm rfl rfl ?_) | exact Runs.ret (ends_cellR hm rfl rfl rfl (Nat.le_of_ble_eq_true rfl) rfl rfl))
 | refine op_box rfl (tl hn rfl) ?_
 | refine op_storeF rfl rfl rfl rfl (Nat.le_of_ble_eq_true rfl) ?_
 | refine op_alloc (tl hn rfl) ?_
 | refine op_storeN rfl rfl rfl rfl (Nat.le_of_ble_eq_true rfl) ?_
 | (refine RunsL.pe hn rfl rfl rfl ?_; first
 | refine ⟨_, pu_add rfl rfl (by omega), ?_⟩
 | refine ⟨_, pu_indexAddr_map rfl rfl (by omega) (by assumption), ?_⟩
 | refine ⟨_, pu_sub rfl rfl (by omega), ?_⟩
 | refine ⟨_, pu_pick_b rfl rfl rfl, ?_⟩
 | refine ⟨_, pu_mul rfl rfl (by omega), ?_⟩
 | refine ⟨_, pu_build rfl rfl rfl rfl rfl rfl, ?_⟩))
      exact rr_int (by rw [sz2, if_neg h])
set_option maxHeartbeats 4000000 in
theorem toMch_ac (m : Mch) (h1 : m.stack.length ≤ 1048576) (h2 : m.sums.length ≤ 1048576) : ACv Try.prog 12 [mchR m] (mchR m) := by
  refine ac_enter Try.func12 rfl _ Try.ntmps12 (by simp) fun C hn hm => ?_
  repeat' (first
 | refine RunsL.step tabOk hn rfl ?_
 | refine RunsL.nil ?_
 | refine Runs.toRegion 30 rfl ?_
 | (refine RunsL.pe hn rfl rfl rfl ?_; first
 | refine ⟨_, pu_callR (toInts_ac m.stack (by omega)) rfl, ?_⟩
 | refine ⟨_, pu_callR (toInts_ac m.sums (by omega)) rfl, ?_⟩)
 | (refine Runs.ctls 30 rfl ?_; first | refine Runs.cond_t rfl ?_ | refine Runs.cond_f rfl ?_ | ((first | refine Runs.cond_yes rfl ?_ ?_ | refine Runs.cond_nno rfl ?_ ?_); · first | omega | rfl | assumption | (simp only [List.length_map]; omega)) | ((first | refine Runs.cond_no rfl ?_ ?_ | refine Runs.cond_nyes rfl ?_ ?_); · first | omega | rfl | assumption | (simp only [List.length_map]; omega)) | refine Runs.cond_dec rfl (fun h => ?_) (fun h => ?_) | refine Runs.cond_ndec rfl (fun h => ?_) (fun h => ?_) | refine Runs.cond_nb rfl (fun h => ?_) (fun h => ?_) | refine Runs.cond_b rfl (fun h => ?_) (fun h => ?_) | refine Runs.ret (ends_ro hm rfl rfl ?_) | exact Runs.ret (ends_cellR hm rfl rfl rfl (Nat.le_of_ble_eq_true rfl) rfl rfl))
 | refine op_box rfl (tl hn rfl) ?_
 | refine op_storeF rfl rfl rfl rfl (Nat.le_of_ble_eq_true rfl) ?_
 | refine op_alloc (tl hn rfl) ?_
 | refine op_storeN rfl rfl rfl rfl (Nat.le_of_ble_eq_true rfl) ?_
 | (refine RunsL.pe hn rfl rfl rfl ?_; first
 | refine ⟨_, pu_add rfl rfl (by omega), ?_⟩
 | refine ⟨_, pu_indexAddr_map rfl rfl (by omega) (by assumption), ?_⟩
 | refine ⟨_, pu_sub rfl rfl (by omega), ?_⟩
 | refine ⟨_, pu_pick_b rfl rfl rfl, ?_⟩
 | refine ⟨_, pu_mul rfl rfl (by omega), ?_⟩
 | refine ⟨_, pu_build rfl rfl rfl rfl rfl rfl, ?_⟩))
set_option maxHeartbeats 4000000 in
theorem eqMch_ac (m : Mch) (h1 : m.stack.length ≤ maxLen) (h2 : m.sums.length ≤ maxLen) : ACv Try.prog 14 [mchR m, mchR m] (.bool true) := by
  refine ac_enter Try.func14 rfl _ Try.ntmps14 (by simp) fun C hn hm => ?_
  repeat' (first
 | refine RunsL.step tabOk hn rfl ?_
 | refine RunsL.nil ?_
 | refine Runs.toRegion 30 rfl ?_
 | (refine RunsL.pe hn rfl rfl rfl ?_; first
 | refine ⟨_, pu_callR (eqInts_ac m.stack h1) rfl, ?_⟩
 | refine ⟨_, pu_callR (eqInts_ac m.sums h2) rfl, ?_⟩)
 | (refine Runs.ctls 30 rfl ?_; first | refine Runs.cond_t rfl ?_ | refine Runs.cond_f rfl ?_ | ((first | refine Runs.cond_yes rfl ?_ ?_ | refine Runs.cond_nno rfl ?_ ?_); · first | omega | rfl | assumption | (simp only [List.length_map]; omega)) | ((first | refine Runs.cond_no rfl ?_ ?_ | refine Runs.cond_nyes rfl ?_ ?_); · first | omega | rfl | assumption | (simp only [List.length_map]; omega)) | refine Runs.cond_dec rfl (fun h => ?_) (fun h => ?_) | refine Runs.cond_ndec rfl (fun h => ?_) (fun h => ?_) | refine Runs.cond_nb rfl (fun h => ?_) (fun h => ?_) | refine Runs.cond_b rfl (fun h => ?_) (fun h => ?_) | refine Runs.ret (ends_ro hm rfl rfl ?_) | exact Runs.ret (ends_cellR hm rfl rfl rfl (Nat.le_of_ble_eq_true rfl) rfl rfl))
 | refine op_box rfl (tl hn rfl) ?_
 | refine op_storeF rfl rfl rfl rfl (Nat.le_of_ble_eq_true rfl) ?_
 | refine op_alloc (tl hn rfl) ?_
 | refine op_storeN rfl rfl rfl rfl (Nat.le_of_ble_eq_true rfl) ?_
 | (refine RunsL.pe hn rfl rfl rfl ?_; first
 | refine ⟨_, pu_add rfl rfl (by omega), ?_⟩
 | refine ⟨_, pu_indexAddr_map rfl rfl (by omega) (by assumption), ?_⟩
 | refine ⟨_, pu_sub rfl rfl (by omega), ?_⟩
 | refine ⟨_, pu_pick_b rfl rfl rfl, ?_⟩
 | refine ⟨_, pu_mul rfl rfl (by omega), ?_⟩
 | refine ⟨_, pu_build rfl rfl rfl rfl rfl rfl, ?_⟩))
  exact rr_bool rfl
theorem mch_eq (a b : Mch) : a = b ↔ a.pc = b.pc ∧ a.register = b.register ∧ a.stack = b.stack ∧ a.sums = b.sums ∧ a.left = b.left ∧ a.started = b.started ∧ a.escaped = b.escaped ∧ a.state = b.state ∧ a.code = b.code ∧ a.read = b.read := by
  cases a; cases b; simp
end Go.Proofs.Ytkhnijggbfoimaa
/- The verifier of one instruction: both sides return the same. -/
namespace Go.Proofs.Ytkhnijggbfoimaa
set_option linter.unusedSimpArgs false
set_option linter.unusedVariables false
open Go.RowKit
abbrev InR (x lo hi : Int) : Prop := lo ≤ x ∧ x ≤ hi
theorem inRange_ac (x lo hi : Int) : ACv Try.prog 50 [.int x, .int lo, .int hi] (.bool (decide (InR x lo hi))) := by
  refine ac_enter Try.func50 rfl _ Try.ntmps50 (by simp) fun C hn hm => ?_
  repeat' (first
 | refine RunsL.step tabOk hn rfl ?_
 | refine RunsL.nil ?_
 | refine Runs.toRegion 30 rfl ?_
 | (refine Runs.ctls 30 rfl ?_; first | refine Runs.cond_t rfl ?_ | refine Runs.cond_f rfl ?_ | ((first | refine Runs.cond_yes rfl ?_ ?_ | refine Runs.cond_nno rfl ?_ ?_); · first | omega | rfl | assumption | (simp only [List.length_map]; omega)) | ((first | refine Runs.cond_no rfl ?_ ?_ | refine Runs.cond_nyes rfl ?_ ?_); · first | omega | rfl | assumption | (simp only [List.length_map]; omega)) | refine Runs.cond_dec rfl (fun h => ?_) (fun h => ?_) | refine Runs.cond_ndec rfl (fun h => ?_) (fun h => ?_) | refine Runs.cond_nb rfl (fun h => ?_) (fun h => ?_) | refine Runs.cond_b rfl (fun h => ?_) (fun h => ?_) | refine Runs.ret (ends_ro hm rfl rfl ?_) | exact Runs.ret (ends_cellR hm rfl rfl rfl (Nat.le_of_ble_eq_true rfl) rfl rfl))
 | refine op_box rfl (tl hn rfl) ?_
 | refine op_storeF rfl rfl rfl rfl (Nat.le_of_ble_eq_true rfl) ?_
 | refine op_alloc (tl hn rfl) ?_
 | refine op_storeN rfl rfl rfl rfl (Nat.le_of_ble_eq_true rfl) ?_
 | (refine RunsL.pe hn rfl rfl rfl ?_; first
 | refine ⟨_, pu_add rfl rfl (by omega), ?_⟩
 | refine ⟨_, pu_indexAddr_map rfl rfl (by omega) (by assumption), ?_⟩
 | refine ⟨_, pu_sub rfl rfl (by omega), ?_⟩
 | refine ⟨_, pu_pick_b rfl rfl rfl, ?_⟩
 | refine ⟨_, pu_mul rfl rfl (by omega), ?_⟩
 | refine ⟨_, pu_build rfl rfl rfl rfl rfl rfl, ?_⟩)
 | ((first | refine RunsL.guard_dec rfl rfl rfl ?_ ?_ | refine RunsL.guard_ndec rfl rfl rfl ?_ ?_ | refine RunsL.guard_nb rfl rfl rfl ?_ ?_ | refine RunsL.guard_b rfl rfl rfl ?_ ?_) <;> intro h <;> try (exfalso; first | omega | contradiction | (simp only [List.length_map] at h; omega))))
  all_goals exact rr_bool (by rw [Bool.eq_iff_iff]; simp only [decide_eq_true_eq, Bool.not_eq_true', decide_eq_false_iff_not, Bool.false_eq_true, true_iff, false_iff, Bool.and_eq_true, Bool.or_eq_true, Bool.not_eq_eq_eq_not, Bool.not_true, Bool.not_false, reduceCtorEq, eq_self, iff_true, iff_false, ne_eq]; simp only [InR] at *; omega)
theorem l1In_ac (x lo hi : Int) : ACv Try.prog 34 [.int x, .int lo, .int hi] (.bool (decide (InR x lo hi))) := by
  refine ac_enter Try.func34 rfl _ Try.ntmps34 (by simp) fun C hn hm => ?_
  repeat' (first
 | refine RunsL.step tabOk hn rfl ?_
 | refine RunsL.nil ?_
 | refine Runs.toRegion 30 rfl ?_
 | (refine Runs.ctls 30 rfl ?_; first | refine Runs.cond_t rfl ?_ | refine Runs.cond_f rfl ?_ | ((first | refine Runs.cond_yes rfl ?_ ?_ | refine Runs.cond_nno rfl ?_ ?_); · first | omega | rfl | assumption | (simp only [List.length_map]; omega)) | ((first | refine Runs.cond_no rfl ?_ ?_ | refine Runs.cond_nyes rfl ?_ ?_); · first | omega | rfl | assumption | (simp only [List.length_map]; omega)) | refine Runs.cond_dec rfl (fun h => ?_) (fun h => ?_) | refine Runs.cond_ndec rfl (fun h => ?_) (fun h => ?_) | refine Runs.cond_nb rfl (fun h => ?_) (fun h => ?_) | refine Runs.cond_b rfl (fun h => ?_) (fun h => ?_) | refine Runs.ret (ends_ro hm rfl rfl ?_) | exact Runs.ret (ends_cellR hm rfl rfl rfl (Nat.le_of_ble_eq_true rfl) rfl rfl))
 | refine op_box rfl (tl hn rfl) ?_
 | refine op_storeF rfl rfl rfl rfl (Nat.le_of_ble_eq_true rfl) ?_
 | refine op_alloc (tl hn rfl) ?_
 | refine op_storeN rfl rfl rfl rfl (Nat.le_of_ble_eq_true rfl) ?_
 | (refine RunsL.pe hn rfl rfl rfl ?_; first
 | refine ⟨_, pu_add rfl rfl (by omega), ?_⟩
 | refine ⟨_, pu_indexAddr_map rfl rfl (by omega) (by assumption), ?_⟩
 | refine ⟨_, pu_sub rfl rfl (by omega), ?_⟩
 | refine ⟨_, pu_pick_b rfl rfl rfl, ?_⟩
 | refine ⟨_, pu_mul rfl rfl (by omega), ?_⟩
 | refine ⟨_, pu_build rfl rfl rfl rfl rfl rfl, ?_⟩)
 | ((first | refine RunsL.guard_dec rfl rfl rfl ?_ ?_ | refine RunsL.guard_ndec rfl rfl rfl ?_ ?_ | refine RunsL.guard_nb rfl rfl rfl ?_ ?_ | refine RunsL.guard_b rfl rfl rfl ?_ ?_) <;> intro h <;> try (exfalso; first | omega | contradiction | (simp only [List.length_map] at h; omega))))
  all_goals exact rr_bool (by rw [Bool.eq_iff_iff]; simp only [decide_eq_true_eq, Bool.not_eq_true', decide_eq_false_iff_not, Bool.false_eq_true, true_iff, false_iff, Bool.and_eq_true, Bool.or_eq_true, Bool.not_eq_eq_eq_not, Bool.not_true, Bool.not_false, reduceCtorEq, eq_self, iff_true, iff_false, ne_eq]; simp only [InR] at *; omega)
abbrev Idx (p : Prg) (i : Int) : Prop := 0 ≤ i ∧ i < p.code.length
theorem isIndex_ac (p : Prg) (i : Int) : ACv Try.prog 56 [prgR p, .int i] (.bool (decide (Idx p i))) := by
  have hl : (p.code.map insR).length = p.code.length := List.length_map ..
  refine ac_enter Try.func56 rfl _ Try.ntmps56 (by simp) fun C hn hm => ?_
  repeat' (first
 | refine RunsL.step tabOk hn rfl ?_
 | refine RunsL.nil ?_
 | refine Runs.toRegion 30 rfl ?_
 | (refine Runs.ctls 30 rfl ?_; first | refine Runs.cond_t rfl ?_ | refine Runs.cond_f rfl ?_ | ((first | refine Runs.cond_yes rfl ?_ ?_ | refine Runs.cond_nno rfl ?_ ?_); · first | omega | rfl | assumption | (simp only [List.length_map]; omega)) | ((first | refine Runs.cond_no rfl ?_ ?_ | refine Runs.cond_nyes rfl ?_ ?_); · first | omega | rfl | assumption | (simp only [List.length_map]; omega)) | refine Runs.cond_dec rfl (fun h => ?_) (fun h => ?_) | refine Runs.cond_ndec rfl (fun h => ?_) (fun h => ?_) | refine Runs.cond_nb rfl (fun h => ?_) (fun h => ?_) | refine Runs.cond_b rfl (fun h => ?_) (fun h => ?_) | refine Runs.ret (ends_ro hm rfl rfl ?_) | exact Runs.ret (ends_cellR hm rfl rfl rfl (Nat.le_of_ble_eq_true rfl) rfl rfl))
 | refine op_box rfl (tl hn rfl) ?_
 | refine op_storeF rfl rfl rfl rfl (Nat.le_of_ble_eq_true rfl) ?_
 | refine op_alloc (tl hn rfl) ?_
 | refine op_storeN rfl rfl rfl rfl (Nat.le_of_ble_eq_true rfl) ?_
 | (refine RunsL.pe hn rfl rfl rfl ?_; first
 | refine ⟨_, pu_add rfl rfl (by omega), ?_⟩
 | refine ⟨_, pu_indexAddr_map rfl rfl (by omega) (by assumption), ?_⟩
 | refine ⟨_, pu_sub rfl rfl (by omega), ?_⟩
 | refine ⟨_, pu_pick_b rfl rfl rfl, ?_⟩
 | refine ⟨_, pu_mul rfl rfl (by omega), ?_⟩
 | refine ⟨_, pu_build rfl rfl rfl rfl rfl rfl, ?_⟩)
 | ((first | refine RunsL.guard_dec rfl rfl rfl ?_ ?_ | refine RunsL.guard_ndec rfl rfl rfl ?_ ?_ | refine RunsL.guard_nb rfl rfl rfl ?_ ?_ | refine RunsL.guard_b rfl rfl rfl ?_ ?_) <;> intro h <;> try (exfalso; first | omega | contradiction | (simp only [List.length_map] at h; omega))))
  all_goals exact rr_bool (by rw [Bool.eq_iff_iff]; simp only [decide_eq_true_eq, Bool.not_eq_true', decide_eq_false_iff_not, Bool.false_eq_true, true_iff, false_iff, Bool.and_eq_true, Bool.or_eq_true, Bool.not_eq_eq_eq_not, Bool.not_true, Bool.not_false, reduceCtorEq, eq_self, iff_true, iff_false, ne_eq]; simp only [Idx] at *; omega)
abbrev Goes (op : Int) : Prop := op ≠ 8 ∧ op ≠ 10 ∧ op ≠ 12 ∧ op ≠ 17
theorem goesOn_ac (op : Int) : ACv Try.prog 99 [.int op] (.bool (decide (Goes op))) := by
  refine ac_enter Try.func99 rfl _ Try.ntmps99 (by simp) fun C hn hm => ?_
  repeat' (first
 | refine RunsL.step tabOk hn rfl ?_
 | refine RunsL.nil ?_
 | refine Runs.toRegion 30 rfl ?_
 | (refine Runs.ctls 30 rfl ?_; first | refine Runs.cond_t rfl ?_ | refine Runs.cond_f rfl ?_ | ((first | refine Runs.cond_yes rfl ?_ ?_ | refine Runs.cond_nno rfl ?_ ?_); · first | omega | rfl | assumption | (simp only [List.length_map]; omega)) | ((first | refine Runs.cond_no rfl ?_ ?_ | refine Runs.cond_nyes rfl ?_ ?_); · first | omega | rfl | assumption | (simp only [List.length_map]; omega)) | refine Runs.cond_dec rfl (fun h => ?_) (fun h => ?_) | refine Runs.cond_ndec rfl (fun h => ?_) (fun h => ?_) | refine Runs.cond_nb rfl (fun h => ?_) (fun h => ?_) | refine Runs.cond_b rfl (fun h => ?_) (fun h => ?_) | refine Runs.ret (ends_ro hm rfl rfl ?_) | exact Runs.ret (ends_cellR hm rfl rfl rfl (Nat.le_of_ble_eq_true rfl) rfl rfl))
 | refine op_box rfl (tl hn rfl) ?_
 | refine op_storeF rfl rfl rfl rfl (Nat.le_of_ble_eq_true rfl) ?_
 | refine op_alloc (tl hn rfl) ?_
 | refine op_storeN rfl rfl rfl rfl (Nat.le_of_ble_eq_true rfl) ?_
 | (refine RunsL.pe hn rfl rfl rfl ?_; first
 | refine ⟨_, pu_add rfl rfl (by omega), ?_⟩
 | refine ⟨_, pu_indexAddr_map rfl rfl (by omega) (by assumption), ?_⟩
 | refine ⟨_, pu_sub rfl rfl (by omega), ?_⟩
 | refine ⟨_, pu_pick_b rfl rfl rfl, ?_⟩
 | refine ⟨_, pu_mul rfl rfl (by omega), ?_⟩
 | refine ⟨_, pu_build rfl rfl rfl rfl rfl rfl, ?_⟩)
 | ((first | refine RunsL.guard_dec rfl rfl rfl ?_ ?_ | refine RunsL.guard_ndec rfl rfl rfl ?_ ?_ | refine RunsL.guard_nb rfl rfl rfl ?_ ?_ | refine RunsL.guard_b rfl rfl rfl ?_ ?_) <;> intro h <;> try (exfalso; first | omega | contradiction | (simp only [List.length_map] at h; omega))))
  all_goals exact rr_bool (by rw [Bool.eq_iff_iff]; simp only [decide_eq_true_eq, Bool.not_eq_true', decide_eq_false_iff_not, Bool.false_eq_true, true_iff, false_iff, Bool.and_eq_true, Bool.or_eq_true, Bool.not_eq_eq_eq_not, Bool.not_true, Bool.not_false, reduceCtorEq, eq_self, iff_true, iff_false, ne_eq]; simp only [Goes] at *; omega)
theorem l16Op_ac (op : Int) (l : List Int) (hl : l.length ≤ maxLen) : ACv Try.prog 91 [.int op, intsR l] (.bool (decide (op ∈ l))) := by
  unfold maxLen at hl
  refine ac_enter Try.func91 rfl _ Try.ntmps91 (by simp) fun C hn hm => ?_
  repeat' (first
 | refine RunsL.step tabOk hn rfl ?_
 | refine RunsL.nil ?_
 | refine Runs.toRegion 30 rfl ?_
 | (refine Runs.ctls 30 rfl ?_; first | refine Runs.cond_t rfl ?_ | refine Runs.cond_f rfl ?_ | ((first | refine Runs.cond_yes rfl ?_ ?_ | refine Runs.cond_nno rfl ?_ ?_); · first | omega | rfl | assumption | (simp only [List.length_map]; omega)) | ((first | refine Runs.cond_no rfl ?_ ?_ | refine Runs.cond_nyes rfl ?_ ?_); · first | omega | rfl | assumption | (simp only [List.length_map]; omega)) | refine Runs.cond_dec rfl (fun h => ?_) (fun h => ?_) | refine Runs.cond_ndec rfl (fun h => ?_) (fun h => ?_) | refine Runs.cond_nb rfl (fun h => ?_) (fun h => ?_) | refine Runs.cond_b rfl (fun h => ?_) (fun h => ?_) | refine Runs.ret (ends_ro hm rfl rfl ?_) | exact Runs.ret (ends_cellR hm rfl rfl rfl (Nat.le_of_ble_eq_true rfl) rfl rfl))
 | refine op_box rfl (tl hn rfl) ?_
 | refine op_storeF rfl rfl rfl rfl (Nat.le_of_ble_eq_true rfl) ?_
 | refine op_alloc (tl hn rfl) ?_
 | refine op_storeN rfl rfl rfl rfl (Nat.le_of_ble_eq_true rfl) ?_
 | (refine RunsL.pe hn rfl rfl rfl ?_; first
 | refine ⟨_, pu_add rfl rfl (by omega), ?_⟩
 | refine ⟨_, pu_indexAddr_map rfl rfl (by omega) (by assumption), ?_⟩
 | refine ⟨_, pu_sub rfl rfl (by omega), ?_⟩
 | refine ⟨_, pu_pick_b rfl rfl rfl, ?_⟩
 | refine ⟨_, pu_mul rfl rfl (by omega), ?_⟩
 | refine ⟨_, pu_build rfl rfl rfl rfl rfl rfl, ?_⟩))
  refine Runs.loopN 30 rfl (fun j => [(0, .int op), (1, .ro (intsR l)), (5, .int (j : Int))]) (fun _ => []) (fun j => op ∉ l.take j) l.length 0 (Nat.zero_le _) (by simp) ⟨rfl, rfl, rfl, trivial⟩ rfl fun j hj hQ next => ?_
  by_cases hlt : j < l.length
  · obtain ⟨x, hx⟩ : ∃ x, l[(j : Int).toNat]? = some x := ⟨_, List.getElem?_eq_getElem hlt⟩
    have hx' : l[j]? = some x := hx
    repeat' (first
 | refine RunsL.step tabOk hn rfl ?_
 | refine RunsL.nil ?_
 | refine Runs.toRegion 30 rfl ?_
 | (refine Runs.ctls 30 rfl ?_; first | refine Runs.cond_t rfl ?_ | refine Runs.cond_f rfl ?_ | ((first | refine Runs.cond_yes rfl ?_ ?_ | refine Runs.cond_nno rfl ?_ ?_); · first | omega | rfl | assumption | (simp only [List.length_map]; omega)) | ((first | refine Runs.cond_no rfl ?_ ?_ | refine Runs.cond_nyes rfl ?_ ?_); · first | omega | rfl | assumption | (simp only [List.length_map]; omega)) | refine Runs.cond_dec rfl (fun h => ?_) (fun h => ?_) | refine Runs.cond_ndec rfl (fun h => ?_) (fun h => ?_) | refine Runs.cond_nb rfl (fun h => ?_) (fun h => ?_) | refine Runs.cond_b rfl (fun h => ?_) (fun h => ?_) | refine Runs.ret (ends_ro hm rfl rfl ?_) | exact Runs.ret (ends_cellR hm rfl rfl rfl (Nat.le_of_ble_eq_true rfl) rfl rfl))
 | refine op_box rfl (tl hn rfl) ?_
 | refine op_storeF rfl rfl rfl rfl (Nat.le_of_ble_eq_true rfl) ?_
 | refine op_alloc (tl hn rfl) ?_
 | refine op_storeN rfl rfl rfl rfl (Nat.le_of_ble_eq_true rfl) ?_
 | (refine RunsL.pe hn rfl rfl rfl ?_; first
 | refine ⟨_, pu_add rfl rfl (by omega), ?_⟩
 | refine ⟨_, pu_indexAddr_map rfl rfl (by omega) (by assumption), ?_⟩
 | refine ⟨_, pu_sub rfl rfl (by omega), ?_⟩
 | refine ⟨_, pu_pick_b rfl rfl rfl, ?_⟩
 | refine ⟨_, pu_mul rfl rfl (by omega), ?_⟩
 | refine ⟨_, pu_build rfl rfl rfl rfl rfl rfl, ?_⟩))
    · exact rr_bool (decide_eq_true (by subst h; exact List.mem_of_getElem? hx')).symm
    · refine next _ _ ⟨rfl, rfl, rfl, trivial⟩ hlt ?_ rfl
      rw [List.take_succ_eq_append_getElem hlt, List.mem_append]
      rintro (hm' | hm')
      · exact hQ hm'
      · rw [List.getElem?_eq_getElem hlt] at hx'; injection hx' with hx'
        simp only [List.mem_singleton] at hm'
        exact h (by rw [hm', hx'])
  · repeat' (first
 | refine RunsL.step tabOk hn rfl ?_
 | refine RunsL.nil ?_
 | refine Runs.toRegion 30 rfl ?_
 | (refine Runs.ctls 30 rfl ?_; first | refine Runs.cond_t rfl ?_ | refine Runs.cond_f rfl ?_ | ((first | refine Runs.cond_yes rfl ?_ ?_ | refine Runs.cond_nno rfl ?_ ?_); · first | omega | rfl | assumption | (simp only [List.length_map]; omega)) | ((first | refine Runs.cond_no rfl ?_ ?_ | refine Runs.cond_nyes rfl ?_ ?_); · first | omega | rfl | assumption | (simp only [List.length_map]; omega)) | refine Runs.cond_dec rfl (fun h => ?_) (fun h => ?_) | refine Runs.cond_ndec rfl (fun h => ?_) (fun h => ?_) | refine Runs.cond_nb rfl (fun h => ?_) (fun h => ?_) | refine Runs.cond_b rfl (fun h => ?_) (fun h => ?_) | refine Runs.ret (ends_ro hm rfl rfl ?_) | exact Runs.ret (ends_cellR hm rfl rfl rfl (Nat.le_of_ble_eq_true rfl) rfl rfl))
 | refine op_box rfl (tl hn rfl) ?_
 | refine op_storeF rfl rfl rfl rfl (Nat.le_of_ble_eq_true rfl) ?_
 | refine op_alloc (tl hn rfl) ?_
 | refine op_storeN rfl rfl rfl rfl (Nat.le_of_ble_eq_true rfl) ?_
 | (refine RunsL.pe hn rfl rfl rfl ?_; first
 | refine ⟨_, pu_add rfl rfl (by omega), ?_⟩
 | refine ⟨_, pu_indexAddr_map rfl rfl (by omega) (by assumption), ?_⟩
 | refine ⟨_, pu_sub rfl rfl (by omega), ?_⟩
 | refine ⟨_, pu_pick_b rfl rfl rfl, ?_⟩
 | refine ⟨_, pu_mul rfl rfl (by omega), ?_⟩
 | refine ⟨_, pu_build rfl rfl rfl rfl rfl rfl, ?_⟩))
    rw [show j = l.length by omega, List.take_length] at hQ
    exact rr_bool (decide_eq_false hQ).symm
/-- What is no index is in range. -/
def OpOk (x : Ins) : Prop := (x.op = 1 → InR x.a 1 4 ∧ InR x.b 0 1) ∧ (x.op = 2 ∨ x.op = 16 → InR x.a 0 255) ∧ (x.op = 3 ∨ x.op = 5 → InR x.a 0 400) ∧ (x.op = 11 → 0 ≤ x.a) ∧ (x.op = 12 → InR x.a 1 8) ∧ InR x.op 1 17
instance (x : Ins) : Decidable (OpOk x) := by unfold OpOk; infer_instance
def SafeX (n i : Int) (x : Ins) : Prop := OpOk x ∧ (x.op = 7 ∨ x.op = 8 ∨ x.op = 9 ∨ x.op = 13 → 0 ≤ x.a ∧ x.a < n) ∧ (x.op = 11 → 0 ≤ x.b ∧ x.b < n) ∧ (Goes x.op → i + 1 < n)
instance (n i : Int) (x : Ins) : Decidable (SafeX n i x) := by unfold SafeX; infer_instance
/-- The instruction at an index is safe. -/
def SafeI (p : Prg) (i : Int) : Prop := match p.code[i.toNat]? with
  | some x => 0 ≤ i ∧ SafeX p.code.length i x
  | none => False
instance (p : Prg) (i : Int) : Decidable (SafeI p i) := by unfold SafeI; split <;> infer_instance
theorem safeI_some {p : Prg} {i : Int} {x : Ins} (h : p.code[i.toNat]? = some x) : SafeI p i ↔ 0 ≤ i ∧ SafeX p.code.length i x := by unfold SafeI; rw [h]
theorem safeI_out {p : Prg} {i : Int} (h : ¬ Idx p i) : SafeI p i ↔ False := by
  unfold SafeI
  split
  · rename_i x hx
    have := (List.getElem?_eq_some_iff.1 hx).1
    unfold Idx at h
    exact ⟨fun h' => h (by omega), False.elim⟩
  · exact Iff.rfl
theorem l16Operands_ac (x : Ins) : ACv Try.prog 92 [.agg (insR x)] (.bool (decide (OpOk x))) := by
  refine ac_enter Try.func92 rfl _ Try.ntmps92 (by simp) fun C hn hm => ?_
  repeat' (first
 | refine RunsL.step tabOk hn rfl ?_
 | refine RunsL.nil ?_
 | refine Runs.toRegion 30 rfl ?_
 | (refine RunsL.pe hn rfl rfl rfl ?_; first
 | refine ⟨_, pu_callR (l1In_ac _ _ _) rfl, ?_⟩)
 | (refine Runs.ctls 30 rfl ?_; first | refine Runs.cond_t rfl ?_ | refine Runs.cond_f rfl ?_ | ((first | refine Runs.cond_yes rfl ?_ ?_ | refine Runs.cond_nno rfl ?_ ?_); · first | omega | rfl | assumption | (simp only [List.length_map]; omega)) | ((first | refine Runs.cond_no rfl ?_ ?_ | refine Runs.cond_nyes rfl ?_ ?_); · first | omega | rfl | assumption | (simp only [List.length_map]; omega)) | refine Runs.cond_dec rfl (fun h => ?_) (fun h => ?_) | refine Runs.cond_ndec rfl (fun h => ?_) (fun h => ?_) | refine Runs.cond_nb rfl (fun h => ?_) (fun h => ?_) | refine Runs.cond_b rfl (fun h => ?_) (fun h => ?_) | refine Runs.ret (ends_ro hm rfl rfl ?_) | exact Runs.ret (ends_cellR hm rfl rfl rfl (Nat.le_of_ble_eq_true rfl) rfl rfl))
 | refine op_box rfl (tl hn rfl) ?_
 | refine op_storeF rfl rfl rfl rfl (Nat.le_of_ble_eq_true rfl) ?_
 | refine op_alloc (tl hn rfl) ?_
 | refine op_storeN rfl rfl rfl rfl (Nat.le_of_ble_eq_true rfl) ?_
 | (refine RunsL.pe hn rfl rfl rfl ?_; first
 | refine ⟨_, pu_add rfl rfl (by omega), ?_⟩
 | refine ⟨_, pu_indexAddr_map rfl rfl (by omega) (by assumption), ?_⟩
 | refine ⟨_, pu_sub rfl rfl (by omega), ?_⟩
 | refine ⟨_, pu_pick_b rfl rfl rfl, ?_⟩
 | refine ⟨_, pu_mul rfl rfl (by omega), ?_⟩
 | refine ⟨_, pu_build rfl rfl rfl rfl rfl rfl, ?_⟩)
 | ((first | refine RunsL.guard_dec rfl rfl rfl ?_ ?_ | refine RunsL.guard_ndec rfl rfl rfl ?_ ?_ | refine RunsL.guard_nb rfl rfl rfl ?_ ?_ | refine RunsL.guard_b rfl rfl rfl ?_ ?_) <;> intro h <;> try (exfalso; first | omega | contradiction | (simp only [List.length_map] at h; omega))))
  all_goals exact rr_bool (by rw [Bool.eq_iff_iff]; simp only [decide_eq_true_eq, Bool.not_eq_true', decide_eq_false_iff_not, Bool.false_eq_true, true_iff, false_iff, Bool.and_eq_true, Bool.or_eq_true, Bool.not_eq_eq_eq_not, Bool.not_true, Bool.not_false, reduceCtorEq, eq_self, iff_true, iff_false, ne_eq]; simp only [OpOk, InR] at *; omega)
end Go.Proofs.Ytkhnijggbfoimaa
/- Slice expressions on data. Over any program. -/
namespace Go.Proofs.Ytkhnijggbfoimaa
set_option linter.unusedSimpArgs false
set_option linter.unusedVariables false
open Go.RowKit
open AV (Mem Keeps)
theorem rel_sliced {w : World} {ok : Nat → Prop} {A : Option Addr} {n c sz l h : Nat} {els : List (List RV)} (hr : RV.rel w ok (.seq sz els) (.slice A n c)) (hl : l ≤ h) (hh : h ≤ els.length) : RV.rel w ok (.seq sz ((els.take h).drop l)) (sliced A l h c sz) := by
  simp only [RV.rel] at hr ⊢
  obtain ⟨A', n', c', e, hn, h1, h2, h3⟩ := hr
  injection e with e1 e2 e3; subst e1; subst e2; subst e3
  refine ⟨_, h - l, c - l, rfl, by rw [List.length_drop, List.length_take]; omega, by omega, by omega, fun h0 => ?_⟩
  obtain ⟨b, o, rfl, hb, hok, hE⟩ := h3 (by omega)
  rw [if_neg (by omega)]
  refine ⟨b, o + l * sz, by simp [Addr.add_lit], hb, hok, RV.relE_of _ _ _ fun k e hk => ?_⟩
  rw [List.getElem?_drop, List.getElem?_take] at hk
  split at hk
  · have := RV.relE_at _ o sz hE (l + k) e hk
    rwa [Nat.add_mul, ← Nat.add_assoc] at this
  · cases hk
section
variable {P : Program} {C : Ctx} {env : Env} {σ : List Ob} {t : Nat} {ty : TypeId} {pos : String} {after : Array Edge} {gd : Option (Nat × Bool)}
variable {tt e : TypeId} {z : Value} {sz bytes : Nat} {x y y' : Operand} {kd kd' : IntKind} {p q : Int} {els : List (List RV)} {α : Type} {l : List α} {f : α → List RV}
theorem SL.under [hs : SL P tt e z sz bytes] : P.underlying tt = some (.slice (P.elem tt)) := by
  have h := hs.el.ht
  have : P.elem tt = e := by simp [Program.elem, h]
  rw [this]; exact h
theorem SL.size [hs : SL P tt e z sz bytes] (w : World) : (sizeOf (P.elem tt)).run P w = .ok sz w := by
  have h := hs.el.ht
  have he : P.elem tt = e := by simp [Program.elem, h]
  obtain ⟨i, i1, i2, i3, i4⟩ := hs.el.hi
  simp [he, sizeOf, typeInfo, i1, i3]
theorem pu_slice_h [hs : SL P tt e z sz bytes] (hx : ev env x = .ro (.seq sz els)) (hy : ev env y = .ro (.c (.int kd p))) (h0 : 0 ≤ p) (h1 : p ≤ els.length) : Pur P C ⟨some t, .slice tt x none (some y) none, ty, pos, after, gd⟩ env σ (.ro (.seq sz (els.take p.toNat))) :=
  Pur.of (fun a m hG hσ hH => by
    have h := hH x (by simp [Op.operands])
    rw [hx] at h
    simp only [AV.rel] at h
    have h' := h
    simp only [RV.rel] at h'
    obtain ⟨A, n, c, ea, hn, k1, k2, _⟩ := h'
    rw [ea] at h
    have hr := rel_sliced h (Nat.zero_le p.toNat) (by omega)
    refine ⟨sliced A 0 p.toNat c sz, ?_, by simpa only [AV.rel, List.drop_zero] using hr⟩
    simp only [execOp, Option.map_some, Option.map_none, ev_c (hH _ (by simp [Op.operands])) hy, ea, Sem.run_bind, run_sliceAt_slice m.w tt _ _ _ _ SL.under, run_slice_h m.w tt A n c SL.under kd p h0 (by omega), SL.size, Result.andThen_ok]
    rfl)
theorem pu_slice_l [hs : SL P tt e z sz bytes] (hx : ev env x = .ro (.seq sz els)) (hy : ev env y = .ro (.c (.int kd p))) (h0 : 0 ≤ p) (h1 : p ≤ els.length) : Pur P C ⟨some t, .slice tt x (some y) none none, ty, pos, after, gd⟩ env σ (.ro (.seq sz (els.drop p.toNat))) :=
  Pur.of (fun a m hG hσ hH => by
    have h := hH x (by simp [Op.operands])
    rw [hx] at h
    simp only [AV.rel] at h
    have h' := h
    simp only [RV.rel] at h'
    obtain ⟨A, n, c, ea, hn, k1, k2, _⟩ := h'
    rw [ea] at h
    have hr := rel_sliced h (show p.toNat ≤ n by omega) (by omega)
    rw [hn, List.take_length, ← hn] at hr
    refine ⟨sliced A p.toNat n c sz, ?_, by simpa only [AV.rel] using hr⟩
    simp only [execOp, Option.map_some, Option.map_none, ev_c (hH _ (by simp [Op.operands])) hy, ea, Sem.run_bind, run_sliceAt_slice m.w tt _ _ _ _ SL.under, run_slice_l m.w tt A n c SL.under kd p h0 (by omega), SL.size, Result.andThen_ok]
    rfl)
theorem pu_slice_lh [hs : SL P tt e z sz bytes] (hx : ev env x = .ro (.seq sz els)) (hy : ev env y = .ro (.c (.int kd p))) (hy' : ev env y' = .ro (.c (.int kd' q))) (h0 : 0 ≤ p) (h1 : p ≤ q) (h2 : q ≤ els.length) : Pur P C ⟨some t, .slice tt x (some y) (some y') none, ty, pos, after, gd⟩ env σ (.ro (.seq sz ((els.take q.toNat).drop p.toNat))) :=
  Pur.of (fun a m hG hσ hH => by
    have h := hH x (by simp [Op.operands])
    rw [hx] at h
    simp only [AV.rel] at h
    have h' := h
    simp only [RV.rel] at h'
    obtain ⟨A, n, c, ea, hn, k1, k2, _⟩ := h'
    rw [ea] at h
    have hr := rel_sliced h (show p.toNat ≤ q.toNat by omega) (by omega)
    refine ⟨sliced A p.toNat q.toNat c sz, ?_, by simpa only [AV.rel] using hr⟩
    simp only [execOp, Option.map_some, Option.map_none, ev_c (hH _ (by simp [Op.operands])) hy, ev_c (hH _ (by simp [Op.operands])) hy', ea, Sem.run_bind, run_sliceAt_slice m.w tt _ _ _ _ SL.under, run_slice_lh m.w tt A n c SL.under kd kd' p q h0 h1 (by omega), SL.size, Result.andThen_ok]
    rfl)
theorem pu_slice_hM [hs : SL P tt e z sz bytes] (hx : ev env x = .ro (.seq sz (l.map f))) (hy : ev env y = .ro (.c (.int kd p))) (h0 : 0 ≤ p) (h1 : p ≤ l.length) : Pur P C ⟨some t, .slice tt x none (some y) none, ty, pos, after, gd⟩ env σ (.ro (.seq sz ((l.take p.toNat).map f))) := by
  have h := pu_slice_h (P := P) (tt := tt) (C := C) (σ := σ) (t := t) (ty := ty) (pos := pos) (after := after) (gd := gd) hx hy h0 (by simpa using h1)
  rwa [← List.map_take] at h
theorem pu_slice_lM [hs : SL P tt e z sz bytes] (hx : ev env x = .ro (.seq sz (l.map f))) (hy : ev env y = .ro (.c (.int kd p))) (h0 : 0 ≤ p) (h1 : p ≤ l.length) : Pur P C ⟨some t, .slice tt x (some y) none none, ty, pos, after, gd⟩ env σ (.ro (.seq sz ((l.drop p.toNat).map f))) := by
  have h := pu_slice_l (P := P) (tt := tt) (C := C) (σ := σ) (t := t) (ty := ty) (pos := pos) (after := after) (gd := gd) hx hy h0 (by simpa using h1)
  rwa [← List.map_drop] at h
end
end Go.Proofs.Ytkhnijggbfoimaa
/- The context of a walk may change under way: rebasing; loops over changing contexts; iteration over a string. Over any program. -/
namespace Go.Proofs.Ytkhnijggbfoimaa
set_option linter.unusedSimpArgs false
set_option linter.unusedVariables false
open Go.RowKit
open AV (Mem Keeps)
section
variable {P : Program} {k : List Item} {R : Act → World → Prop}
/-- The blocks of the frame's own objects. -/
def mine (φ : Nat → Option Nat) (n : Nat) (b : Nat) : Prop := ∃ i, i < n ∧ φ i = some b
theorem good_rebase {C : Ctx} {w : World} {φ : Nat → Option Nat} {σ : List Ob} (hG : Good C ⟨w, φ, σ, C.ok⟩) : Good ⟨w, C.ok, mine φ σ.length, C.n⟩ ⟨w, φ, σ, C.ok⟩ :=
  ⟨rfl, hG.inj, hG.ob, fun i g hi hg => .inl ⟨i, hi, hg⟩, ⟨rfl, rfl, rfl, Nat.le_refl _, fun _ _ _ => rfl, fun b hb => hG.frm.new b (Nat.le_trans hG.frm.size hb)⟩⟩
/-- A loop whose context may change from round to round. -/
theorem Runs.loopV {c : Code} (I : Nat → Ctx → St → Prop)
    (h : ∀ n C S, I n C S → (∀ m, m < n → ∀ C' S', I m C' S' → Runs P C' (.inLoop c :: k) R S') → Runs P C (.code c :: .inLoop c :: k) R S) (n : Nat) (C : Ctx) (S : St) (h0 : I n C S) : Runs P C (.code (.loop c) :: k) R S := by
  have key : ∀ n C S, I n C S → Runs P C (.code c :: .inLoop c :: k) R S := by
    intro n
    induction n using Nat.strongRecOn with
    | _ n ih => exact fun C S hS => h n C S hS fun m hm C' S' hS' => ⟨fun a w hs => ((ih m hm C' S' hS').run a w hs).step fun _ _ => step_inLoop⟩
  exact ⟨fun a w hs => ((key n C S h0).run a w hs).step fun _ _ => step_loop⟩
/-- A frame of plain values alone. -/
def cst : AV → Bool
  | .ro (.c _) | .junk => true
  | .ro (.tup vs) => vs.all fun r => match r with | .c _ => true | _ => false
  | _ => false
def CEnv : Env → Prop
  | [] => True
  | (_, v) :: e => cst v = true ∧ CEnv e
theorem rels_cst {w w' : World} {ok ok' : Nat → Prop} : ∀ (vs : List RV) (us : List Value), (vs.all fun r => match r with | .c _ => true | _ => false) = true → RV.rels w ok vs us → RV.rels w' ok' vs us
  | [], us, _, h => by simpa [RV.rels] using h
  | r :: vs, us, hc, h => by
    rw [List.all_cons, Bool.and_eq_true] at hc
    simp only [RV.rels] at h ⊢
    obtain ⟨u, us', e, h1, h2⟩ := h
    refine ⟨u, us', e, ?_, rels_cst vs us' hc.2 h2⟩
    cases r <;> simp at hc
    simpa only [RV.rel] using h1
theorem cst_rel {m m' : Mem} {v : AV} {u : Value} (hc : cst v = true) (h : AV.rel m v u) : AV.rel m' v u := by
  cases v with
  | ro r =>
    cases r <;> simp only [cst, Bool.false_eq_true] at hc <;> simp only [AV.rel, RV.rel] at h ⊢
    · exact h
    · obtain ⟨us, e, h1⟩ := h
      exact ⟨us, e, rels_cst _ _ hc h1⟩
  | junk => simp [AV.rel]
  | _ => simp [cst] at hc
theorem CEnv.look {env : Env} (h : CEnv env) (t : Nat) : cst (look env t) = true := by
  induction env with
  | nil => rfl
  | cons p e ih =>
    obtain ⟨s, v⟩ := p
    simp only [CEnv] at h
    rw [look_put]
    split
    · exact h.1
    · exact ih h.2
theorem CEnv.holds {m m' : Mem} {env : Env} {a : Act} (h : CEnv env) (hH : Holds m env a) : Holds m' env a := fun t => cst_rel (h.look t) (hH t)
theorem sim_cst {C C' : Ctx} {env : Env} {a : Act} {w w' : World} (h : CEnv env) (hs : Sim C ⟨env, []⟩ a w) (hn : C'.n = C.n) (hf : Frm C' w') : Sim C' ⟨env, []⟩ a w' := by
  obtain ⟨h1, h2, φ, hG, hH⟩ := hs
  exact ⟨h1, h2.trans hn.symm, φ, ⟨rfl, fun i j g hi => by simp at hi, fun i o hi => by simp at hi, fun i g hi => by simp at hi, hf⟩, h.holds hH⟩
theorem decode_high (s : ByteArray) (i : Nat) (h : i < s.size) (hc : 128 ≤ (s[i]'h).toNat) : 128 ≤ (Utf8.decode s i).1 := by
  have e : s.get! (i + 0) = s[i]'h := by
    show s.get! i = _
    simp [ByteArray.get!, getElem!_pos, h]
    rfl
  unfold Utf8.decode
  simp only [e]
  rw [if_neg (by omega)]
  split
  · split
    · assumption
    · decide
  · split
    · split
      · rename_i h1; simp only [Bool.and_eq_true, decide_eq_true_eq] at h1; simp only; omega
      · decide
    · split
      · split
        · rename_i h1; simp only [Bool.and_eq_true, decide_eq_true_eq] at h1; simp only; omega
        · decide
      · decide
section
variable {C : Ctx} {ops : Array Oper} {rest : List Oper} {env : Env} {t : Nat} {ty : TypeId} {pos : String} {after : Array Edge} {x : Operand} {s : ByteArray}
theorem op_rangeS {tt : TypeId} [hs : TS P tt] (hx : ev env x = .str s) (ht : t < C.n) (hce : CEnv env) (hm : ∀ b, ¬ C.mu b)
    (hk : ∀ (C' : Ctx) (g : Nat), C'.n = C.n → (∀ b, ¬ C'.mu b) → C'.w0.heap[g]? = some (.stringIter s 0) → C.w0.heap.size ≤ g → Below C.w0.heap.size C.w0 C'.w0 → RunsL P C' ops rest k R ⟨(t, .ro (.c (.pointer (some ⟨g, 0, none⟩)))) :: env, []⟩) :
    RunsL P C ops (⟨some t, .range tt x, ty, pos, after, none⟩ :: rest) k R ⟨env, []⟩ := by
  refine ⟨fun a w hsim => ?_⟩
  obtain ⟨h1, h2, φ, hG, hH⟩ := hsim
  have hxx := ev_c (ev_rel hH x) hx
  refine wpList_plain rfl fun K hK' => ?_
  unfold Oper.wp
  have hrun : (execOp a.eval ⟨some t, .range tt x, ty, pos, after, none⟩).run P w = .ok (.value (.pointer (some ⟨w.heap.size, 0, none⟩))) (w.iter s 0) := by
    simp [execOp, hxx, run_range_string w tt s hs.h]
  rw [hrun]
  simp only [Oper.upon]
  have hb : Below w.heap.size w (w.iter s 0) := below_one w _
  have hb0 : Below C.w0.heap.size C.w0 (w.iter s 0) := (hG.frm.below0 hm).trans (hb.mono hG.frm.size)
  refine hK' _ _ ((hk ⟨w.iter s 0, C.ok, fun _ => False, C.n⟩ w.heap.size rfl (fun _ h => h) (World.iter_heap w s 0) hG.frm.size hb0).run _ _ ?_)
  refine ⟨h1, by simp [Act.put, h2], φ, ⟨rfl, fun i j g hi => by simp at hi, fun i o hi => by simp at hi, fun i g hi => by simp at hi, ⟨rfl, rfl, rfl, Nat.le_refl _, fun _ _ _ => rfl, fun b hbb => hG.frm.new b (Nat.le_trans hG.frm.size (Nat.le_trans hb.size hbb))⟩⟩, ?_⟩
  exact (hce.holds hH).put (by rw [h2]; exact ht) (by simp [AV.rel, RV.rel])
theorem iter_world {w w' : World} {g : Nat} {o : Obj} (hg : w.heap[g]? = some o) (o' : Obj) (hw : w' = { w with heap := w.heap.setIfInBounds g o' }) : Below g w w' ∧ w'.heap[g]? = some o' ∧ w'.heap.size = w.heap.size := by
  subst hw
  have hlt : g < w.heap.size := (Array.getElem?_eq_some_iff.1 hg).1
  refine ⟨⟨rfl, rfl, rfl, by simp, fun b hb => ?_⟩, ?_, by simp⟩
  · show (w.heap.setIfInBounds g o')[b]? = _
    rw [Array.getElem?_setIfInBounds_ne (by omega)]
  · show (w.heap.setIfInBounds g o')[g]? = _
    rw [Array.getElem?_setIfInBounds_self_of_lt hlt]
theorem op_nextS {g p : Nat} (hx : ev env x = .ro (.c (.pointer (some ⟨g, 0, none⟩)))) (hg : C.w0.heap[g]? = some (.stringIter s p)) (hp : p < s.size) (ht : t < C.n) (hce : CEnv env) (hm : ∀ b, ¬ C.mu b)
    (hk : ∀ (C' : Ctx), C'.n = C.n → (∀ b, ¬ C'.mu b) → C'.w0.heap[g]? = some (.stringIter s (p + (Utf8.decode s p).2)) → Below g C.w0 C'.w0 → RunsL P C' ops rest k R ⟨(t, .ro (.tup [.bool true, .int (p : Int), .c (.int .i32 ((Utf8.decode s p).1 : Int))])) :: env, []⟩) :
    RunsL P C ops (⟨some t, .next x true, ty, pos, after, none⟩ :: rest) k R ⟨env, []⟩ := by
  refine ⟨fun a w hsim => ?_⟩
  obtain ⟨h1, h2, φ, hG, hH⟩ := hsim
  have hxx := ev_c (ev_rel hH x) hx
  have hlt : g < C.w0.heap.size := (Array.getElem?_eq_some_iff.1 hg).1
  have hb0 := hG.frm.below0 hm
  have hgw : w.heap[g]? = some (.stringIter s p) := (hb0.block g hlt).trans hg
  refine wpList_plain rfl fun K hK' => ?_
  unfold Oper.wp
  obtain ⟨k1, k2, k3⟩ := iter_world hgw (.stringIter s (p + (Utf8.decode s p).2)) rfl
  have hrun : (execOp a.eval ⟨some t, .next x true, ty, pos, after, none⟩).run P w = .ok (.value (.tuple #[.bool true, .int .i64 p, .int .i32 ((Utf8.decode s p).1 : Int)])) { w with heap := w.heap.setIfInBounds g (.stringIter s (p + (Utf8.decode s p).2)) } := by
    simp [execOp, hxx, Instr.next, getObj, setObj, Sem.run, Result.andThen, hgw, hp, goInt]
  rw [hrun]
  simp only [Oper.upon]
  have hb1 : Below g C.w0 { w with heap := w.heap.setIfInBounds g (.stringIter s (p + (Utf8.decode s p).2)) } := (hb0.mono (Nat.le_of_lt hlt)).trans k1
  refine hK' _ _ ((hk ⟨_, C.ok, fun _ => False, C.n⟩ rfl (fun _ h => h) k2 hb1).run _ _ ?_)
  refine ⟨h1, by simp [Act.put, h2], φ, ⟨rfl, fun i j g hi => by simp at hi, fun i o hi => by simp at hi, fun i g hi => by simp at hi, ⟨rfl, rfl, rfl, Nat.le_refl _, fun _ _ _ => rfl, fun b hbb => hG.frm.new b (Nat.le_trans hb1.size hbb)⟩⟩, ?_⟩
  exact (hce.holds hH).put (by rw [h2]; exact ht) (by simp [AV.rel, RV.rel, RV.rels])
theorem op_nextEnd {g p : Nat} (hx : ev env x = .ro (.c (.pointer (some ⟨g, 0, none⟩)))) (hg : C.w0.heap[g]? = some (.stringIter s p)) (hp : ¬ p < s.size) (ht : t < C.n) (hm : ∀ b, ¬ C.mu b)
    (hk : RunsL P C ops rest k R ⟨(t, .ro (.tup [.bool false])) :: env, []⟩) :
    RunsL P C ops (⟨some t, .next x true, ty, pos, after, none⟩ :: rest) k R ⟨env, []⟩ := by
  refine ⟨fun a w hsim => ?_⟩
  obtain ⟨h1, h2, φ, hG, hH⟩ := hsim
  have hxx := ev_c (ev_rel hH x) hx
  have hlt : g < C.w0.heap.size := (Array.getElem?_eq_some_iff.1 hg).1
  have hgw : w.heap[g]? = some (.stringIter s p) := ((hG.frm.below0 hm).block g hlt).trans hg
  refine wpList_plain rfl fun K hK' => ?_
  unfold Oper.wp
  have hrun : (execOp a.eval ⟨some t, .next x true, ty, pos, after, none⟩).run P w = .ok (.value (.tuple #[.bool false])) w := by
    simp [execOp, hxx, Instr.next, getObj, Sem.run, Result.andThen, hgw, hp]
  rw [hrun]
  simp only [Oper.upon]
  exact hK' _ _ (hk.run _ _ ⟨h1, by simp [Act.put, h2], φ, hG, hH.put (by rw [h2]; exact ht) (by simp [AV.rel, RV.rel, RV.rels])⟩)
end
/-- The end, in a context that has come later, of a function that returns a plain value. -/
theorem endsB {C C' : Ctx} {fn : Func} {R0 : RR → Prop} {S : St} {t : Nat} {v : Value} (hB : Below C.w0.heap.size C.w0 C'.w0) (hm : ∀ b, ¬ C'.mu b) (hr : fn.results = #[.tmp t]) (hx : look S.env t = .ro (.c v)) (hR : R0 (.ro (.c v))) : ∀ a w, Sim C' S a w → Ends P C fn R0 a w := by
  intro a w hs
  obtain ⟨h1, v', h2, rr, bs, rfl, h4, h5, h6, h7⟩ := ends_ro (R := fun r => r = .ro (.c v)) hm hr hx rfl a w hs
  simp only [RR.rel, RV.rel] at h4
  obtain ⟨rfl, rfl⟩ := h4
  exact ⟨h1, v', h2, .ro (.c v'), [], hR, by simp [RR.rel, RV.rel], by simp, by simp, hB.trans (h7.mono hB.size)⟩
end
end Go.Proofs.Ytkhnijggbfoimaa
/- Arrays of truth values in a frame. Over any program. -/
namespace Go.Proofs.Ytkhnijggbfoimaa
set_option linter.unusedSimpArgs false
set_option linter.unusedVariables false
open Go.RowKit
open AV (Mem Keeps)
def bools (n : Nat) (u : Nat → Bool) : List AV := (List.range n).map fun j => .bool (u j)
def boolsR (n : Nat) (u : Nat → Bool) : List RV := (List.range n).map fun j => .bool (u j)
def put1 (u : Nat → Bool) (k : Nat) (b : Bool) : Nat → Bool := fun j => if j = k then b else u j
theorem bools_len (n : Nat) (u : Nat → Bool) : (bools n u).length = n := by simp [bools]
theorem bools_len1 (n : Nat) (u : Nat → Bool) : (bools n u).length = n * 1 := by simp [bools]
theorem boolsR_len (n : Nat) (u : Nat → Bool) : (boolsR n u).length = n := by simp [boolsR]
theorem bools_at {n : Nat} {u : Nat → Bool} {k : Nat} (h : k < n) : (bools n u)[k]? = some (.bool (u k)) := by simp [bools, h]
theorem boolsR_at {n : Nat} {u : Nat → Bool} {k : Nat} (h : k < n) : (boolsR n u)[k]? = some (.bool (u k)) := by simp [boolsR, h]
theorem bools_map (n : Nat) (u : Nat → Bool) : bools n u = (boolsR n u).map .ro := by simp [bools, boolsR]
theorem bools_one (n : Nat) (u : Nat → Bool) : (boolsR n u).all RV.one = true := by
  rw [List.all_eq_true]
  intro x hx
  obtain ⟨j, _, rfl⟩ := List.mem_map.1 hx
  rfl
theorem bools_set {n : Nat} {u : Nat → Bool} {k : Nat} (b : Bool) : (bools n u).set k (.bool b) = bools n (put1 u k b) := by
  apply List.ext_getElem?
  intro j
  rw [List.getElem?_set]
  by_cases hj : j < n
  · rw [bools_at hj, bools_len]
    by_cases e : k = j
    · subst e; rw [if_pos rfl, if_pos hj, bools_at hj]; simp [put1]
    · rw [if_neg e, bools_at hj]
      have : ¬ j = k := fun h => e h.symm
      simp [put1, this]
  · have h1 : (bools n (put1 u k b))[j]? = none := by rw [List.getElem?_eq_none]; rw [bools_len]; omega
    have h2 : (bools n u)[j]? = none := by rw [List.getElem?_eq_none]; rw [bools_len]; omega
    rw [h1, h2]
    split
    · split
      · rename_i h; rw [bools_len] at h; omega
      · rfl
    · rfl
theorem bools_zero (n : Nat) : ((List.replicate n (Value.bool false)).map fun v => AV.ro (.c v)) = bools n fun _ => false := by
  apply List.ext_getElem?
  intro j
  by_cases hj : j < n
  · rw [bools_at hj]; simp [hj]
  · have h1 : (bools n fun _ => false)[j]? = none := by rw [List.getElem?_eq_none]; rw [bools_len]; omega
    rw [h1, List.getElem?_eq_none]; simp; omega
theorem setsAt_nil : ∀ (vs cs : List AV) (off : Nat), off + vs.length = cs.length → setsAt cs off vs = cs.take off ++ vs
  | [], cs, off, h => by simp [setsAt]; rw [List.take_of_length_le]; simp at h; omega
  | v :: vs, cs, off, h => by
    rw [setsAt, setsAt_nil vs _ (off + 1) (by simp at h ⊢; omega)]
    have hlt : off < cs.length := by simp at h; omega
    rw [List.take_succ_eq_append_getElem (by simpa using hlt), List.take_set_of_le (Nat.le_refl _)]
    simp
theorem setsAt_all {vs cs : List AV} (h : vs.length = cs.length) : setsAt cs 0 vs = vs := by
  rw [setsAt_nil vs cs 0 (by omega)]; simp
attribute [irreducible] bools boolsR
section
variable {P : Program} {C : Ctx} {ops : Array Oper} {rest : List Oper} {k : List Item} {R : Act → World → Prop} {env : Env} {σ : List Ob} {t : Nat} {ty : TypeId} {pos : String} {after : Array Edge} {gd : Option (Nat × Bool)}
theorem pu_loadA {tt : TypeId} {x : Operand} {i n : Nat} {o : Ob} {u : Nat → Bool} [TN P tt n] (hx : ev env x = .obj i 0) (ho : σ[i]? = some o) (hc : o.cs = bools n u) :
    Pur P C ⟨some t, .load tt x, ty, pos, after, gd⟩ env σ (.ro (.agg (boolsR n u))) :=
  pu_loadN_objR hx ho (hc.trans (bools_map n u)) (boolsR_len n u)
theorem pu_load_at {tt : TypeId} {x : Operand} {i off n : Nat} {o : Ob} {u : Nat → Bool} [T1 P tt] (hx : ev env x = .obj i off) (ho : σ[i]? = some o) (hc : o.cs = bools n u) (hlt : off < n) : Pur P C ⟨some t, .load tt x, ty, pos, after, gd⟩ env σ (.bool (u off)) :=
  pu_load_obj hx ho (by rw [hc]; exact bools_at hlt)
theorem op_storeA {tt : TypeId} {x y : Operand} {i n : Nat} {o : Ob} {u : Nat → Bool} [TN P tt n] (hx : ev env x = .obj i 0) (hy : ev env y = .ro (.agg (boolsR n u))) (ho : σ[i]? = some o) (hl : o.cs.length = n)
    (hk : RunsL P C ops rest k R ⟨env, σ.set i ⟨o.t, o.sz, bools n u⟩⟩) : RunsL P C ops (⟨none, .store tt x y, ty, pos, after, none⟩ :: rest) k R ⟨env, σ⟩ :=
  op_storeN (vs := (boolsR n u).map .ro) hx (by rw [hy]; simp only [cells?]; rw [if_pos (bools_one n u)]) (by simp [boolsR_len]) ho (by omega) (by
    rw [setsAt_all (by simp [boolsR_len, hl]), ← bools_map]; exact hk)
theorem op_store1 {tt : TypeId} {x y : Operand} {i off n : Nat} {o : Ob} {u : Nat → Bool} {b : Bool} [T1 P tt] (hx : ev env x = .obj i off) (hy : ev env y = .bool b) (ho : σ[i]? = some o) (hc : o.cs = bools n u) (hlt : off < n)
    (hk : RunsL P C ops rest k R ⟨env, σ.set i ⟨o.t, o.sz, bools n (put1 u off b)⟩⟩) : RunsL P C ops (⟨none, .store tt x y, ty, pos, after, none⟩ :: rest) k R ⟨env, σ⟩ :=
  op_store hx hy rfl ho (by rw [hc, bools_len]; exact hlt) (by rw [hc, bools_set]; exact hk)
theorem pu_indexA {tt e : TypeId} {x ix : Operand} {kd : IntKind} {p : Int} {n m : Nat} {u : Nat → Bool} [h1 : T1 P e] (hu : P.underlying tt = some (.array m e)) (hx : ev env x = .ro (.agg (boolsR n u))) (hi : ev env ix = .ro (.c (.int kd p))) (h0 : 0 ≤ p) (hlt : p < m) (hnm : m = n) :
    Pur P C ⟨some t, .index tt x ix, ty, pos, after, gd⟩ env σ (.bool (u p.toNat)) :=
  Pur.of fun a mm hG hσ hH => by
    have h := hH x (by simp [Op.operands])
    rw [hx] at h
    simp only [AV.rel, RV.rel] at h
    obtain ⟨us, e, hr⟩ := h
    obtain ⟨v, k1, k2⟩ := RV.rels_at _ _ hr p.toNat _ (boolsR_at (u := u) (by omega : p.toNat < n))
    simp only [RV.rel] at k2
    subst k2
    refine ⟨.bool (u p.toNat), ?_, by simp [AV.rel, RV.rel]⟩
    have k1' : us[p.toNat]? = some (.bool (u p.toNat)) := by simpa using k1
    simp [execOp, e, ev_c (hH _ (by simp [Op.operands])) hi, Instr.index, asIntOf, run_underlying hu, h0, hlt, run_size1 (P := P), part, run_isAgg1 (P := P), k1']
end
end Go.Proofs.Ytkhnijggbfoimaa
/- An empty literal of a slice is a row of the frame's own. Over any program. -/
namespace Go.Proofs.Ytkhnijggbfoimaa
set_option linter.unusedSimpArgs false
set_option linter.unusedVariables false
open Go.RowKit
open AV (Mem Keeps)
/-- No object speaks of object i. -/
def FreeI (i : Nat) : List Ob → Prop
  | [] => True
  | o :: os => AV.onlys (fun k => k ≠ i) o.cs ∧ FreeI i os
theorem FreeI.at_ {i : Nat} : ∀ {os : List Ob}, FreeI i os → ∀ (j : Nat) o, os[j]? = some o → AV.onlys (fun k => k ≠ i) o.cs
  | [], _, j, o, hj => by simp at hj
  | o :: os, h, j, o', hj => by
    simp only [FreeI] at h
    cases j with
    | zero => simp at hj; subst hj; exact h.1
    | succ j => exact FreeI.at_ h.2 j o' (by simpa using hj)
theorem onlys_bools (p : Nat → Prop) (n : Nat) (u : Nat → Bool) : AV.onlys p (bools n u) := by rw [bools_map]; exact onlys_ro _ _
section
variable {P : Program} {C : Ctx} {ops : Array Oper} {rest : List Oper} {k : List Item} {R : Act → World → Prop} {env : Env} {σ : List Ob} {t : Nat} {ty : TypeId} {pos : String} {after : Array Edge}
theorem op_callOR {f : FuncId} {fn : Func} {xs : Array Operand} {ats : Array TypeId} {args : List RV} {rr : RR} [hfn : FN P f fn] (hf : AC P f args fun r => r = rr) (ha : xs.toList.map (ev env) = args.map .ro) (ht : t < C.n)
    (hk : RunsL P C ops rest k R ⟨(t, instA σ.length rr) :: env, σ ++ obs rr⟩) :
    RunsL P C ops (⟨some t, .call { callee := .value (.func f), args := xs, argTypes := ats }, ty, pos, after, none⟩ :: rest) k R ⟨env, σ⟩ := op_callO hf (ha ▸ FitsL.ros args) ht hk
theorem pu_len_seqN {tt e : TypeId} {z : Value} {sz bytes sz' : Nat} {x : Operand} {els : List (List RV)} {gd : Option (Nat × Bool)} (n : Nat) [hs : SL P tt e z sz bytes] (hx : ev env x = .ro (.seq sz' els)) (hl : els.length = n) :
    Pur P C ⟨some t, .call { callee := .builtin .len, args := #[x], argTypes := #[tt] }, ty, pos, after, gd⟩ env σ (.int (n : Int)) := hl ▸ pu_len_seq hx
theorem op_appendA {tt e : TypeId} {z : Value} {bytes i : Nat} {o : Ob} {rs : List RV} {els : List (List RV)} {x y : Operand} [hs : SL P tt e z 1 bytes] (hx : ev env x = .own i) (ho : σ[i]? = some o) (hc : allRo o.cs = some rs) (hy : ev env y = .ro (.seq 1 els)) (het : o.t = e) (hes : o.sz = 1)
    (hfree : FreeI i (σ.set i ⟨o.t, o.sz, []⟩)) (b1 : rs.length + els.length ≤ 4294967296) (b2 : Nat.ble bytes 256 = true) (ht : t < C.n)
    (hk : RunsL P C ops rest k R ⟨(t, .own i) :: killEnv i env, σ.set i ⟨e, 1, (rs ++ els.flatten).map .ro⟩⟩) :
    RunsL P C ops (⟨some t, .call { callee := .builtin .append, args := #[x, y], argTypes := #[tt, tt] }, ty, pos, after, none⟩ :: rest) k R ⟨env, σ⟩ :=
  op_append (n := rs.length) hx ho (allRo_eq hc) hy het hes (Nat.mul_one _).symm (fun j ob hj => by
    by_cases hji : j = i
    · subst hji
      rw [ho] at hj; injection hj with hj; subst hj
      rw [allRo_eq hc]; exact onlys_ro _ _
    · exact hfree.at_ j ob (by rw [List.getElem?_set_ne (Ne.symm hji)]; exact hj)) (by omega) (by
    have h := Nat.le_of_ble_eq_true b2
    have := Nat.mul_le_mul b1 h
    omega) ht hk
theorem run_build0 {tt e : TypeId} {z : Value} {sz bytes : Nat} [hs : SL P tt e z sz bytes] (w : World) : (Instr.buildSlice tt 0 #[]).run P w = .ok (.slice (some ⟨w.heap.size, 0, none⟩) 0 0) (w.alloc (.cells #[] e)) := by
  obtain ⟨i, hi, hz0, hsz', hb⟩ := hs.el.hi
  simp [Instr.buildSlice, run_underlying hs.el.ht, sizeOf, typeInfo, hi, newRow, newObj, Instr.fill, show Array.range 0 = #[] by rfl]
  rfl
theorem op_build0 {tt e : TypeId} {z : Value} {sz bytes : Nat} [hs : SL P tt e z sz bytes] (ht : t < C.n) (hk : RunsL P C ops rest k R ⟨(t, .own σ.length) :: env, σ ++ [⟨e, sz, []⟩]⟩) :
    RunsL P C ops (⟨some t, .buildSlice tt 0 #[], ty, pos, after, none⟩ :: rest) k R ⟨env, σ⟩ :=
  RunsL.val rfl rfl ht (fun a w φ hG hH => by
    have hg := good_alloc hG #[] e sz [] (by simp) (fun j v hj => by simp at hj)
    refine ⟨_, _, _, by simp only [execOp, Sem.run_bind]; rw [show (#[] : Array (Nat × Operand)).map (fun p => (p.1, a.eval p.2)) = #[] from by simp, run_build0 (P := P) (tt := tt) w]; rfl, hg.1, hg.2, ?_⟩
    simp only [AV.rel]
    exact ⟨⟨e, sz, []⟩, 0, by rw [List.getElem?_append_right (Nat.le_refl _), Nat.sub_self]; rfl, by simp, hs.el.hs, .inr ⟨w.heap.size, 0, _, upd_eq, rfl, heap_alloc_new w _, Nat.le_refl _, Nat.zero_le _, by simp⟩⟩) hk
end
end Go.Proofs.Ytkhnijggbfoimaa
