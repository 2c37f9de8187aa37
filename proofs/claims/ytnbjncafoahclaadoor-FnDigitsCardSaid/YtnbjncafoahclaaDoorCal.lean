/- Calls that make memory: their results as data, or as rows of the frame's own; calls that are lent what the frame owns. Over any program. -/
import Derived.Test.YtnbjncafoahclaaDoorRow
namespace Go.Proofs.YtnbjncafoahclaaDoor
set_option linter.unusedSimpArgs false
set_option linter.unusedVariables false
open Go.RowKit
open AV (Mem Keeps)

/-! ### A result taken as data. -/
mutual
def Seals : RR → RV → Prop
  | .ro r, r' => r' = r
  | .row _ sz cs, r' => ∃ els, r' = .seq sz els ∧ els.flatten = cs ∧ ∀ x ∈ els, x.length = sz
  | .agg rs, r' => ∃ rs', r' = .agg rs' ∧ SealsL rs rs'
  | .tup rs, r' => ∃ rs', r' = .tup rs' ∧ SealsL rs rs'
def SealsL : List RR → List RV → Prop
  | [], rs' => rs' = []
  | x :: xs, rs' => ∃ r rs'', rs' = r :: rs'' ∧ Seals x r ∧ SealsL xs rs''
end
theorem flatten_len {α : Type} {sz : Nat} : ∀ {els : List (List α)}, (∀ x ∈ els, x.length = sz) → els.flatten.length = els.length * sz
  | [], _ => by simp
  | x :: xs, h => by
    rw [List.flatten_cons, List.length_append, flatten_len (fun y hy => h y (by simp [hy])), h x (by simp), List.length_cons, Nat.add_mul]; omega
theorem flatten_at {α : Type} {sz : Nat} : ∀ {els : List (List α)}, (∀ x ∈ els, x.length = sz) → ∀ (k j : Nat) e, els[k]? = some e → j < sz → els.flatten[k * sz + j]? = e[j]?
  | [], _, k, j, e, hk, _ => by simp at hk
  | x :: xs, h, k, j, e, hk, hj => by
    rw [List.flatten_cons]
    have hx := h x (by simp)
    cases k with
    | zero => simp at hk; subst hk; rw [List.getElem?_append_left (by omega)]; simp
    | succ k =>
      simp at hk
      rw [List.getElem?_append_right (by rw [hx, Nat.add_mul]; omega), hx, show (k + 1) * sz + j - sz = k * sz + j by rw [Nat.add_mul]; omega]
      exact flatten_at (fun y hy => h y (by simp [hy])) k j e hk hj
section
variable {w : World} {ok ok' : Nat → Prop}
theorem rels_at' {rs : List RV} {us : List Value} (h : RV.rels w ok rs us) (j : Nat) (r : RV) (hj : rs[j]? = some r) : ∃ u, us[j]? = some u ∧ RV.rel w ok r u := RV.rels_at rs us h j r hj
mutual
theorem seals_rel (h1 : ∀ b, ok b → ok' b) : ∀ (rr : RR) (r : RV) (u : Value) (bs : List Nat), Seals rr r → rr.rel w ok u bs → (∀ b ∈ bs, ok' b) → RV.rel w ok' r u
  | .ro r0, r, u, bs, hs, hr, hb => by
    simp only [Seals] at hs; subst hs
    simp only [RR.rel] at hr
    exact RV.rel_mono ⟨Nat.le_refl _, fun b _ ho => ⟨h1 b ho, rfl⟩⟩ _ _ hr.1
  | .row e sz cs, r, u, bs, hs, hr, hb => by
    simp only [Seals] at hs
    obtain ⟨els, rfl, hf, hl⟩ := hs
    simp only [RR.rel] at hr
    obtain ⟨n, xs, k1, k2, k3, k4, k5, rfl⟩ := hr
    have hn : n = els.length := by
      have := flatten_len hl
      rw [hf, k1] at this
      exact Nat.eq_of_mul_eq_mul_right k2 this
    simp only [RV.rel]
    rcases k5.2 with ⟨rfl, h0⟩ | ⟨g, cap, cur, rfl, _, hh, c1, c2, c3, ht⟩
    · exact ⟨none, 0, 0, rfl, by omega, Nat.le_refl _, Nat.zero_le _, fun h => absurd h (by omega)⟩
    · refine ⟨some ⟨g, 0, none⟩, n, cap, rfl, hn, c1, c2, fun hn0 => ⟨g, 0, rfl, (Array.getElem?_eq_some_iff.1 hh).1, hb g (by simp [Value.ownBlock]), ?_⟩⟩
      refine RV.relE_of _ _ _ fun k e hk => ⟨hl e (List.mem_of_getElem? hk), RV.relAt_of _ _ fun j r hj => ?_⟩
      have hjl : j < sz := by have := (List.getElem?_eq_some_iff.1 hj).1; rwa [hl e (List.mem_of_getElem? hk)] at this
      have hfl := flatten_at hl k j e hk hjl
      rw [hf, hj] at hfl
      obtain ⟨x, e1, e2⟩ := RV.rels_at cs xs k3 _ r hfl
      refine ⟨x, ?_, k4 x (List.mem_of_getElem? e1), RV.rel_mono ⟨Nat.le_refl _, fun b _ ho => ⟨h1 b ho, rfl⟩⟩ _ _ e2⟩
      rw [cell_of_row w g _ cur _ _ hh, Nat.zero_add]
      rw [← ht, List.getElem?_take] at e1
      split at e1
      · simpa using e1
      · cases e1
  | .agg rs, r, u, bs, hs, hr, hb => by
    simp only [Seals] at hs
    obtain ⟨rs', rfl, hs⟩ := hs
    simp only [RR.rel] at hr
    obtain ⟨us, rfl, hr⟩ := hr
    simp only [RV.rel]
    exact ⟨us, rfl, sealsL_rel h1 rs rs' _ bs hs hr hb⟩
  | .tup rs, r, u, bs, hs, hr, hb => by
    simp only [Seals] at hs
    obtain ⟨rs', rfl, hs⟩ := hs
    simp only [RR.rel] at hr
    obtain ⟨us, rfl, hr⟩ := hr
    simp only [RV.rel]
    exact ⟨us, rfl, sealsL_rel h1 rs rs' _ bs hs hr hb⟩
theorem sealsL_rel (h1 : ∀ b, ok b → ok' b) : ∀ (rs : List RR) (rs' : List RV) (us : List Value) (bs : List Nat), SealsL rs rs' → RR.rels w ok rs us bs → (∀ b ∈ bs, ok' b) → RV.rels w ok' rs' us
  | [], rs', us, bs, hs, hr, hb => by
    simp only [SealsL] at hs; subst hs
    simp only [RR.rels] at hr
    simp [RV.rels, hr]
  | x :: xs, rs', us, bs, hs, hr, hb => by
    simp only [SealsL] at hs
    obtain ⟨r, rs'', rfl, hs1, hs2⟩ := hs
    simp only [RR.rels] at hr
    obtain ⟨u, us', b, bs', rfl, rfl, k1, k2⟩ := hr
    simp only [RV.rels]
    exact ⟨u, us', rfl, seals_rel h1 x r u b hs1 k1 (fun c hc => hb c (List.mem_append.2 (.inl hc))), sealsL_rel h1 xs rs'' us' bs' hs2 k2 (fun c hc => hb c (List.mem_append.2 (.inr hc)))⟩
end
end
/-- A row of one-cell elements. -/
theorem seals_row1 (e : TypeId) (cs : List RV) : Seals (.row e 1 cs) (.seq 1 (cs.map fun c => [c])) := by
  simp only [Seals]
  refine ⟨_, rfl, ?_, by simp⟩
  induction cs with
  | nil => rfl
  | cons c cs ih => simp [ih]
theorem seals_rowN {α : Type} (e : TypeId) (sz : Nat) (l : List α) (f : α → List RV) (h : ∀ x ∈ l, (f x).length = sz) : Seals (.row e sz (l.map f).flatten) (.seq sz (l.map f)) := by
  simp only [Seals]
  exact ⟨_, rfl, rfl, by simpa using h⟩

/-! ### A result taken as rows of the frame's own. -/
mutual
def obs : RR → List Ob
  | .ro _ => []
  | .row e sz cs => [⟨e, sz, cs.map .ro⟩]
  | .agg rs => obsL rs
  | .tup rs => obsL rs
def obsL : List RR → List Ob
  | [] => []
  | x :: xs => obs x ++ obsL xs
end
mutual
def instA (N : Nat) : RR → AV
  | .ro r => .ro r
  | .row _ _ _ => .own N
  | .agg rs => .agg (instL N rs)
  | .tup rs => .tup (instL N rs)
def instL (N : Nat) : List RR → List AV
  | [] => []
  | x :: xs => instA N x :: instL (N + (obs x).length) xs
end
section
variable {w : World} {ok : Nat → Prop}
/-- What such a result needs of the memory. -/
def Lies (m : Mem) (N : Nat) (ps : List (Option Nat)) (os : List Ob) : Prop := (∀ (j : Nat) p, ps[j]? = some p → m.φ (N + j) = p) ∧ (∀ (j : Nat) o, os[j]? = some o → m.σ[N + j]? = some o)
theorem Lies.left {m : Mem} {N : Nat} {ps qs : List (Option Nat)} {os os' : List Ob} (h : Lies m N (ps ++ qs) (os ++ os')) : Lies m N ps os :=
  ⟨fun j p hj => h.1 j p (by rw [List.getElem?_append_left (List.getElem?_eq_some_iff.1 hj).1]; exact hj), fun j o hj => h.2 j o (by rw [List.getElem?_append_left (List.getElem?_eq_some_iff.1 hj).1]; exact hj)⟩
theorem Lies.right {m : Mem} {N : Nat} {ps qs : List (Option Nat)} {os os' : List Ob} (hl : ps.length = os.length) (h : Lies m N (ps ++ qs) (os ++ os')) : Lies m (N + os.length) qs os' :=
  ⟨fun j p hj => by
    have := h.1 (ps.length + j) p (by rw [List.getElem?_append_right (by omega)]; simpa using hj)
    rwa [show N + (ps.length + j) = N + os.length + j by omega] at this,
   fun j o hj => by
    have := h.2 (os.length + j) o (by rw [List.getElem?_append_right (by omega)]; simpa using hj)
    rwa [show N + (os.length + j) = N + os.length + j by omega] at this⟩
mutual
theorem inst_rel : ∀ (rr : RR) (u : Value) (bs : List Nat), rr.rel w ok u bs → ∃ ps : List (Option Nat), ps.length = (obs rr).length ∧ bs = ps.flatMap Option.toList ∧
    ∀ (m : Mem) (N : Nat), m.w = w → (∀ b, ok b → m.ok b) → Lies m N ps (obs rr) → AV.rel m (instA N rr) u ∧ ∀ (j : Nat) o, (obs rr)[j]? = some o → ObRel m o (m.φ (N + j))
  | .ro r, u, bs, h => by
    simp only [RR.rel] at h
    refine ⟨[], rfl, by simp [h.2], fun m N hw hok _ => ⟨?_, fun j o hj => by simp [obs] at hj⟩⟩
    subst hw
    simp only [instA, AV.rel]
    exact RV.rel_mono ⟨Nat.le_refl _, fun b _ ho => ⟨hok b ho, rfl⟩⟩ _ _ h.1
  | .row e sz cs, u, bs, h => by
    simp only [RR.rel] at h
    obtain ⟨n, xs, k1, k2, k3, k4, k5, rfl⟩ := h
    refine ⟨[u.ownBlock], rfl, by simp, fun m N hw hok hL => ?_⟩
    subst hw
    have hφ : m.φ N = u.ownBlock := hL.1 0 _ rfl
    have hσ : m.σ[N]? = some ⟨e, sz, cs.map .ro⟩ := hL.2 0 _ rfl
    have hro := fun r x hx => RV.rel_mono (w := m.w) (w' := m.w) (ok := ok) (ok' := m.ok) ⟨Nat.le_refl _, fun b _ ho => ⟨hok b ho, rfl⟩⟩ r x hx
    constructor
    · simp only [instA, AV.rel]
      refine ⟨_, n, hσ, by simpa using k1, k2, ?_⟩
      rcases k5.2 with ⟨rfl, rfl⟩ | ⟨g, cap, cur, rfl, _, hh, c1, c2, c3, ht⟩
      · exact .inl ⟨rfl, rfl, by simpa [Value.ownBlock] using hφ⟩
      · exact .inr ⟨g, cap, cur, by simpa [Value.ownBlock] using hφ, rfl, hh, c1, c2, c3⟩
    · intro j o hj
      cases j with
      | succ j => simp [obs] at hj
      | zero =>
        simp [obs] at hj; subst hj
        rw [Nat.add_zero, hφ]
        rcases k5.2 with ⟨rfl, rfl⟩ | ⟨g, cap, cur, rfl, _, hh, c1, c2, c3, ht⟩
        · simp only [Value.ownBlock, ObRel]
          have : cs = [] := List.eq_nil_of_length_eq_zero (by omega)
          simp [this]
        · simp only [Value.ownBlock, ObRel]
          refine ⟨cur, hh, by rw [List.length_map, k1, c3]; exact Nat.mul_le_mul_right _ c1, fun x v hv => ?_⟩
          rw [List.getElem?_map, Option.map_eq_some_iff] at hv
          obtain ⟨r, hr, rfl⟩ := hv
          obtain ⟨y, e1, e2⟩ := RV.rels_at cs xs k3 x r hr
          refine ⟨y, ?_, k4 y (List.mem_of_getElem? e1), by simp only [AV.rel]; exact hro r y e2⟩
          rw [← ht, List.getElem?_take] at e1
          split at e1
          · simpa using e1
          · cases e1
  | .agg rs, u, bs, h => by
    simp only [RR.rel] at h
    obtain ⟨us, rfl, h⟩ := h
    obtain ⟨ps, h1, h2, h3⟩ := instL_rel rs _ bs h
    refine ⟨ps, h1, h2, fun m N hw hok hL => ?_⟩
    obtain ⟨k1, k2⟩ := h3 m N hw hok hL
    exact ⟨by simp only [instA, AV.rel]; exact ⟨us, rfl, k1⟩, k2⟩
  | .tup rs, u, bs, h => by
    simp only [RR.rel] at h
    obtain ⟨us, rfl, h⟩ := h
    obtain ⟨ps, h1, h2, h3⟩ := instL_rel rs _ bs h
    refine ⟨ps, h1, h2, fun m N hw hok hL => ?_⟩
    obtain ⟨k1, k2⟩ := h3 m N hw hok hL
    exact ⟨by simp only [instA, AV.rel]; exact ⟨us, rfl, k1⟩, k2⟩
theorem instL_rel : ∀ (rs : List RR) (us : List Value) (bs : List Nat), RR.rels w ok rs us bs → ∃ ps : List (Option Nat), ps.length = (obsL rs).length ∧ bs = ps.flatMap Option.toList ∧
    ∀ (m : Mem) (N : Nat), m.w = w → (∀ b, ok b → m.ok b) → Lies m N ps (obsL rs) → AV.rels m (instL N rs) us ∧ ∀ (j : Nat) o, (obsL rs)[j]? = some o → ObRel m o (m.φ (N + j))
  | [], us, bs, h => by
    simp only [RR.rels] at h
    obtain ⟨rfl, rfl⟩ := h
    exact ⟨[], rfl, rfl, fun m N _ _ _ => ⟨by simp [instL, AV.rels], fun j o hj => by simp [obsL] at hj⟩⟩
  | x :: xs, us, bs, h => by
    simp only [RR.rels] at h
    obtain ⟨u, us', b, bs', rfl, rfl, k1, k2⟩ := h
    obtain ⟨ps, a1, a2, a3⟩ := inst_rel x u b k1
    obtain ⟨qs, b1, b2, b3⟩ := instL_rel xs us' bs' k2
    refine ⟨ps ++ qs, by simp [obsL, a1, b1], by simp [a2, b2], fun m N hw hok hL => ?_⟩
    simp only [obsL] at hL ⊢
    obtain ⟨c1, c2⟩ := a3 m N hw hok hL.left
    obtain ⟨d1, d2⟩ := b3 m (N + (obs x).length) hw hok (hL.right a1)
    refine ⟨?_, fun j o hj => ?_⟩
    · simp only [instL, AV.rels]
      exact ⟨u, us', rfl, c1, d1⟩
    · rcases Nat.lt_or_ge j (obs x).length with hlt | hge
      · rw [List.getElem?_append_left hlt] at hj
        exact c2 j o hj
      · rw [List.getElem?_append_right hge] at hj
        have := d2 _ o hj
        rwa [show N + (obs x).length + (j - (obs x).length) = N + j by omega] at this
end
end
theorem flat_nodup_inj {ps : List (Option Nat)} (h : (ps.flatMap Option.toList).Nodup) : ∀ (i j : Nat) g, ps[i]? = some (some g) → ps[j]? = some (some g) → i = j := by
  induction ps with
  | nil => intro i j g hi; simp at hi
  | cons p ps ih =>
    intro i j g hi hj
    rw [List.flatMap_cons, List.nodup_append] at h
    have mem : ∀ (k : Nat), ps[k]? = some (some g) → g ∈ ps.flatMap Option.toList := fun k hk => List.mem_flatMap.2 ⟨some g, List.mem_of_getElem? hk, by simp⟩
    cases i with
    | zero =>
      cases j with
      | zero => rfl
      | succ j =>
        simp at hi hj; subst hi
        exact absurd rfl (h.2.2 g (by simp) g (mem j hj))
    | succ i =>
      cases j with
      | zero =>
        simp at hi hj; subst hj
        exact absurd rfl (h.2.2 g (by simp) g (mem i hi))
      | succ j =>
        simp at hi hj
        rw [ih h.2.1 i j g hi hj]
section
variable {P : Program} {C : Ctx} {ops : Array Oper} {rest : List Oper} {k : List Item} {R : Act → World → Prop} {env : Env} {σ : List Ob} {t : Nat} {ty : TypeId} {pos : String} {after : Array Edge} {gd : Option (Nat × Bool)}
theorem ok_args {m : Mem} (hG : Good C m) : ∀ b, m.w.heap.size ≤ b → m.ok b := fun b hb => ⟨by rw [hG.ok0]; exact hG.frm.new b (Nat.le_trans hG.frm.size hb), fun i hi e => by have := hG.lt hi e; omega⟩
/-- A call whose result, memory of its own, is taken as data. -/
theorem pu_callS {f : FuncId} {fn : Func} {xs : Array Operand} {ats : Array TypeId} {args : List RV} {r : RV} {Rr : RR → Prop} [hfn : FN P f fn] (hf : AC P f args Rr) (hs : ∀ rr, Rr rr → Seals rr r) (ha : FitsL (xs.toList.map (ev env)) args) :
    Pur P C ⟨some t, .call { callee := .value (.func f), args := xs, argTypes := ats }, ty, pos, after, gd⟩ env σ (.ro r) := by
  refine ⟨fun a m hG hσ hH K Q hK => ?_⟩
  have hr := FitsL.rels ha _ (rels_eval (a := a) (m := m) xs.toList fun x hx => hH x (by simp [Op.operands, Call.operands]; exact .inr (by simpa using hx)))
  unfold Oper.wp
  rw [execOp_call_go, run_call hfn]
  simp only [Oper.upon]
  refine (hf m.w m.ok _ (ok_args hG) (by simpa using hr)).mono ?_
  rintro e w' ⟨u, rr, bs, rfl, hR, h1, _, h3, h4⟩
  refine hK u w' h4 ?_
  simp only [AV.rel]
  exact seals_rel (ok' := m.ok) (fun b hb => hb.1) rr r u bs (hs rr hR) h1 fun b hb => ok_args hG b (h3 b hb).1
theorem pu_callSR {f : FuncId} {fn : Func} {xs : Array Operand} {ats : Array TypeId} {args : List RV} {r : RV} {Rr : RR → Prop} [hfn : FN P f fn] (hf : AC P f args Rr) (hs : ∀ rr, Rr rr → Seals rr r) (ha : xs.toList.map (ev env) = args.map .ro) :
    Pur P C ⟨some t, .call { callee := .value (.func f), args := xs, argTypes := ats }, ty, pos, after, gd⟩ env σ (.ro r) := pu_callS hf hs (ha ▸ FitsL.ros args)
/-- A call whose result's rows become the frame's own. -/
theorem op_callO {f : FuncId} {fn : Func} {xs : Array Operand} {ats : Array TypeId} {args : List RV} {rr : RR} [hfn : FN P f fn] (hf : AC P f args fun r => r = rr) (ha : FitsL (xs.toList.map (ev env)) args) (ht : t < C.n)
    (hk : RunsL P C ops rest k R ⟨(t, instA σ.length rr) :: env, σ ++ obs rr⟩) :
    RunsL P C ops (⟨some t, .call { callee := .value (.func f), args := xs, argTypes := ats }, ty, pos, after, none⟩ :: rest) k R ⟨env, σ⟩ := by
  refine ⟨fun a w ⟨s1, s2, φ, hG, hH⟩ => ?_⟩
  refine wpList_plain rfl fun K hK' => ?_
  have hr := FitsL.rels ha _ (rels_eval (a := a) (m := ⟨w, φ, σ, C.ok⟩) xs.toList fun x hx => ev_rel hH x)
  unfold Oper.wp
  rw [execOp_call_go, run_call hfn]
  simp only [Oper.upon]
  refine (hf w _ _ (ok_args hG) (by simpa using hr)).mono ?_
  rintro e w' ⟨u, rr', bs, rfl, rfl, h1, h2, h3, h4⟩
  obtain ⟨ps, p1, p2, p3⟩ := inst_rel rr' u bs h1
  subst p2
  let φ' : Nat → Option Nat := fun i => if i < σ.length then φ i else (ps[i - σ.length]?).getD none
  have e1 : ∀ i, i < σ.length → φ' i = φ i := fun i hi => if_pos hi
  have e2 : ∀ j, φ' (σ.length + j) = (ps[j]?).getD none := fun j => by show (if σ.length + j < σ.length then _ else _) = _; rw [if_neg (by omega)]; simp
  have e3 : ∀ (j g : Nat), φ' (σ.length + j) = some g → ps[j]? = some (some g) := fun j g hg => by
    rw [e2] at hg
    cases hp : ps[j]? with
    | none => simp [hp] at hg
    | some p => simp [hp] at hg; rw [hg]
  have hnew : ∀ (j g : Nat), φ' (σ.length + j) = some g → g ∈ ps.flatMap Option.toList := fun j g hg => List.mem_flatMap.2 ⟨some g, List.mem_of_getElem? (e3 j g hg), by simp⟩
  have hLie : ∀ os, Lies ⟨w', φ', σ ++ os, C.ok⟩ σ.length ps os := fun os => ⟨fun j p hj => by show φ' (σ.length + j) = p; rw [e2, hj]; rfl, fun j o hj => by show (σ ++ os)[σ.length + j]? = _; rw [List.getElem?_append_right (by omega)]; simpa using hj⟩
  have hok : ∀ b, (AV.Mem.ok ⟨w, φ, σ, C.ok⟩ b ∧ b ∉ ps.flatMap Option.toList) → AV.Mem.ok ⟨w', φ', σ ++ obs rr', C.ok⟩ b := fun b hb => ⟨hb.1.1, fun i hi he => by
    simp only at he
    rcases Nat.lt_or_ge i σ.length with hlt | hge
    · exact hb.1.2 i hlt ((e1 i hlt).symm.trans he)
    · exact hb.2 (hnew (i - σ.length) b (by rwa [show σ.length + (i - σ.length) = i by omega]))⟩
  obtain ⟨q1, q2⟩ := p3 ⟨w', φ', σ ++ obs rr', C.ok⟩ σ.length rfl hok (hLie _)
  obtain ⟨g1, g2⟩ := good_grow (φ' := φ') (new := obs rr') hG h4 e1 (fun j hj g hg => (h3 g (hnew j g hg)).1) (fun i j g hi hj ei ej => flat_nodup_inj h2 i j g (e3 i g ei) (e3 j g ej)) q2
  exact hK' _ _ (hk.run _ _ ⟨s1, by simp [Act.put, s2], φ', g1, (hH.keeps g2).put (by rw [s2]; exact ht) q1⟩)
/-! ### What the frame owns, lent to a call. -/
/-- A value of the frame serves as this data while a call reads. -/
def Lends (C : Ctx) (σ : List Ob) (v : AV) (r : RV) : Prop := ∀ (m : Mem) (u : Value) (ok' : Nat → Prop), Good C m → m.σ = σ → (∀ b, m.ok b → ok' b) → (∀ (i g : Nat), i < σ.length → m.φ i = some g → ok' g) → AV.rel m v u → RV.rel m.w ok' r u
inductive LendsL (C : Ctx) (σ : List Ob) : List AV → List RV → Prop
  | nil : LendsL C σ [] []
  | cons {v : AV} {r : RV} {vs : List AV} {rs : List RV} : Lends C σ v r → LendsL C σ vs rs → LendsL C σ (v :: vs) (r :: rs)
theorem Lends.fits {v : AV} {r : RV} (h : Fits v r) : Lends C σ v r := fun m u _ _ _ h1 _ hu => RV.rel_mono ⟨Nat.le_refl _, fun b _ hb => ⟨h1 b hb, rfl⟩⟩ r u (h m u hu)
theorem Lends.ro {r : RV} : Lends C σ (.ro r) r := Lends.fits (Fits.ro r)
theorem Lends.nil (sz : Nat) : Lends C σ (.ro .nil) (.seq sz []) := Lends.fits (Fits.nil sz)
theorem LendsL.rels {m : Mem} {ok' : Nat → Prop} (hG : Good C m) (hσ : m.σ = σ) (k1 : ∀ b, m.ok b → ok' b) (k2 : ∀ (i g : Nat), i < σ.length → m.φ i = some g → ok' g) {vs : List AV} {rs : List RV} (h : LendsL C σ vs rs) : ∀ us, AV.rels m vs us → RV.rels m.w ok' rs us := by
  induction h with
  | nil => intro us hu; simpa [AV.rels, RV.rels] using hu
  | cons h1 _ ih =>
    intro us hu
    simp only [AV.rels] at hu
    obtain ⟨u, us', rfl, k3, k4⟩ := hu
    simp only [RV.rels]
    exact ⟨u, us', rfl, h1 m u ok' hG hσ k1 k2 k3, ih us' k4⟩
theorem Lends.agg {vs : List AV} {rs : List RV} (h : LendsL C σ vs rs) : Lends C σ (.agg vs) (.agg rs) := fun m u ok' hG hσ k1 k2 hu => by
  simp only [AV.rel, RV.rel] at hu ⊢
  obtain ⟨us, e, hr⟩ := hu
  exact ⟨us, e, h.rels hG hσ k1 k2 _ hr⟩
theorem Lends.tup {vs : List AV} {rs : List RV} (h : LendsL C σ vs rs) : Lends C σ (.tup vs) (.tup rs) := fun m u ok' hG hσ k1 k2 hu => by
  simp only [AV.rel, RV.rel] at hu ⊢
  obtain ⟨us, e, hr⟩ := hu
  exact ⟨us, e, h.rels hG hσ k1 k2 _ hr⟩
theorem LendsL.ros : ∀ rs : List RV, LendsL C σ (rs.map .ro) rs
  | [] => .nil
  | _ :: rs => .cons .ro (LendsL.ros rs)
/-- A pointer at an object, whose cells from there on serve as data. -/
theorem Lends.obj {i off : Nat} {o : Ob} {rs : List RV} (ho : σ[i]? = some o) (h : LendsL C σ (o.cs.drop off) rs) : Lends C σ (.obj i off) (.rp rs) := fun m u ok' hG hσ k1 k2 hu => by
  simp only [AV.rel] at hu
  obtain ⟨hi, g, hg, rfl⟩ := hu
  have hob := hG.ob i o (by rw [hσ]; exact ho)
  rw [hg] at hob
  obtain ⟨us, q1, q2, q3⟩ := hob
  simp only [RV.rel]
  refine ⟨g, off, rfl, hG.lt hi hg, k2 i g (by rw [← hσ]; exact hi) hg, ?_⟩
  have key : ∀ {vs : List AV} {rs : List RV}, LendsL C σ vs rs → ∀ (k : Nat), (∀ (j : Nat) v, vs[j]? = some v → o.cs[k + j]? = some v) → RV.relAt m.w ok' g k rs := by
    intro vs rs h
    induction h with
    | nil => intro k _; simp [RV.relAt]
    | cons h1 _ ih =>
      intro k hk
      simp only [RV.relAt]
      obtain ⟨x, e1, e2, e3⟩ := q3 k _ (hk 0 _ rfl)
      refine ⟨⟨x, by rw [cell_of_row _ g k us _ _ q1]; exact e1, e2, h1 m x ok' hG hσ k1 k2 e3⟩, ih (k + 1) fun j v hj => ?_⟩
      have := hk (j + 1) v (by simpa using hj)
      rwa [show k + (j + 1) = k + 1 + j by omega] at this
  exact key h off fun j v hj => by rwa [List.getElem?_drop] at hj
/-- A row of the frame's own. -/
theorem Lends.own {i : Nat} {o : Ob} {els : List (List RV)} (ho : σ[i]? = some o) (h : o.cs = els.flatten.map .ro) (hl : ∀ x ∈ els, x.length = o.sz) : Lends C σ (.own i) (.seq o.sz els) := fun m u ok' hG hσ k1 k2 hu => by
  have hrow := row_own (cs := els.flatten) (e := o.t) (sz := o.sz) hG (by rw [hσ, ho]; cases o; simp_all) hu
  obtain ⟨n, xs, h1, h2, h3, h4, h5, h6⟩ := hrow
  refine seals_rel (ok := m.ok) k1 (.row o.t o.sz els.flatten) (.seq o.sz els) u u.ownBlock.toList (by simp only [Seals]; exact ⟨els, rfl, rfl, hl⟩) (by simp only [RR.rel]; exact ⟨n, xs, h1, h2, h3, h4, h5, trivial⟩) fun b hb => ?_
  rw [h6] at hb
  exact k2 i b (List.getElem?_eq_some_iff.1 ho).1 (by simpa [Option.mem_toList] using hb)
/-- Data that speaks of no memory. -/
def flat : RV → Bool
  | .c _ => true
  | _ => false
/-- A call that reads what the frame owns, and returns a plain value. -/
theorem pu_callL {f : FuncId} {fn : Func} {xs : Array Operand} {ats : Array TypeId} {args : List RV} {v : Value} [hfn : FN P f fn] (hf : ACv P f args (.c v)) (ha : LendsL C σ (xs.toList.map (ev env)) args) :
    Pur P C ⟨some t, .call { callee := .value (.func f), args := xs, argTypes := ats }, ty, pos, after, gd⟩ env σ (.ro (.c v)) := by
  refine ⟨fun a m hG hσ hH K Q hK => ?_⟩
  have hr := LendsL.rels (ok' := fun _ => True) hG hσ (fun _ _ => trivial) (fun _ _ _ _ => trivial) ha _ (rels_eval (a := a) (m := m) xs.toList fun x hx => hH x (by simp [Op.operands, Call.operands]; exact .inr (by simpa using hx)))
  unfold Oper.wp
  rw [execOp_call_go, run_call hfn]
  simp only [Oper.upon]
  refine (hf m.w (fun _ => True) _ (fun _ _ => trivial) (by simpa using hr)).mono ?_
  rintro e w' ⟨u, rr, bs, rfl, rfl, h1, _, _, h4⟩
  simp only [RR.rel, RV.rel] at h1
  refine hK u w' h4 ?_
  simp only [AV.rel, RV.rel]
  exact h1.1
/-- A function value, called. -/
theorem pu_callF {f : FuncId} {fn : Func} {x : Operand} {xs : Array Operand} {ats : Array TypeId} {args : List RV} {v : Value} {first cap : List AV} [hfn : FN P f fn] (hx : ev env x = .fn (.func f) first cap) (hf : ACv P f args (.c v)) (ha : LendsL C σ (first ++ xs.toList.map (ev env) ++ cap) args) :
    Pur P C ⟨some t, .call { callee := .value x, args := xs, argTypes := ats }, ty, pos, after, gd⟩ env σ (.ro (.c v)) := by
  refine ⟨fun a m hG hσ hH K Q hK => ?_⟩
  have h0 := hH x (by simp [Op.operands, Call.operands])
  rw [hx] at h0
  simp only [AV.rel] at h0
  obtain ⟨us, vs, e, hu, hv⟩ := h0
  have hm := rels_eval (a := a) (m := m) xs.toList fun x hx => hH x (by simp [Op.operands, Call.operands]; exact .inr (by simpa using hx))
  have app : ∀ {xs ys : List AV} {us vs : List Value}, AV.rels m xs us → AV.rels m ys vs → AV.rels m (xs ++ ys) (us ++ vs) := by
    intro xs
    induction xs with
    | nil => intro ys us vs h1 h2; simp only [AV.rels] at h1; subst h1; simpa using h2
    | cons x xs ih =>
      intro ys us vs h1 h2
      simp only [AV.rels] at h1
      obtain ⟨u, us', rfl, k1, k2⟩ := h1
      simp only [List.cons_append, AV.rels]
      exact ⟨u, us' ++ vs, rfl, k1, ih k2 h2⟩
  have hr := LendsL.rels (ok' := fun _ => True) hG hσ (fun _ _ => trivial) (fun _ _ _ _ => trivial) ha _ (app (app hu hm) hv)
  unfold Oper.wp execOp
  simp only [resolve, e, Deferred.ofValue, Sem.run_bind, Sem.run_pure, Result.andThen_ok, invoke]
  rw [run_call hfn]
  simp only [Oper.upon]
  refine (hf m.w (fun _ => True) _ (fun _ _ => trivial) (by simpa using hr)).mono ?_
  rintro e w' ⟨u, rr, bs, rfl, rfl, h1, _, _, h4⟩
  simp only [RR.rel, RV.rel] at h1
  refine hK u w' h4 ?_
  simp only [AV.rel, RV.rel]
  exact h1.1
theorem pu_makeFunc {f : Fn} {first cap : Array Operand} : Pur P C ⟨some t, .makeFunc f first cap, ty, pos, after, gd⟩ env σ (.fn f (first.toList.map (ev env)) (cap.toList.map (ev env))) :=
  Pur.of fun a m hG hσ hH => by
    refine ⟨.func f (first.map a.eval) (cap.map a.eval), by simp [execOp, Instr.makeFunc], ?_⟩
    simp only [AV.rel]
    exact ⟨_, _, rfl, by simpa using rels_eval (a := a) (m := m) first.toList fun x hx => hH x (by simp [Op.operands]; exact .inl (by simpa using hx)), by simpa using rels_eval (a := a) (m := m) cap.toList fun x hx => hH x (by simp [Op.operands]; exact .inr (by simpa using hx))⟩
end
end Go.Proofs.YtnbjncafoahclaaDoor
