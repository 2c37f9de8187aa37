/- Gathered texts. -/
import Derived.Test.YtdikinkihnepaaaGat0
import Derived.ProofKit
import Derived.OpenShut
import Derived.Deep.Slices
import Derived.ChangeArms
import Derived.DataReads
import Derived.Great.BuildSlice
import Derived.Laws.Slices
import Derived.Laws.RangeString
/- Calls that make memory: their results as data, or as rows of the frame's own; calls that are lent what the frame owns. Over any program. -/
namespace Go.Proofs.Ytdikinkihnepaaa
set_option linter.unusedSimpArgs false
set_option linter.unusedVariables false
open Go.RowKit
open AV (Mem Keeps)
mutual
def Seals : RR → RV → Prop
  | .ro r, r' => r' = r
  | .row _ sz cs, r' => ∃ els, r' = .seq sz els ∧ els.flatten = cs ∧ ∀ x ∈ els, x.length = sz
  | .agg rs, r' => ∃ rs', r' = .agg rs' ∧ SealsL rs rs'
  | .tup rs, r' => ∃ rs', r' = .tup rs' ∧ SealsL rs rs'
def SealsL : List RR → List RV → Prop
  | [], rs' => rs' = []
  | x :: xs, rs' => ∃ r rs'', rs' = r :: rs'' ∧ Seals x r ∧ SealsL xs rs''
end
theorem flatten_len {α : Type} {sz : Nat} : ∀ {els : List (List α)}, (∀ x ∈ els, x.length = sz) → els.flatten.length = els.length * sz
  | [], _ => by simp
  | x :: xs, h => by
    rw [List.flatten_cons, List.length_append, flatten_len (fun y hy => h y (by simp [hy])), h x (by simp), List.length_cons, Nat.add_mul]; omega
theorem flatten_at {α : Type} {sz : Nat} : ∀ {els : List (List α)}, (∀ x ∈ els, x.length = sz) → ∀ (k j : Nat) e, els[k]? = some e → j < sz → els.flatten[k * sz + j]? = e[j]?
  | [], _, k, j, e, hk, _ => by simp at hk
  | x :: xs, h, k, j, e, hk, hj => by
    rw [List.flatten_cons]
    have hx := h x (by simp)
    cases k with
    | zero => simp at hk; subst hk; rw [List.getElem?_append_left (by omega)]; simp
    | succ k =>
      simp at hk
      rw [List.getElem?_append_right (by rw [hx, Nat.add_mul]; omega), hx, show (k + 1) * sz + j - sz = k * sz + j by rw [Nat.add_mul]; omega]
      exact flatten_at (fun y hy => h y (by simp [hy])) k j e hk hj
section
variable {w : World} {ok ok' : Nat → Prop}
theorem rels_at' {rs : List RV} {us : List Value} (h : RV.rels w ok rs us) (j : Nat) (r : RV) (hj : rs[j]? = some r) : ∃ u, us[j]? = some u ∧ RV.rel w ok r u := RV.rels_at rs us h j r hj
mutual
theorem seals_rel (h1 : ∀ b, ok b → ok' b) : ∀ (rr : RR) (r : RV) (u : Value) (bs : List Nat), Seals rr r → rr.rel w ok u bs → (∀ b ∈ bs, ok' b) → RV.rel w ok' r u
  | .ro r0, r, u, bs, hs, hr, hb => by
    simp only [Seals] at hs; subst hs
    simp only [RR.rel] at hr
    exact RV.rel_mono ⟨Nat.le_refl _, fun b _ ho => ⟨h1 b ho, rfl⟩⟩ _ _ hr.1
  | .row e sz cs, r, u, bs, hs, hr, hb => by
    simp only [Seals] at hs
    obtain ⟨els, rfl, hf, hl⟩ := hs
    simp only [RR.rel] at hr
    obtain ⟨n, xs, k1, k2, k3, k4, k5, rfl⟩ := hr
    have hn : n = els.length := by
      have := flatten_len hl
      rw [hf, k1] at this
      exact Nat.eq_of_mul_eq_mul_right k2 this
    simp only [RV.rel]
    rcases k5.2 with ⟨rfl, h0⟩ | ⟨g, cap, cur, rfl, _, hh, c1, c2, c3, ht⟩
    · exact ⟨none, 0, 0, rfl, by omega, Nat.le_refl _, Nat.zero_le _, fun h => absurd h (by omega)⟩
    · refine ⟨some ⟨g, 0, none⟩, n, cap, rfl, hn, c1, c2, fun hn0 => ⟨g, 0, rfl, (Array.getElem?_eq_some_iff.1 hh).1, hb g (by simp [Value.ownBlock]), ?_⟩⟩
      refine RV.relE_of _ _ _ fun k e hk => ⟨hl e (List.mem_of_getElem? hk), RV.relAt_of _ _ fun j r hj => ?_⟩
      have hjl : j < sz := by have := (List.getElem?_eq_some_iff.1 hj).1; rwa [hl e (List.mem_of_getElem? hk)] at this
      have hfl := flatten_at hl k j e hk hjl
      rw [hf, hj] at hfl
      obtain ⟨x, e1, e2⟩ := RV.rels_at cs xs k3 _ r hfl
      refine ⟨x, ?_, k4 x (List.mem_of_getElem? e1), RV.rel_mono ⟨Nat.le_refl _, fun b _ ho => ⟨h1 b ho, rfl⟩⟩ _ _ e2⟩
      rw [cell_of_row w g _ cur _ _ hh, Nat.zero_add]
      rw [← ht, List.getElem?_take] at e1
      split at e1
      · simpa using e1
      · cases e1
  | .agg rs, r, u, bs, hs, hr, hb => by
    simp only [Seals] at hs
    obtain ⟨rs', rfl, hs⟩ := hs
    simp only [RR.rel] at hr
    obtain ⟨us, rfl, hr⟩ := hr
    simp only [RV.rel]
    exact ⟨us, rfl, sealsL_rel h1 rs rs' _ bs hs hr hb⟩
  | .tup rs, r, u, bs, hs, hr, hb => by
    simp only [Seals] at hs
    obtain ⟨rs', rfl, hs⟩ := hs
    simp only [RR.rel] at hr
    obtain ⟨us, rfl, hr⟩ := hr
    simp only [RV.rel]
    exact ⟨us, rfl, sealsL_rel h1 rs rs' _ bs hs hr hb⟩
theorem sealsL_rel (h1 : ∀ b, ok b → ok' b) : ∀ (rs : List RR) (rs' : List RV) (us : List Value) (bs : List Nat), SealsL rs rs' → RR.rels w ok rs us bs → (∀ b ∈ bs, ok' b) → RV.rels w ok' rs' us
  | [], rs', us, bs, hs, hr, hb => by
    simp only [SealsL] at hs; subst hs
    simp only [RR.rels] at hr
    simp [RV.rels, hr]
  | x :: xs, rs', us, bs, hs, hr, hb => by
    simp only [SealsL] at hs
    obtain ⟨r, rs'', rfl, hs1, hs2⟩ := hs
    simp only [RR.rels] at hr
    obtain ⟨u, us', b, bs', rfl, rfl, k1, k2⟩ := hr
    simp only [RV.rels]
    exact ⟨u, us', rfl, seals_rel h1 x r u b hs1 k1 (fun c hc => hb c (List.mem_append.2 (.inl hc))), sealsL_rel h1 xs rs'' us' bs' hs2 k2 (fun c hc => hb c (List.mem_append.2 (.inr hc)))⟩
end
end
theorem seals_row1 (e : TypeId) (cs : List RV) : Seals (.row e 1 cs) (.seq 1 (cs.map fun c => [c])) := by
  simp only [Seals]
  refine ⟨_, rfl, ?_, by simp⟩
  induction cs with
  | nil => rfl
  | cons c cs ih => simp [ih]
theorem seals_rowN {α : Type} (e : TypeId) (sz : Nat) (l : List α) (f : α → List RV) (h : ∀ x ∈ l, (f x).length = sz) : Seals (.row e sz (l.map f).flatten) (.seq sz (l.map f)) := by
  simp only [Seals]
  exact ⟨_, rfl, rfl, by simpa using h⟩
mutual
def obs : RR → List Ob
  | .ro _ => []
  | .row e sz cs => [⟨e, sz, cs.map .ro⟩]
  | .agg rs => obsL rs
  | .tup rs => obsL rs
def obsL : List RR → List Ob
  | [] => []
  | x :: xs => obs x ++ obsL xs
end
mutual
def instA (N : Nat) : RR → AV
  | .ro r => .ro r
  | .row _ _ _ => .own N
  | .agg rs => .agg (instL N rs)
  | .tup rs => .tup (instL N rs)
def instL (N : Nat) : List RR → List AV
  | [] => []
  | x :: xs => instA N x :: instL (N + (obs x).length) xs
end
section
variable {w : World} {ok : Nat → Prop}
def Lies (m : Mem) (N : Nat) (ps : List (Option Nat)) (os : List Ob) : Prop := (∀ (j : Nat) p, ps[j]? = some p → m.φ (N + j) = p) ∧ (∀ (j : Nat) o, os[j]? = some o → m.σ[N + j]? = some o)
theorem Lies.left {m : Mem} {N : Nat} {ps qs : List (Option Nat)} {os os' : List Ob} (h : Lies m N (ps ++ qs) (os ++ os')) : Lies m N ps os :=
  ⟨fun j p hj => h.1 j p (by rw [List.getElem?_append_left (List.getElem?_eq_some_iff.1 hj).1]; exact hj), fun j o hj => h.2 j o (by rw [List.getElem?_append_left (List.getElem?_eq_some_iff.1 hj).1]; exact hj)⟩
theorem Lies.right {m : Mem} {N : Nat} {ps qs : List (Option Nat)} {os os' : List Ob} (hl : ps.length = os.length) (h : Lies m N (ps ++ qs) (os ++ os')) : Lies m (N + os.length) qs os' :=
  ⟨fun j p hj => by
    have := h.1 (ps.length + j) p (by rw [List.getElem?_append_right (by omega)]; simpa using hj)
    rwa [show N + (ps.length + j) = N + os.length + j by omega] at this,
   fun j o hj => by
    have := h.2 (os.length + j) o (by rw [List.getElem?_append_right (by omega)]; simpa using hj)
    rwa [show N + (os.length + j) = N + os.length + j by omega] at this⟩
mutual
theorem inst_rel : ∀ (rr : RR) (u : Value) (bs : List Nat), rr.rel w ok u bs → ∃ ps : List (Option Nat), ps.length = (obs rr).length ∧ bs = ps.flatMap Option.toList ∧
    ∀ (m : Mem) (N : Nat), m.w = w → (∀ b, ok b → m.ok b) → Lies m N ps (obs rr) → AV.rel m (instA N rr) u ∧ ∀ (j : Nat) o, (obs rr)[j]? = some o → ObRel m o (m.φ (N + j))
  | .ro r, u, bs, h => by
    simp only [RR.rel] at h
    refine ⟨[], rfl, by simp [h.2], fun m N hw hok _ => ⟨?_, fun j o hj => by simp [obs] at hj⟩⟩
    subst hw
    simp only [instA, AV.rel]
    exact RV.rel_mono ⟨Nat.le_refl _, fun b _ ho => ⟨hok b ho, rfl⟩⟩ _ _ h.1
  | .row e sz cs, u, bs, h => by
    simp only [RR.rel] at h
    obtain ⟨n, xs, k1, k2, k3, k4, k5, rfl⟩ := h
    refine ⟨[u.ownBlock], rfl, by simp, fun m N hw hok hL => ?_⟩
    subst hw
    have hφ : m.φ N = u.ownBlock := hL.1 0 _ rfl
    have hσ : m.σ[N]? = some ⟨e, sz, cs.map .ro⟩ := hL.2 0 _ rfl
    have hro := fun r x hx => RV.rel_mono (w := m.w) (w' := m.w) (ok := ok) (ok' := m.ok) ⟨Nat.le_refl _, fun b _ ho => ⟨hok b ho, rfl⟩⟩ r x hx
    constructor
    · simp only [instA, AV.rel]
      refine ⟨_, n, hσ, by simpa using k1, k2, ?_⟩
      rcases k5.2 with ⟨rfl, rfl⟩ | ⟨g, cap, cur, rfl, _, hh, c1, c2, c3, ht⟩
      · exact .inl ⟨rfl, rfl, by simpa [Value.ownBlock] using hφ⟩
      · exact .inr ⟨g, cap, cur, by simpa [Value.ownBlock] using hφ, rfl, hh, c1, c2, c3⟩
    · intro j o hj
      cases j with
      | succ j => simp [obs] at hj
      | zero =>
        simp [obs] at hj; subst hj
        rw [Nat.add_zero, hφ]
        rcases k5.2 with ⟨rfl, rfl⟩ | ⟨g, cap, cur, rfl, _, hh, c1, c2, c3, ht⟩
        · simp only [Value.ownBlock, ObRel]
          have : cs = [] := List.eq_nil_of_length_eq_zero (by omega)
          simp [this]
        · simp only [Value.ownBlock, ObRel]
          refine ⟨cur, hh, by rw [List.length_map, k1, c3]; exact Nat.mul_le_mul_right _ c1, fun x v hv => ?_⟩
          rw [List.getElem?_map, Option.map_eq_some_iff] at hv
          obtain ⟨r, hr, rfl⟩ := hv
          obtain ⟨y, e1, e2⟩ := RV.rels_at cs xs k3 x r hr
          refine ⟨y, ?_, k4 y (List.mem_of_getElem? e1), by simp only [AV.rel]; exact hro r y e2⟩
          rw [← ht, List.getElem?_take] at e1
          split at e1
          · simpa using e1
          · cases e1
  | .agg rs, u, bs, h => by
    simp only [RR.rel] at h
    obtain ⟨us, rfl, h⟩ := h
    obtain ⟨ps, h1, h2, h3⟩ := instL_rel rs _ bs h
    refine ⟨ps, h1, h2, fun m N hw hok hL => ?_⟩
    obtain ⟨k1, k2⟩ := h3 m N hw hok hL
    exact ⟨by simp only [instA, AV.rel]; exact ⟨us, rfl, k1⟩, k2⟩
  | .tup rs, u, bs, h => by
    simp only [RR.rel] at h
    obtain ⟨us, rfl, h⟩ := h
    obtain ⟨ps, h1, h2, h3⟩ := instL_rel rs _ bs h
    refine ⟨ps, h1, h2, fun m N hw hok hL => ?_⟩
    obtain ⟨k1, k2⟩ := h3 m N hw hok hL
    exact ⟨by simp only [instA, AV.rel]; exact ⟨us, rfl, k1⟩, k2⟩
theorem instL_rel : ∀ (rs : List RR) (us : List Value) (bs : List Nat), RR.rels w ok rs us bs → ∃ ps : List (Option Nat), ps.length = (obsL rs).length ∧ bs = ps.flatMap Option.toList ∧
    ∀ (m : Mem) (N : Nat), m.w = w → (∀ b, ok b → m.ok b) → Lies m N ps (obsL rs) → AV.rels m (instL N rs) us ∧ ∀ (j : Nat) o, (obsL rs)[j]? = some o → ObRel m o (m.φ (N + j))
  | [], us, bs, h => by
    simp only [RR.rels] at h
    obtain ⟨rfl, rfl⟩ := h
    exact ⟨[], rfl, rfl, fun m N _ _ _ => ⟨by simp [instL, AV.rels], fun j o hj => by simp [obsL] at hj⟩⟩
  | x :: xs, us, bs, h => by
    simp only [RR.rels] at h
    obtain ⟨u, us', b, bs', rfl, rfl, k1, k2⟩ := h
    obtain ⟨ps, a1, a2, a3⟩ := inst_rel x u b k1
    obtain ⟨qs, b1, b2, b3⟩ := instL_rel xs us' bs' k2
    refine ⟨ps ++ qs, by simp [obsL, a1, b1], by simp [a2, b2], fun m N hw hok hL => ?_⟩
    simp only [obsL] at hL ⊢
    obtain ⟨c1, c2⟩ := a3 m N hw hok hL.left
    obtain ⟨d1, d2⟩ := b3 m (N + (obs x).length) hw hok (hL.right a1)
    refine ⟨?_, fun j o hj => ?_⟩
    · simp only [instL, AV.rels]
      exact ⟨u, us', rfl, c1, d1⟩
    · rcases Nat.lt_or_ge j (obs x).length with hlt | hge
      · rw [List.getElem?_append_left hlt] at hj
        exact c2 j o hj
      · rw [List.getElem?_append_right hge] at hj
        have := d2 _ o hj
        rwa [show N + (obs x).length + (j - (obs x).length) = N + j by omega] at this
end
end
theorem flat_nodup_inj {ps : List (Option Nat)} (h : (ps.flatMap Option.toList).Nodup) : ∀ (i j : Nat) g, ps[i]? = some (some g) → ps[j]? = some (some g) → i = j := by
  induction ps with
  | nil => intro i j g hi; simp at hi
  | cons p ps ih =>
    intro i j g hi hj
    rw [List.flatMap_cons, List.nodup_append] at h
    have mem : ∀ (k : Nat), ps[k]? = some (some g) → g ∈ ps.flatMap Option.toList := fun k hk => List.mem_flatMap.2 ⟨some g, List.mem_of_getElem? hk, by simp⟩
    cases i with
    | zero =>
      cases j with
      | zero => rfl
      | succ j =>
        simp at hi hj; subst hi
        exact absurd rfl (h.2.2 g (by simp) g (mem j hj))
    | succ i =>
      cases j with
      | zero =>
        simp at hi hj; subst hj
        exact absurd rfl (h.2.2 g (by simp) g (mem i hi))
      | succ j =>
        simp at hi hj
        rw [ih h.2.1 i j g hi hj]
section
variable {P : Program} {C : Ctx} {ops : Array Oper} {rest : List Oper} {k : List Item} {R : Act → World → Prop} {env : Env} {σ : List Ob} {t : Nat} {ty : TypeId} {pos : String} {after : Array Edge} {gd : Option (Nat × Bool)}
theorem ok_args {m : Mem} (hG : Good C m) : ∀ b, m.w.heap.size ≤ b → m.ok b := fun b hb => ⟨by rw [hG.ok0]; exact hG.frm.new b (Nat.le_trans hG.frm.size hb), fun i hi e => by have := hG.lt hi e; omega⟩
theorem pu_callS {f : FuncId} {fn : Func} {xs : Array Operand} {ats : Array TypeId} {args : List RV} {r : RV} {Rr : RR → Prop} [hfn : FN P f fn] (hf : AC P f args Rr) (hs : ∀ rr, Rr rr → Seals rr r) (ha : FitsL (xs.toList.map (ev env)) args) :
    Pur P C ⟨some t, .call { callee := .value (.func f), args := xs, argTypes := ats }, ty, pos, after, gd⟩ env σ (.ro r) := by
  refine ⟨fun a m hG hσ hH K Q hK => ?_⟩
  have hr := FitsL.rels ha _ (rels_eval (a := a) (m := m) xs.toList fun x hx => hH x (by simp [Op.operands, Call.operands]; exact .inr (by simpa using hx)))
  unfold Oper.wp
  rw [execOp_call_go, run_call hfn]
  simp only [Oper.upon]
  refine (hf m.w m.ok _ (ok_args hG) (by simpa using hr)).mono ?_
  rintro e w' ⟨u, rr, bs, rfl, hR, h1, _, h3, h4⟩
  refine hK u w' h4 ?_
  simp only [AV.rel]
  exact seals_rel (ok' := m.ok) (fun b hb => hb.1) rr r u bs (hs rr hR) h1 fun b hb => ok_args hG b (h3 b hb).1
theorem pu_callSR {f : FuncId} {fn : Func} {xs : Array Operand} {ats : Array TypeId} {args : List RV} {r : RV} {Rr : RR → Prop} [hfn : FN P f fn] (hf : AC P f args Rr) (hs : ∀ rr, Rr rr → Seals rr r) (ha : xs.toList.map (ev env) = args.map .ro) :
    Pur P C ⟨some t, .call { callee := .value (.func f), args := xs, argTypes := ats }, ty, pos, after, gd⟩ env σ (.ro r) := pu_callS hf hs (ha ▸ FitsL.ros args)
theorem op_callO {f : FuncId} {fn : Func} {xs : Array Operand} {ats : Array TypeId} {args : List RV} {rr : RR} [hfn : FN P f fn] (hf : AC P f args fun r => r = rr) (ha : FitsL (xs.toList.map (ev env)) args) (ht : t < C.n)
    (hk : RunsL P C ops rest k R ⟨(t, instA σ.length rr) :: env, σ ++ obs rr⟩) :
    RunsL P C ops (⟨some t, .call { callee := .value (.func f), args := xs, argTypes := ats }, ty, pos, after, none⟩ :: rest) k R ⟨env, σ⟩ := by
  refine ⟨fun a w ⟨s1, s2, φ, hG, hH⟩ => ?_⟩
  refine wpList_plain rfl fun K hK' => ?_
  have hr := FitsL.rels ha _ (rels_eval (a := a) (m := ⟨w, φ, σ, C.ok⟩) xs.toList fun x hx => ev_rel hH x)
  unfold Oper.wp
  rw [execOp_call_go, run_call hfn]
  simp only [Oper.upon]
  refine (hf w _ _ (ok_args hG) (by simpa using hr)).mono ?_
  rintro e w' ⟨u, rr', bs, rfl, rfl, h1, h2, h3, h4⟩
  obtain ⟨ps, p1, p2, p3⟩ := inst_rel rr' u bs h1
  subst p2
  let φ' : Nat → Option Nat := fun i => if i < σ.length then φ i else (ps[i - σ.length]?).getD none
  have e1 : ∀ i, i < σ.length → φ' i = φ i := fun i hi => if_pos hi
  have e2 : ∀ j, φ' (σ.length + j) = (ps[j]?).getD none := fun j => by show (if σ.length + j < σ.length then _ else _) = _; rw [if_neg (by omega)]; simp
  have e3 : ∀ (j g : Nat), φ' (σ.length + j) = some g → ps[j]? = some (some g) := fun j g hg => by
    rw [e2] at hg
    cases hp : ps[j]? with
    | none => simp [hp] at hg
    | some p => simp [hp] at hg; rw [hg]
  have hnew : ∀ (j g : Nat), φ' (σ.length + j) = some g → g ∈ ps.flatMap Option.toList := fun j g hg => List.mem_flatMap.2 ⟨some g, List.mem_of_getElem? (e3 j g hg), by simp⟩
  have hLie : ∀ os, Lies ⟨w', φ', σ ++ os, C.ok⟩ σ.length ps os := fun os => ⟨fun j p hj => by show φ' (σ.length + j) = p; rw [e2, hj]; rfl, fun j o hj => by show (σ ++ os)[σ.length + j]? = _; rw [List.getElem?_append_right (by omega)]; simpa using hj⟩
  have hok : ∀ b, (AV.Mem.ok ⟨w, φ, σ, C.ok⟩ b ∧ b ∉ ps.flatMap Option.toList) → AV.Mem.ok ⟨w', φ', σ ++ obs rr', C.ok⟩ b := fun b hb => ⟨hb.1.1, fun i hi he => by
    simp only at he
    rcases Nat.lt_or_ge i σ.length with hlt | hge
    · exact hb.1.2 i hlt ((e1 i hlt).symm.trans he)
    · exact hb.2 (hnew (i - σ.length) b (by rwa [show σ.length + (i - σ.length) = i by omega]))⟩
  obtain ⟨q1, q2⟩ := p3 ⟨w', φ', σ ++ obs rr', C.ok⟩ σ.length rfl hok (hLie _)
  obtain ⟨g1, g2⟩ := good_grow (φ' := φ') (new := obs rr') hG h4 e1 (fun j hj g hg => (h3 g (hnew j g hg)).1) (fun i j g hi hj ei ej => flat_nodup_inj h2 i j g (e3 i g ei) (e3 j g ej)) q2
  exact hK' _ _ (hk.run _ _ ⟨s1, by simp [Act.put, s2], φ', g1, (hH.keeps g2).put (by rw [s2]; exact ht) q1⟩)
def Lends (C : Ctx) (σ : List Ob) (v : AV) (r : RV) : Prop := ∀ (m : Mem) (u : Value) (ok' : Nat → Prop), Good C m → m.σ = σ → (∀ b, m.ok b → ok' b) → (∀ (i g : Nat), i < σ.length → m.φ i = some g → ok' g) → AV.rel m v u → RV.rel m.w ok' r u
inductive LendsL (C : Ctx) (σ : List Ob) : List AV → List RV → Prop
  | nil : LendsL C σ [] []
  | cons {v : AV} {r : RV} {vs : List AV} {rs : List RV} : Lends C σ v r → LendsL C σ vs rs → LendsL C σ (v :: vs) (r :: rs)
theorem Lends.fits {v : AV} {r : RV} (h : Fits v r) : Lends C σ v r := fun m u _ _ _ h1 _ hu => RV.rel_mono ⟨Nat.le_refl _, fun b _ hb => ⟨h1 b hb, rfl⟩⟩ r u (h m u hu)
theorem Lends.ro {r : RV} : Lends C σ (.ro r) r := Lends.fits (Fits.ro r)
theorem Lends.nil (sz : Nat) : Lends C σ (.ro .nil) (.seq sz []) := Lends.fits (Fits.nil sz)
theorem LendsL.rels {m : Mem} {ok' : Nat → Prop} (hG : Good C m) (hσ : m.σ = σ) (k1 : ∀ b, m.ok b → ok' b) (k2 : ∀ (i g : Nat), i < σ.length → m.φ i = some g → ok' g) {vs : List AV} {rs : List RV} (h : LendsL C σ vs rs) : ∀ us, AV.rels m vs us → RV.rels m.w ok' rs us := by
  induction h with
  | nil => intro us hu; simpa [AV.rels, RV.rels] using hu
  | cons h1 _ ih =>
    intro us hu
    simp only [AV.rels] at hu
    obtain ⟨u, us', rfl, k3, k4⟩ := hu
    simp only [RV.rels]
    exact ⟨u, us', rfl, h1 m u ok' hG hσ k1 k2 k3, ih us' k4⟩
theorem Lends.agg {vs : List AV} {rs : List RV} (h : LendsL C σ vs rs) : Lends C σ (.agg vs) (.agg rs) := fun m u ok' hG hσ k1 k2 hu => by
  simp only [AV.rel, RV.rel] at hu ⊢
  obtain ⟨us, e, hr⟩ := hu
  exact ⟨us, e, h.rels hG hσ k1 k2 _ hr⟩
theorem Lends.tup {vs : List AV} {rs : List RV} (h : LendsL C σ vs rs) : Lends C σ (.tup vs) (.tup rs) := fun m u ok' hG hσ k1 k2 hu => by
  simp only [AV.rel, RV.rel] at hu ⊢
  obtain ⟨us, e, hr⟩ := hu
  exact ⟨us, e, h.rels hG hσ k1 k2 _ hr⟩
theorem LendsL.ros : ∀ rs : List RV, LendsL C σ (rs.map .ro) rs
  | [] => .nil
  | _ :: rs => .cons .ro (LendsL.ros rs)
theorem Lends.obj {i off : Nat} {o : Ob} {rs : List RV} (ho : σ[i]? = some o) (h : LendsL C σ (o.cs.drop off) rs) : Lends C σ (.obj i off) (.rp rs) := fun m u ok' hG hσ k1 k2 hu => by
  simp only [AV.rel] at hu
  obtain ⟨hi, g, hg, rfl⟩ := hu
  have hob := hG.ob i o (by rw [hσ]; exact ho)
  rw [hg] at hob
  obtain ⟨us, q1, q2, q3⟩ := hob
  simp only [RV.rel]
  refine ⟨g, off, rfl, hG.lt hi hg, k2 i g (by rw [← hσ]; exact hi) hg, ?_⟩
  have key : ∀ {vs : List AV} {rs : List RV}, LendsL C σ vs rs → ∀ (k : Nat), (∀ (j : Nat) v, vs[j]? = some v → o.cs[k + j]? = some v) → RV.relAt m.w ok' g k rs := by
    intro vs rs h
    induction h with
    | nil => intro k _; simp [RV.relAt]
    | cons h1 _ ih =>
      intro k hk
      simp only [RV.relAt]
      obtain ⟨x, e1, e2, e3⟩ := q3 k _ (hk 0 _ rfl)
      refine ⟨⟨x, by rw [cell_of_row _ g k us _ _ q1]; exact e1, e2, h1 m x ok' hG hσ k1 k2 e3⟩, ih (k + 1) fun j v hj => ?_⟩
      have := hk (j + 1) v (by simpa using hj)
      rwa [show k + (j + 1) = k + 1 + j by omega] at this
  exact key h off fun j v hj => by rwa [List.getElem?_drop] at hj
theorem Lends.own {i : Nat} {o : Ob} {els : List (List RV)} (ho : σ[i]? = some o) (h : o.cs = els.flatten.map .ro) (hl : ∀ x ∈ els, x.length = o.sz) : Lends C σ (.own i) (.seq o.sz els) := fun m u ok' hG hσ k1 k2 hu => by
  have hrow := row_own (cs := els.flatten) (e := o.t) (sz := o.sz) hG (by rw [hσ, ho]; cases o; simp_all) hu
  obtain ⟨n, xs, h1, h2, h3, h4, h5, h6⟩ := hrow
  refine seals_rel (ok := m.ok) k1 (.row o.t o.sz els.flatten) (.seq o.sz els) u u.ownBlock.toList (by simp only [Seals]; exact ⟨els, rfl, rfl, hl⟩) (by simp only [RR.rel]; exact ⟨n, xs, h1, h2, h3, h4, h5, trivial⟩) fun b hb => ?_
  rw [h6] at hb
  exact k2 i b (List.getElem?_eq_some_iff.1 ho).1 (by simpa [Option.mem_toList] using hb)
def flat : RV → Bool
  | .c _ => true
  | _ => false
theorem pu_callL {f : FuncId} {fn : Func} {xs : Array Operand} {ats : Array TypeId} {args : List RV} {v : Value} [hfn : FN P f fn] (hf : ACv P f args (.c v)) (ha : LendsL C σ (xs.toList.map (ev env)) args) :
    Pur P C ⟨some t, .call { callee := .value (.func f), args := xs, argTypes := ats }, ty, pos, after, gd⟩ env σ (.ro (.c v)) := by
  refine ⟨fun a m hG hσ hH K Q hK => ?_⟩
  have hr := LendsL.rels (ok' := fun _ => True) hG hσ (fun _ _ => trivial) (fun _ _ _ _ => trivial) ha _ (rels_eval (a := a) (m := m) xs.toList fun x hx => hH x (by simp [Op.operands, Call.operands]; exact .inr (by simpa using hx)))
  unfold Oper.wp
  rw [execOp_call_go, run_call hfn]
  simp only [Oper.upon]
  refine (hf m.w (fun _ => True) _ (fun _ _ => trivial) (by simpa using hr)).mono ?_
  rintro e w' ⟨u, rr, bs, rfl, rfl, h1, _, _, h4⟩
  simp only [RR.rel, RV.rel] at h1
  refine hK u w' h4 ?_
  simp only [AV.rel, RV.rel]
  exact h1.1
theorem pu_callF {f : FuncId} {fn : Func} {x : Operand} {xs : Array Operand} {ats : Array TypeId} {args : List RV} {v : Value} {first cap : List AV} [hfn : FN P f fn] (hx : ev env x = .fn (.func f) first cap) (hf : ACv P f args (.c v)) (ha : LendsL C σ (first ++ xs.toList.map (ev env) ++ cap) args) :
    Pur P C ⟨some t, .call { callee := .value x, args := xs, argTypes := ats }, ty, pos, after, gd⟩ env σ (.ro (.c v)) := by
  refine ⟨fun a m hG hσ hH K Q hK => ?_⟩
  have h0 := hH x (by simp [Op.operands, Call.operands])
  rw [hx] at h0
  simp only [AV.rel] at h0
  obtain ⟨us, vs, e, hu, hv⟩ := h0
  have hm := rels_eval (a := a) (m := m) xs.toList fun x hx => hH x (by simp [Op.operands, Call.operands]; exact .inr (by simpa using hx))
  have app : ∀ {xs ys : List AV} {us vs : List Value}, AV.rels m xs us → AV.rels m ys vs → AV.rels m (xs ++ ys) (us ++ vs) := by
    intro xs
    induction xs with
    | nil => intro ys us vs h1 h2; simp only [AV.rels] at h1; subst h1; simpa using h2
    | cons x xs ih =>
      intro ys us vs h1 h2
      simp only [AV.rels] at h1
      obtain ⟨u, us', rfl, k1, k2⟩ := h1
      simp only [List.cons_append, AV.rels]
      exact ⟨u, us' ++ vs, rfl, k1, ih k2 h2⟩
  have hr := LendsL.rels (ok' := fun _ => True) hG hσ (fun _ _ => trivial) (fun _ _ _ _ => trivial) ha _ (app (app hu hm) hv)
  unfold Oper.wp execOp
  simp only [resolve, e, Deferred.ofValue, Sem.run_bind, Sem.run_pure, Result.andThen_ok, invoke]
  rw [run_call hfn]
  simp only [Oper.upon]
  refine (hf m.w (fun _ => True) _ (fun _ _ => trivial) (by simpa using hr)).mono ?_
  rintro e w' ⟨u, rr, bs, rfl, rfl, h1, _, _, h4⟩
  simp only [RR.rel, RV.rel] at h1
  refine hK u w' h4 ?_
  simp only [AV.rel, RV.rel]
  exact h1.1
theorem pu_makeFunc {f : Fn} {first cap : Array Operand} : Pur P C ⟨some t, .makeFunc f first cap, ty, pos, after, gd⟩ env σ (.fn f (first.toList.map (ev env)) (cap.toList.map (ev env))) :=
  Pur.of fun a m hG hσ hH => by
    refine ⟨.func f (first.map a.eval) (cap.map a.eval), by simp [execOp, Instr.makeFunc], ?_⟩
    simp only [AV.rel]
    exact ⟨_, _, rfl, by simpa using rels_eval (a := a) (m := m) first.toList fun x hx => hH x (by simp [Op.operands]; exact .inl (by simpa using hx)), by simpa using rels_eval (a := a) (m := m) cap.toList fun x hx => hH x (by simp [Op.operands]; exact .inr (by simpa using hx))⟩
end
end Go.Proofs.Ytdikinkihnepaaa
/- Opening the arguments of a law: a byte, an integer, a slice of bytes or of integers. -/
namespace Go.Proofs.Ytdikinkihnepaaa
set_option linter.unusedSimpArgs false
set_option linter.unusedVariables false
open Go.ChangeShapes Go.WideShapes Go.RowKit
theorem u8_of_wf {n : Int} (h : (Lit.int .u8 n).wf = true) : ∃ c : UInt8, n = (c.toNat : Int) := by
  have := bounds_u8 h
  refine ⟨UInt8.ofNat n.toNat, ?_⟩
  simp; omega
theorem u8s_of_wf : ∀ (zs : List Int), (∀ n ∈ zs, (Lit.int .u8 n).wf = true) → ∃ bs : List UInt8, zs = bs.map (fun c => (c.toNat : Int))
  | [], _ => ⟨[], rfl⟩
  | z :: zs, h => by
    obtain ⟨c, rfl⟩ := u8_of_wf (h z (by simp))
    obtain ⟨bs, rfl⟩ := u8s_of_wf zs (fun n hn => h n (by simp [hn]))
    exact ⟨c :: bs, rfl⟩
section
variable {H : Type} {enc : TypeId × Value → H} {P : Program} {w : World} {base b0 : Nat} {spare : Nat → Bool} {held : Bool} {r : Reach}
theorem addr_plain {x : Addr} {b : Value} (h : w.cell? (x.add 0) = some b) : x = ⟨x.block, x.off, none⟩ := by
  obtain ⟨bl, off, spot⟩ := x
  have : spot = none := by
    simp only [Addr.add, if_true, World.cell?] at h
    cases spot with
    | none => rfl
    | some s => split at h <;> simp at h
  subst this; rfl
theorem add_lit (b o j : Nat) : (⟨b, o, none⟩ : Addr).add j = ⟨b, o + j, none⟩ := by unfold Addr.add; split <;> simp_all
theorem rd_ints {k : IntKind} {x : Addr} {len cap : Nat} {zs : List Int} (hl : len ≤ cap) (hz : zs.length = len ∨ zs.length = cap)
    (hc : ∀ i, i < zs.length → w.cell? (x.add i) = some (.int k (zs.getD i 0))) : Rd w 1 (some x) len ((zs.take len).map (Value.int k)) := by
  refine ⟨by simp; omega, fun hn => ?_⟩
  have h0 := hc 0 (by omega)
  have hx := addr_plain h0
  refine ⟨x.block, x.off, by rw [← hx], fun j u hu => ?_⟩
  have hj : j < len := by
    rcases Nat.lt_or_ge j len with h | h
    · exact h
    · rw [List.getElem?_eq_none (by simp; omega)] at hu; cases hu
  have hjz : j < zs.length := by omega
  have h1 := hc j hjz
  rw [hx, add_lit] at h1
  rw [List.getElem?_map, List.getElem?_take, if_pos hj, List.getElem?_eq_getElem hjz] at hu
  rw [h1, ← hu]; simp [List.getD_eq_getElem?_getD, hjz]
theorem open_bytes {t e : TypeId} {v : Value} {d : DataW H} {p : List MemPlace} (ht : P.underlying t = some (.slice e)) (he : P.underlying e = some (.int .u8)) (hc : P.cellsOf e = 1)
    (hv : Value.okWide P w r b0 t v) (h : DataW.Trod enc P w base spare held t v d p) :
    ∃ (A : Option Addr) (n c : Nat) (bs : List UInt8), v = .slice A n c ∧ RdB w A n bs ∧ n ≤ c ∧ c ≤ maxLen := by
  obtain ⟨a, len, cap, rfl⟩ := okWide_slice ht hv
  obtain ⟨fuel, hf⟩ := h
  rcases open_ints ht he hc hf with ⟨hcs, _⟩ | ⟨x, l, c, zs, hcs, _, hl, hm, hz, _, hcell, hwz⟩
  · simp [Value.cells] at hcs
    obtain ⟨rfl, rfl, rfl⟩ := hcs
    exact ⟨_, _, _, [], rfl, Rd.nil _ _ _, Nat.le_refl _, Nat.zero_le _⟩
  · simp [Value.cells] at hcs
    obtain ⟨rfl, rfl, rfl⟩ := hcs
    have hR := rd_ints (w := w) (k := .u8) hl (by split at hz <;> simp [hz]) hcell
    obtain ⟨bs, hbs⟩ := u8s_of_wf (zs.take len) (fun n hn => hwz n (List.mem_of_mem_take hn))
    refine ⟨_, _, _, bs, rfl, ?_, hl, hm⟩
    rw [hbs, List.map_map] at hR
    exact hR
theorem open_intS {t e : TypeId} {v : Value} {d : DataW H} {p : List MemPlace} (ht : P.underlying t = some (.slice e)) (he : P.underlying e = some (.int .i64)) (hc : P.cellsOf e = 1)
    (hv : Value.okWide P w r b0 t v) (h : DataW.Trod enc P w base spare held t v d p) :
    ∃ (A : Option Addr) (n c : Nat) (zs : List Int), v = .slice A n c ∧ RdI w A n zs ∧ n ≤ c ∧ c ≤ maxLen ∧ ∀ z ∈ zs, -9223372036854775808 ≤ z ∧ z ≤ 9223372036854775807 := by
  obtain ⟨a, len, cap, rfl⟩ := okWide_slice ht hv
  obtain ⟨fuel, hf⟩ := h
  rcases open_ints ht he hc hf with ⟨hcs, _⟩ | ⟨x, l, c, zs, hcs, _, hl, hm, hz, _, hcell, hwz⟩
  · simp [Value.cells] at hcs
    obtain ⟨rfl, rfl, rfl⟩ := hcs
    exact ⟨_, _, _, [], rfl, Rd.nil _ _ _, Nat.le_refl _, Nat.zero_le _, by simp⟩
  · simp [Value.cells] at hcs
    obtain ⟨rfl, rfl, rfl⟩ := hcs
    exact ⟨_, _, _, zs.take len, rfl, rd_ints (w := w) (k := .i64) hl (by split at hz <;> simp [hz]) hcell, hl, hm, fun z hz => bounds_i64 (hwz z (List.mem_of_mem_take hz))⟩
end
end Go.Proofs.Ytdikinkihnepaaa
/- What comes in as an argument, of whatever plain type, reads as data. Over any program. -/
namespace Go.Proofs.Ytdikinkihnepaaa
set_option linter.unusedSimpArgs false
set_option linter.unusedVariables false
open Go.RowKit Go.ChangeShapes Go.WideShapes
def tile (P : Program) : Nat → List Field → Nat → Bool
  | o, [], n => Nat.beq o n
  | o, f :: fs, n => Nat.beq f.offset o && tile P (o + P.cellsOf f.type) fs n
def typB (P : Program) (T : List Nat) (t : Nat) : Bool := match P.underlying t with
  | some (.int _) | some .bool | some .string => Nat.beq (P.cellsOf t) 1
  | some (.slice e) => nmem T e && Nat.beq (P.cellsOf t) 1 && Nat.ble 1 (P.cellsOf e)
  | some (.struct fs) => fs.toList.all (fun f => nmem T f.type) && tile P 0 fs.toList (P.cellsOf t)
  | _ => false
inductive TyC (P : Program) : TypeId → List RV → Prop
  | int {t : TypeId} {k : IntKind} {n : Int} (h : P.underlying t = some (.int k)) (wf : (Lit.int k n).wf = true) : TyC P t [.c (.int k n)]
  | bool {t : TypeId} {b : Bool} (h : P.underlying t = some .bool) : TyC P t [.bool b]
  | str {t : TypeId} {s : ByteArray} (h : P.underlying t = some .string) (hs : s.size ≤ maxLen) : TyC P t [.str s]
  | slice {t e : TypeId} {els : List (List RV)} (h : P.underlying t = some (.slice e)) (hl : els.length ≤ maxLen) (hels : ∀ el ∈ els, TyC P e el) : TyC P t [.seq (P.cellsOf e) els]
  | struct {t : TypeId} {fs : Array Field} {cells : List (List RV)} (h : P.underlying t = some (.struct fs)) (hl : cells.length = fs.size) (hc : ∀ (j : Nat) f c, fs[j]? = some f → cells[j]? = some c → TyC P f.type c) : TyC P t cells.flatten
section
variable {w : World} {ok : Nat → Prop}
theorem rels_app : ∀ {ps bs : List RV} {us vs : List Value}, RV.rels w ok ps us → RV.rels w ok bs vs → RV.rels w ok (ps ++ bs) (us ++ vs)
  | [], bs, us, vs, h1, h2 => by simp only [RV.rels] at h1; subst h1; simpa using h2
  | a :: ps, bs, us, vs, h1, h2 => by
    simp only [RV.rels] at h1
    obtain ⟨u, us', rfl, k1, k2⟩ := h1
    simp only [List.cons_append, RV.rels]
    exact ⟨u, us' ++ vs, rfl, k1, rels_app k2 h2⟩
end
theorem list_of' {α : Type} {Q : Nat → α → Prop} : ∀ n, (∀ i, i < n → ∃ x, Q i x) → ∃ l : List α, l.length = n ∧ ∀ (i : Nat) x, l[i]? = some x → Q i x := by
  intro n
  induction n with
  | zero => intro _; exact ⟨[], rfl, fun i x h => by simp at h⟩
  | succ n ih =>
    intro h
    obtain ⟨l, hl, hP⟩ := ih (fun i hi => h i (by omega))
    obtain ⟨x, hx⟩ := h n (by omega)
    refine ⟨l ++ [x], by simp [hl], fun i y hi => ?_⟩
    rcases Nat.lt_or_ge i n with hlt | hge
    · rw [List.getElem?_append_left (by omega)] at hi; exact hP i y hi
    · rw [List.getElem?_append_right (by omega), hl] at hi
      have : i - n = 0 := by have := (List.getElem?_eq_some_iff.1 hi).1; simp at this; omega
      rw [this] at hi; simp at hi; subst hi
      have : i = n := by omega
      subst this; exact hx
section
variable {H : Type} {enc : TypeId × Value → H} {P : Program} {w : World} {base b0 : Nat} {spare : Nat → Bool} {held : Bool} {r : Reach} {T : List Nat}
theorem open_fields {cs : List Value} {total : Nat} (hcs : cs.length = total) : ∀ (fs : List Field) (o : Nat), tile P o fs total = true →
    (∀ f ∈ fs, ∃ rc, TyC P f.type rc ∧ RV.Rels w rc ((cs.drop f.offset).take (P.cellsOf f.type)) ∧ ∀ u ∈ (cs.drop f.offset).take (P.cellsOf f.type), u.oneCell' = true) →
    ∃ cells : List (List RV), cells.length = fs.length ∧ (∀ (j : Nat) f c, fs[j]? = some f → cells[j]? = some c → TyC P f.type c) ∧ RV.Rels w cells.flatten (cs.drop o) ∧ ∀ u ∈ cs.drop o, u.oneCell' = true
  | [], o, ht, _ => by
    simp only [tile] at ht
    have := Nat.eq_of_beq_eq_true ht
    have e : cs.drop o = [] := List.drop_eq_nil_of_le (by omega)
    rw [e]
    exact ⟨[], rfl, fun j f c h => by simp at h, by simp [RV.rels], by simp⟩
  | f :: fs, o, ht, h => by
    simp only [tile, Bool.and_eq_true] at ht
    have ho := Nat.eq_of_beq_eq_true ht.1
    obtain ⟨rc, h1, h2, h3⟩ := h f (by simp)
    obtain ⟨cells, k1, k2, k3, k4⟩ := open_fields hcs fs _ ht.2 (fun g hg => h g (by simp [hg]))
    rw [ho] at h2 h3
    have e : cs.drop o = (cs.drop o).take (P.cellsOf f.type) ++ cs.drop (o + P.cellsOf f.type) := by
      rw [← List.drop_drop, List.take_append_drop]
    refine ⟨rc :: cells, by simp [k1], fun j g c hj hc => ?_, ?_, ?_⟩
    · cases j with
      | zero => simp at hj hc; subst hj; subst hc; exact h1
      | succ j => simp at hj hc; exact k2 j g c hj hc
    · rw [e, List.flatten_cons]; exact rels_app h2 k3
    · rw [e]
      intro u hu
      rcases List.mem_append.1 hu with h | h
      · exact h3 u h
      · exact k4 u h
theorem open_ty (hT : (T.all (typB P T)) = true) : ∀ (fuel : Nat) (t : TypeId) (cs : List Value) (x : DataW H × List MemPlace), nmem T t = true → DataW.trod enc P w base spare held fuel t cs = some x →
    ∃ rcs, TyC P t rcs ∧ RV.Rels w rcs cs ∧ ∀ u ∈ cs, u.oneCell' = true := by
  intro fuel
  induction fuel with
  | zero => intro t cs x _ h; simp [DataW.trod] at h
  | succ fuel ih =>
    intro t cs x ht h
    have hb := List.all_eq_true.1 hT _ (nmem_mem ht)
    unfold typB at hb
    split at hb
    · rename_i k hu
      obtain ⟨n, rfl, _, wf⟩ := DataW.trod_int hu h
      exact ⟨[.c (.int k n)], .int hu wf, by simp [RV.rels, RV.rel], by simp [Value.oneCell']⟩
    · rename_i hu
      obtain ⟨b, rfl, _⟩ := DataW.trod_bool hu h
      exact ⟨[.bool b], .bool hu, by simp [RV.rels, RV.rel], by simp [Value.oneCell']⟩
    · rename_i hu
      obtain ⟨s, rfl, _, hs⟩ := DataW.trod_string hu h
      exact ⟨[.str s], .str hu hs, by simp [RV.rels, RV.rel], by simp [Value.oneCell']⟩
    · rename_i e hu
      simp only [Bool.and_eq_true] at hb
      have hpos := Nat.le_of_ble_eq_true hb.2
      rcases DataW.trod_slice hu h with ⟨rfl, _⟩ | ⟨a, len, cap, elems, rest, n, hf, rfl, _, _, h1, h2, h3, h4, _⟩
      · refine ⟨[.seq (P.cellsOf e) []], .slice hu (Nat.zero_le _) (by simp), ?_, by simp [Value.oneCell']⟩
        simp only [RV.rels, RV.rel]
        exact ⟨_, _, rfl, ⟨none, 0, 0, rfl, rfl, Nat.le_refl _, Nat.zero_le _, fun h => absurd h (by omega)⟩, rfl⟩
      · have hn : n = fuel := by omega
        subst hn
        have hel : ∀ i, i < len → ∃ rc : List RV, TyC P e rc ∧ rc.length = P.cellsOf e ∧ ∀ (j : Nat) rr, rc[j]? = some rr → ∃ u, w.cell? (a.add (i * P.cellsOf e + j)) = some u ∧ u.oneCell' = true ∧ RV.Rel w rr u := by
          intro i hi
          have h5 := h4 i hi
          rw [List.getElem?_eq_getElem (by omega : i < elems.length)] at h5
          obtain ⟨cs', hc', ht'⟩ := Option.bind_eq_some_iff.1 h5
          obtain ⟨rc, r1, r2, r3⟩ := ih e cs' _ hb.1.1 ht'
          obtain ⟨_, hl', hat⟩ := World.cells?_some hc'
          have hlen := RV.rels_len rc cs' r2
          refine ⟨rc, r1, by omega, fun j rr hj => ?_⟩
          obtain ⟨u, e1, e2⟩ := RV.rels_at rc cs' r2 j rr hj
          have hjl := (List.getElem?_eq_some_iff.1 hj).1
          refine ⟨u, ?_, r3 u (List.mem_of_getElem? e1), e2⟩
          rw [← Go.Deep.add_add, hat j (by omega), e1]
        obtain ⟨els, l1, l2⟩ := list_of' len hel
        refine ⟨[.seq (P.cellsOf e) els], .slice hu (by omega) (fun el hel => ?_), ?_, by simp [Value.oneCell']⟩
        · obtain ⟨i, hi, rfl⟩ := List.getElem_of_mem hel
          exact (l2 i _ (List.getElem?_eq_getElem hi)).1
        · simp only [RV.rels, RV.rel]
          refine ⟨_, _, rfl, ⟨some a, len, cap, rfl, l1.symm, h1, h2, fun hn => ?_⟩, rfl⟩
          obtain ⟨rc0, q1, q2, q3⟩ := hel 0 hn
          obtain ⟨u0, q4, _⟩ := q3 0 rc0[0] (List.getElem?_eq_getElem (by omega))
          have hx := addr_plain (x := a) (w := w) (b := u0) (by simpa using q4)
          refine ⟨a.block, a.off, by rw [← hx], ?_, trivial, RV.relE_of _ _ _ fun k el hk => ?_⟩
          · rw [Nat.zero_mul, Nat.zero_add] at q4
            have := World.block_lt_of_cell? w _ q4
            rwa [hx, add_lit] at this
          · obtain ⟨_, z1, z2⟩ := l2 k el hk
            refine ⟨z1, RV.relAt_of _ _ fun j rr hj => ?_⟩
            obtain ⟨u, e1, e2, e3⟩ := z2 j rr hj
            rw [hx, add_lit] at e1
            exact ⟨u, by rw [Nat.add_assoc]; exact e1, e2, e3⟩
    · rename_i fs hu
      simp only [Bool.and_eq_true] at hb
      obtain ⟨xs, n, hf, _, hl, hxl, hfl⟩ := DataW.trod_struct hu h
      have hn : n = fuel := by omega
      subst hn
      obtain ⟨cells, c1, c2, c3, c4⟩ := open_fields (P := P) (w := w) hl fs.toList 0 hb.2 (fun f hfm => by
        obtain ⟨i, hi, rfl⟩ := List.getElem_of_mem hfm
        have hi' : i < fs.size := by simpa using hi
        have h5 := hfl i fs.toList[i] (by simp [hi'])
        rw [List.getElem?_eq_getElem (by omega : i < xs.length)] at h5
        exact ih _ _ _ (List.all_eq_true.1 hb.1 _ hfm) h5)
      simp only [List.drop_zero] at c3 c4
      exact ⟨_, .struct hu (by simpa using c1) (fun j f c hj hc => c2 j f c (by simpa using hj) hc), c3, c4⟩
    · cases hb
theorem open_arg (hT : (T.all (typB P T)) = true) {t : TypeId} (ht : nmem T t = true) {v : Value} {d : DataW H} {p : List MemPlace} (h : DataW.Trod enc P w base spare held t v d p) :
    ∃ rcs, TyC P t rcs ∧ RV.Rels w rcs v.cells.toList ∧ ∀ u ∈ v.cells.toList, u.oneCell' = true := by
  obtain ⟨fuel, hf⟩ := h
  exact open_ty hT fuel t _ _ ht hf
end
section
variable {P : Program} {t e : TypeId} {rcs : List RV}
theorem TyC.inv_int {k : IntKind} (h : TyC P t rcs) (hu : P.underlying t = some (.int k)) : ∃ n, rcs = [.c (.int k n)] ∧ (Lit.int k n).wf = true := by
  cases h with
  | int h wf => rw [hu] at h; injection h with h; injection h with h; subst h; exact ⟨_, rfl, wf⟩
  | bool h => rw [hu] at h; cases h
  | str h => rw [hu] at h; cases h
  | slice h => rw [hu] at h; cases h
  | struct h => rw [hu] at h; cases h
theorem TyC.inv_bool (h : TyC P t rcs) (hu : P.underlying t = some .bool) : ∃ b, rcs = [.bool b] := by
  cases h with
  | int h wf => rw [hu] at h; cases h
  | bool h => exact ⟨_, rfl⟩
  | str h => rw [hu] at h; cases h
  | slice h => rw [hu] at h; cases h
  | struct h => rw [hu] at h; cases h
theorem TyC.inv_str (h : TyC P t rcs) (hu : P.underlying t = some .string) : ∃ s, rcs = [.str s] ∧ s.size ≤ maxLen := by
  cases h with
  | int h wf => rw [hu] at h; cases h
  | bool h => rw [hu] at h; cases h
  | str h hs => exact ⟨_, rfl, hs⟩
  | slice h => rw [hu] at h; cases h
  | struct h => rw [hu] at h; cases h
theorem TyC.inv_slice (h : TyC P t rcs) (hu : P.underlying t = some (.slice e)) : ∃ els, rcs = [.seq (P.cellsOf e) els] ∧ els.length ≤ maxLen ∧ ∀ el ∈ els, TyC P e el := by
  cases h with
  | int h wf => rw [hu] at h; cases h
  | bool h => rw [hu] at h; cases h
  | str h => rw [hu] at h; cases h
  | slice h hl hels => rw [hu] at h; injection h with h; injection h with h; subst h; exact ⟨_, rfl, hl, hels⟩
  | struct h => rw [hu] at h; cases h
theorem TyC.inv_struct {fs : Array Field} (h : TyC P t rcs) (hu : P.underlying t = some (.struct fs)) : ∃ cells : List (List RV), rcs = cells.flatten ∧ cells.length = fs.size ∧ ∀ (j : Nat) f c, fs[j]? = some f → cells[j]? = some c → TyC P f.type c := by
  cases h with
  | int h wf => rw [hu] at h; cases h
  | bool h => rw [hu] at h; cases h
  | str h => rw [hu] at h; cases h
  | slice h => rw [hu] at h; cases h
  | struct h hl hc => rw [hu] at h; injection h with h; injection h with h; subst h; exact ⟨_, rfl, hl, hc⟩
theorem els_of {α : Type} {f : α → List RV} {Q : α → Prop} : ∀ {els : List (List RV)}, (∀ el ∈ els, ∃ x, el = f x ∧ Q x) → ∃ l : List α, els = l.map f ∧ ∀ x ∈ l, Q x
  | [], _ => ⟨[], rfl, by simp⟩
  | el :: els, h => by
    obtain ⟨x, rfl, hx⟩ := h el (by simp)
    obtain ⟨l, e, hl⟩ := els_of (els := els) (fun e he => h e (List.mem_cons_of_mem _ he))
    exact ⟨x :: l, by rw [e]; rfl, by simpa using ⟨hx, hl⟩⟩
end
end Go.Proofs.Ytdikinkihnepaaa
/- Loops over values, and tests that are decided. Over any program. -/
namespace Go.Proofs.Ytdikinkihnepaaa
set_option linter.unusedSimpArgs false
set_option linter.unusedVariables false
open Go.RowKit
section
variable {P : Program} {C : Ctx} {ops : Array Oper} {rest : List Oper} {k : List Item} {R : Act → World → Prop} {env : Env} {σ : List Ob} {t : Nat} {ty : TypeId} {pos : String} {after : Array Edge}
section
variable {x y : Code} {φ : Prop} [Decidable φ]
theorem Runs.cond_yes (hc : look env t = .bool (decide φ)) (hφ : φ) (h : Runs P C (.code x :: k) R ⟨(t, .bool true) :: env, σ⟩) : Runs P C (.code (.cond (.tmp t) x y) :: k) R ⟨env, σ⟩ := Runs.cond_dec hc (fun _ => h) (fun h => absurd hφ h)
theorem Runs.cond_no (hc : look env t = .bool (decide φ)) (hφ : ¬ φ) (h : Runs P C (.code y :: k) R ⟨(t, .bool false) :: env, σ⟩) : Runs P C (.code (.cond (.tmp t) x y) :: k) R ⟨env, σ⟩ := Runs.cond_dec hc (fun h => absurd h hφ) (fun _ => h)
theorem Runs.cond_nyes (hc : look env t = .bool (!decide φ)) (hφ : ¬ φ) (h : Runs P C (.code x :: k) R ⟨(t, .bool true) :: env, σ⟩) : Runs P C (.code (.cond (.tmp t) x y) :: k) R ⟨env, σ⟩ := Runs.cond_ndec hc (fun _ => h) (fun h => absurd h hφ)
theorem Runs.cond_nno (hc : look env t = .bool (!decide φ)) (hφ : φ) (h : Runs P C (.code y :: k) R ⟨(t, .bool false) :: env, σ⟩) : Runs P C (.code (.cond (.tmp t) x y) :: k) R ⟨env, σ⟩ := Runs.cond_ndec hc (fun h => absurd hφ h) (fun _ => h)
end
theorem tl {C : Ctx} {t m : Nat} (hn : C.n = m) (h : Nat.ble (t + 1) m = true) : t < C.n := Nat.lt_of_lt_of_eq (Nat.le_of_ble_eq_true h) hn.symm
theorem RunsL.pe {o : Oper} {m : Nat} (hn : C.n = m) (hg : o.guard = none) (hd : o.dst = some t) (ht : Nat.ble (t + 1) m = true) (h : ∃ v, Pur P C o env σ v ∧ RunsL P C ops rest k R ⟨(t, v) :: env, σ⟩) : RunsL P C ops (o :: rest) k R ⟨env, σ⟩ := by
  obtain ⟨v, h, hk⟩ := h
  exact RunsL.pur h hg hd (tl hn ht) hk
theorem RunsD.pe {o : Oper} (hg : gsay ops env o.guard = some true) (hd : o.dst = some t) (h : ∃ v, Pur P C o env σ v ∧ RunsD P C ops rest k R ⟨(t, v) :: env, σ⟩) : RunsD P C ops (o :: rest) k R ⟨env, σ⟩ := by
  obtain ⟨v, h, hk⟩ := h
  exact RunsD.pur h hg hd hk
theorem Runs.loopN (m : Nat) {c : Code} {k' : List Item} (hc : Proofs.Ytdikinkihnepaaa.ctls m k = .code (.loop c) :: k') (E : Nat → Env) (s : Nat → List Ob) (Q : Nat → Prop) (len : Nat) (j0 : Nat) (hj0 : j0 ≤ len) (h0 : Q j0) (henv : Sub (E j0) env) (hs : s j0 = σ)
    (round : ∀ j, j ≤ len → Q j → (∀ env' σ', Sub (E (j + 1)) env' → j < len → Q (j + 1) → s (j + 1) = σ' → Runs P C (.inLoop c :: k') R ⟨env', σ'⟩) → Runs P C (.code c :: .inLoop c :: k') R ⟨E j, s j⟩) :
    Runs P C k R ⟨env, σ⟩ := by
  refine Runs.ctls m hc ?_
  subst hs
  refine Runs.keep (E j0) henv ?_
  refine Runs.loop (fun n S => ∃ j, j + n = len ∧ Q j ∧ S = ⟨E j, s j⟩) (fun n S hI ih => ?_) (len - j0) ⟨j0, by omega, h0, rfl⟩
  obtain ⟨j, hj, hQ, rfl⟩ := hI
  refine round j (by omega) hQ fun env' σ' hsub hlt hQ' hσ => ?_
  subst hσ
  exact Runs.keep _ hsub (ih (n - 1) (by omega) _ ⟨j + 1, by omega, hQ', rfl⟩)
theorem Runs.loopI (m : Nat) {c : Code} {k' : List Item} (hc : Proofs.Ytdikinkihnepaaa.ctls m k = .code (.loop c) :: k') (I : Nat → Env → List Ob → Prop) (n : Nat) (env0 : Env) (henv : Sub env0 env) (h0 : I n env0 σ)
    (round : ∀ n E s, I n E s → (∀ n' E' env' s', n' < n → I n' E' s' → Sub E' env' → Runs P C (.inLoop c :: k') R ⟨env', s'⟩) → Runs P C (.code c :: .inLoop c :: k') R ⟨E, s⟩) :
    Runs P C k R ⟨env, σ⟩ := by
  refine Runs.ctls m hc (Runs.keep env0 henv ?_)
  refine Runs.loop (fun n S => I n S.env S.σ) (fun n S hI ih => ?_) n h0
  obtain ⟨E, s⟩ := S
  exact round n E s hI fun n' E' env' s' hn hI' hsub => Runs.keep _ hsub (ih n' hn ⟨E', s'⟩ hI')
end
theorem ends_own {P : Program} {C : Ctx} {fn : Func} {R : RR → Prop} {S : St} {t i sz : Nat} {e : TypeId} {cs : List AV} {rs : List RV} (hm : ∀ b, ¬ C.mu b) (hr : fn.results = #[.tmp t]) (hx : look S.env t = .own i) (ho : S.σ[i]? = some ⟨e, sz, cs⟩) (hc : cs = rs.map .ro) (hR : R (.row e sz rs)) : ∀ a w, Sim C S a w → Ends P C fn R a w :=
  ends1 hm hr _ rfl (.row e sz rs) [i] (by simp only [Harv]; exact ⟨i, hx, by rw [ho, hc], rfl⟩) (by simp) hR
theorem rr_bool {a b : Bool} (h : a = b) : RR.ro (.bool a) = .ro (.bool b) := by rw [h]
theorem rr_int {a b : Int} (h : a = b) : RR.ro (.int a) = .ro (.int b) := by rw [h]
theorem rr_ro {a b : RV} (h : a = b) : RR.ro a = .ro b := by rw [h]
def intsR (l : List Int) : RV := .seq 1 (l.map fun z => [.int z])
def bytesR (l : List UInt8) : RV := .seq 1 (l.map fun z => [.u8 z])
def strsR (l : List ByteArray) : RV := .seq 1 (l.map fun z => [.str z])
theorem AC.calls {P : Program} {f : FuncId} {args : List RV} {R : RR → Prop} (h : AC P f args R) (w : World) (us : Array Value) (hu : RV.Rels w args us.toList) :
    Calls P f us w fun e w' => ∃ u rr bs, e = .returned u ∧ R rr ∧ RR.rel w' (fun b => b ∉ bs) rr u bs ∧ bs.Nodup ∧ (∀ b ∈ bs, w.heap.size ≤ b ∧ b < w'.heap.size) ∧ Below w.heap.size w w' :=
  (h w (fun _ => True) us (fun _ _ => trivial) hu).mono fun _ _ ⟨u, rr, bs, e, h1, h2, h3⟩ => ⟨u, rr, bs, e, h1, RR.rel_mono (fun _ hb => hb.2) _ _ _ h2, h3⟩
theorem AC.law {P : Program} {f : FuncId} {args : List RV} (h : ACv P f args (.bool true)) (w : World) (us : Array Value) (hu : RV.Rels w args us.toList) :
    Calls P f us w fun e w' => e = .returned (.bool true) ∧ Below w.heap.size w w' :=
  (h.calls w us hu).mono fun _ _ ⟨u, rr, bs, e, h1, h2, _, _, h5⟩ => by
    subst h1
    simp only [RR.rel, RV.rel] at h2
    rw [e, h2.1]
    exact ⟨rfl, h5⟩
end Go.Proofs.Ytdikinkihnepaaa
/- What a function built becomes data at its end; rows of wide elements. Over any program. -/
namespace Go.Proofs.Ytdikinkihnepaaa
set_option linter.unusedSimpArgs false
set_option linter.unusedVariables false
open Go.RowKit
open AV (Mem Keeps)
theorem AC.shut {P : Program} {f : FuncId} {args : List RV} {R : RR → Prop} {r : RV} (h : AC P f args R) (hs : ∀ rr, R rr → Seals rr r) : ACv P f args r :=
  fun w ok us h0 hu => (h w ok us h0 hu).mono fun _ _ ⟨u, rr, bs, e, h1, h2, h3, h4, h5⟩ => ⟨u, .ro r, [], e, rfl, by
    simp only [RR.rel]
    exact ⟨seals_rel (fun b hb => ⟨hb.1, by simp⟩) rr r u bs (hs rr h1) h2 (fun b hb => ⟨h0 b (h4 b hb).1, by simp⟩), trivial⟩, by simp, by simp, h5⟩
section
variable {P : Program} {C : Ctx} {fn : Func} {R : RR → Prop} {S : St} {a : Act} {w : World}
theorem ends_lend {x : ResultVar} {v : AV} {r : RV} (hm : ∀ b, ¬ C.mu b) (hr : fn.results = #[x]) (hx : ResV P S x v) (hR : R (.ro r)) (hl : Lends C S.σ v r) : ∀ a w, Sim C S a w → Ends P C fn R a w := by
  intro a w ⟨h1, h2, φ, hG, hH⟩
  obtain ⟨u, k1, k2⟩ := resV_run (P := P) hG hH x v hx
  have hrel := hl ⟨w, φ, S.σ, C.ok⟩ u C.ok hG rfl (fun b hb => hb.1) (fun i g hi hg => hG.frm.new g ((hG.mine i g hi hg).resolve_left (hm g))) k2
  exact ⟨h1, u, by rw [results_eq, hr]; simp [k1], .ro r, [], hR, by simp only [RR.rel]; exact ⟨RV.rel_mono ⟨Nat.le_refl _, fun b _ hb => ⟨⟨hb, by simp⟩, rfl⟩⟩ r u hrel, trivial⟩, by simp, by simp, hG.frm.below0 hm⟩
theorem ends_cellR {p ty n i off : Nat} {o : Ob} {rs : List RV} [ht : TN P ty n] (hm : ∀ b, ¬ C.mu b) (hr : fn.results = #[.cell p ty]) (h1 : look S.env p = .obj i off) (h2 : S.σ[i]? = some o) (h3 : off + n ≤ o.cs.length) (hR : R (.ro (.agg rs))) (hc : (o.cs.drop off).take n = rs.map .ro) : ∀ a w, Sim C S a w → Ends P C fn R a w :=
  ends_lend (v := .agg ((o.cs.drop off).take n)) hm hr (by simp only [ResV]; exact ⟨i, off, o, h1, h2, .inr ⟨n, ht, h3, rfl⟩⟩) hR (hc ▸ Lends.agg (LendsL.ros rs))
theorem ends_ownR {t i : Nat} {o : Ob} {els : List (List RV)} (hm : ∀ b, ¬ C.mu b) (hr : fn.results = #[.tmp t]) (hx : look S.env t = .own i) (ho : S.σ[i]? = some o) (hR : R (.ro (.seq o.sz els))) (hc : o.cs = els.flatten.map .ro) (hl : ∀ x ∈ els, x.length = o.sz) : ∀ a w, Sim C S a w → Ends P C fn R a w :=
  ends_lend (v := .own i) hm hr (by simp only [ResV]; exact hx.symm) hR (Lends.own ho hc hl)
end
theorem sets_app : ∀ (l P Z : List AV) (k : Nat), P.length = k → l.length ≤ Z.length → setsAt (P ++ Z) k l = P ++ l ++ Z.drop l.length
  | [], P, Z, k, _, _ => by simp [setsAt]
  | x :: xs, P, [], k, _, h => by simp at h
  | x :: xs, P, z :: Z, k, hk, h => by
    rw [setsAt, List.set_append_right _ _ (by omega), hk, Nat.sub_self, List.set_cons_zero, ← List.singleton_append, ← List.append_assoc, sets_app xs (P ++ [x]) Z (k + 1) (by simp [hk]) (by simpa using h)]
    simp
section
variable {α : Type} (f : α → List RV) (zc : List RV) (sz : Nat)
def filled (l : List α) (j : Nat) : List RV := ((l.take j).map f).flatten ++ (List.replicate (l.length - j) zc).flatten
theorem filled_zero (l : List α) : filled f zc l 0 = (List.replicate l.length zc).flatten := by simp [filled]
theorem filled_full (l : List α) : filled f zc l l.length = (l.map f).flatten := by simp [filled]
variable {f zc sz}
theorem map_flatten_len (hf : ∀ x, (f x).length = sz) : ∀ l : List α, (l.map f).flatten.length = l.length * sz
  | [] => by simp
  | x :: xs => by rw [List.map_cons, List.flatten_cons, List.length_append, hf, map_flatten_len hf xs, List.length_cons, Nat.succ_mul, Nat.add_comm]
theorem rep_flatten_len {α : Type} (l : List α) : ∀ n : Nat, (List.replicate n l).flatten.length = n * l.length
  | 0 => by simp
  | n + 1 => by rw [List.replicate_succ, List.flatten_cons, List.length_append, rep_flatten_len l n, Nat.succ_mul, Nat.add_comm]
theorem filled_len (hf : ∀ x, (f x).length = sz) (hz : zc.length = sz) (l : List α) (j : Nat) (hj : j ≤ l.length) : (filled f zc l j).length = l.length * sz := by
  rw [filled, List.length_append, map_flatten_len hf, rep_flatten_len, hz, List.length_take, Nat.min_eq_left hj, ← Nat.add_mul, Nat.add_sub_cancel' hj]
theorem filled_set (hf : ∀ x, (f x).length = sz) (hz : zc.length = sz) (l : List α) (j : Nat) (x : α) (hx : l[j]? = some x) :
    setsAt ((filled f zc l j).map .ro) (j * sz) ((f x).map .ro) = (filled f zc l (j + 1)).map .ro := by
  obtain ⟨hj, rfl⟩ := List.getElem?_eq_some_iff.1 hx
  have e : l.length - j = (l.length - (j + 1)) + 1 := by omega
  rw [filled, List.map_append, sets_app _ _ _ _ (by simp only [List.length_map]; rw [map_flatten_len hf, List.length_take, Nat.min_eq_left (by omega)]) (by simp only [List.length_map, rep_flatten_len, hf, hz, e]; rw [Nat.succ_mul]; omega)]
  have e2 : List.drop (List.map AV.ro (f l[j])).length (List.map AV.ro (List.replicate (l.length - j) zc).flatten) = List.map AV.ro (List.replicate (l.length - (j + 1)) zc).flatten := by
    rw [e, List.replicate_succ, List.flatten_cons, List.map_append, List.drop_left' (by rw [List.length_map, List.length_map, hf, hz])]
  rw [e2, filled, List.take_succ_eq_append_getElem hj]
  simp only [List.map_append, List.map_cons, List.map_nil, List.flatten_append, List.flatten_cons, List.flatten_nil, List.append_nil, List.append_assoc]
end
theorem rep_at {α : Type} (l : List α) (h0 : 0 < l.length) : ∀ (n i : Nat), i < n * l.length → (List.replicate n l).flatten[i]? = l[i % l.length]?
  | 0, i, h => by simp at h
  | n + 1, i, h => by
    rw [List.replicate_succ, List.flatten_cons]
    rcases Nat.lt_or_ge i l.length with hlt | hge
    · rw [List.getElem?_append_left hlt, Nat.mod_eq_of_lt hlt]
    · rw [List.getElem?_append_right hge, rep_at l h0 n (i - l.length) (by rw [Nat.succ_mul] at h; omega), Nat.mod_eq_sub_mod hge]
theorem made_N (zs : List Value) (n : Nat) (h0 : 0 < zs.length) : (madeCells zs.toArray (n * zs.length)).toList = (List.replicate n zs).flatten := by
  refine List.ext_getElem? fun i => ?_
  rcases Nat.lt_or_ge i (n * zs.length) with h | h
  · rw [rep_at zs h0 n i h]
    have hm : i % zs.length < zs.length := Nat.mod_lt _ h0
    rw [madeCells, Array.getElem?_toList, Array.getElem?_map, Array.getElem?_range, if_pos h]
    simp only [Option.map_some, List.size_toArray]
    rw [List.getElem?_eq_getElem hm, getElem!_pos _ _ (by simpa using hm)]
    simp
  · rw [List.getElem?_eq_none (by simpa [size_madeCells] using h), List.getElem?_eq_none (by rw [rep_flatten_len]; exact h)]
section
variable {P : Program} {C : Ctx} {ops : Array Oper} {rest : List Oper} {k : List Item} {R : Act → World → Prop} {env : Env} {σ : List Ob} {t : Nat} {ty : TypeId} {pos : String} {after : Array Edge} {gd : Option (Nat × Bool)}
theorem op_makeN {tt e : TypeId} {z : Value} {sz bytes n : Nat} {zs : List Value} {x y : Operand} {kd kd' : IntKind} [hs : SL P tt e z sz bytes] (hx : ev env x = .ro (.c (.int kd (n : Int)))) (hy : ev env y = .ro (.c (.int kd' (n : Int)))) (hz : z.cells = zs.toArray) (hzl : zs.length = sz) (hz0' : 0 < sz) (hz1 : zs.all Value.oneCell' = true)
    (b2 : bytes * n ≤ 281474976710656) (b3 : n ≤ maxLen) (ht : t < C.n) (hk : RunsL P C ops rest k R ⟨(t, .own σ.length) :: env, σ ++ [⟨e, sz, ((List.replicate n (zs.map RV.c)).flatten).map .ro⟩]⟩) :
    RunsL P C ops (⟨some t, .makeSlice tt x y, ty, pos, after, none⟩ :: rest) k R ⟨env, σ⟩ :=
  RunsL.val rfl rfl ht (fun a w φ hG hH => by
    obtain ⟨i, hi, hz0, hsz, hb⟩ := hs.el.hi
    have hbb : (i.bytes : Int) * (n : Int) ≤ 281474976710656 := by
      rw [hb]
      have h : ((bytes * n : Nat) : Int) ≤ 281474976710656 := by omega
      rwa [Int.natCast_mul] at h
    have hr := run_make (P := P) w tt e i z hs.el.ht hi hz0 kd kd' n n (by omega) (Int.le_refl _) hbb (by simp [maxLen] at b3; omega)
    simp only [Int.toNat_natCast, hsz] at hr
    subst hzl
    have hm : (madeCells z.cells (n * zs.length)).toList = (List.replicate n zs).flatten := by rw [hz]; exact made_N zs n hz0'
    have hlen : ((List.replicate n (zs.map RV.c)).flatten).length = n * zs.length := by rw [rep_flatten_len, List.length_map]
    have hg := good_alloc hG (madeCells z.cells (n * zs.length)) e zs.length (((List.replicate n (zs.map RV.c)).flatten).map .ro) (Nat.le_of_eq (by rw [List.length_map, hlen, size_madeCells])) (fun j v hj => by
      rw [List.getElem?_map, Option.map_eq_some_iff] at hj
      obtain ⟨r, hr', rfl⟩ := hj
      have hjn : j < n * zs.length := by have := (List.getElem?_eq_some_iff.1 hr').1; omega
      rw [rep_at _ (by simpa using hz0') n j (by simpa using hjn), List.getElem?_map, Option.map_eq_some_iff, List.length_map] at hr'
      obtain ⟨c, hc, rfl⟩ := hr'
      refine ⟨c, ?_, List.all_eq_true.1 hz1 c (List.mem_of_getElem? hc), by simp [AV.rel, RV.rel]⟩
      rw [← Array.getElem?_toList, hm, rep_at _ hz0' n j hjn, hc])
    refine ⟨slv w.heap.size n n, _, _, by simp only [execOp, ev_c (ev_rel hH x) hx, ev_c (ev_rel hH y) hy, Sem.run_bind, hr, Result.andThen]; rfl, hg.1, hg.2, ?_⟩
    simp only [AV.rel]
    exact ⟨⟨e, zs.length, ((List.replicate n (zs.map RV.c)).flatten).map .ro⟩, n, by rw [List.getElem?_append_right (Nat.le_refl _), Nat.sub_self]; rfl, by show List.length (List.map _ _) = _; rw [List.length_map, hlen], hz0', .inr ⟨w.heap.size, n, _, upd_eq, rfl, heap_alloc_new w _, Nat.le_refl _, b3, size_madeCells _ _⟩⟩) hk
theorem Runs.shed {E' : Env} {s' more : List Ob} (hsub : Sub E' env) (hσ : σ = s' ++ more) (hf : Free s'.length E') (ho : FreeO s'.length s') (h : Runs P C k R ⟨E', s'⟩) : Runs P C k R ⟨env, σ⟩ := by
  subst hσ
  exact Runs.keep E' hsub (Runs.drop hf ho h)
theorem Runs.loopD {more0 : List Ob} (m : Nat) {c : Code} {k' : List Item} (hc : Proofs.Ytdikinkihnepaaa.ctls m k = .code (.loop c) :: k') (E : Nat → Env) (s : Nat → List Ob) (hf : ∀ j, Free (s j).length (E j) ∧ FreeO (s j).length (s j)) (Q : Nat → Prop) (len : Nat) (j0 : Nat) (hj0 : j0 ≤ len) (h0 : Q j0) (henv : Sub (E j0) env) (hs : s j0 ++ more0 = σ)
    (round : ∀ j, j ≤ len → Q j → (∀ env' σ' more, Sub (E (j + 1)) env' → j < len → Q (j + 1) → s (j + 1) ++ more = σ' → Runs P C (.inLoop c :: k') R ⟨env', σ'⟩) → Runs P C (.code c :: .inLoop c :: k') R ⟨E j, s j⟩) :
    Runs P C k R ⟨env, σ⟩ := by
  refine Runs.ctls m hc ?_
  refine Runs.shed henv hs.symm (hf j0).1 (hf j0).2 ?_
  refine Runs.loop (fun n S => ∃ j, j + n = len ∧ Q j ∧ S = ⟨E j, s j⟩) (fun n S hI ih => ?_) (len - j0) ⟨j0, by omega, h0, rfl⟩
  obtain ⟨j, hj, hQ, rfl⟩ := hI
  refine round j (by omega) hQ fun env' σ' more hsub hlt hQ' hσ => ?_
  exact Runs.shed hsub hσ.symm (hf _).1 (hf _).2 (ih (n - 1) (by omega) _ ⟨j + 1, by omega, hQ', rfl⟩)
theorem Sub.cons_new {e env : Env} {t : Nat} {v : AV} (h : Sub e env) (hn : ∀ x ∈ e, x.1 ≠ t) : Sub e ((t, v) :: env) := by
  induction e with
  | nil => trivial
  | cons p e ih =>
    obtain ⟨s, u⟩ := p
    simp only [Sub] at h ⊢
    exact ⟨by rw [look_put, if_neg (fun he => hn (s, u) (by simp) he.symm)]; exact h.1, ih h.2 fun x hx => hn x (by simp [hx])⟩
def partCells (env : Env) : Nat → List (Nat × Operand) → Option (List (List AV))
  | _, [] => some []
  | n, p :: l => match Nat.beq p.1 n with
    | true => match cells? (ev env p.2) with
      | some c => match partCells env (n + 1) l with
        | some cs => some (c :: cs)
        | none => none
      | none => none
    | false => none
theorem partCells_ok {m : Mem} {a : Act} : ∀ (l : List (Nat × Operand)) (n : Nat) (css : List (List AV)), (∀ p ∈ l, AV.rel m (ev env p.2) (a.eval p.2)) → partCells env n l = some css →
    (l.map fun p => (p.1, a.eval p.2)) = ((l.map fun p => a.eval p.2).zipIdx n).map (fun x => (x.2, x.1)) ∧ css.length = l.length ∧
    ∀ (i : Nat) p c, l[i]? = some p → css[i]? = some c → (a.eval p.2).cells.size = c.length ∧ ∀ (j : Nat) x, c[j]? = some x → ∃ y, (a.eval p.2).cells[j]? = some y ∧ y.oneCell' = true ∧ AV.rel m x y
  | [], n, css, _, h => by simp only [partCells, Option.some.injEq] at h; subst h; simp
  | p :: l, n, css, hH, h => by
    unfold partCells at h
    split at h
    · rename_i hb
      split at h
      · rename_i c hc
        split at h
        · rename_i cs hcs
          injection h with h; subst h
          obtain ⟨h1, h2, h3⟩ := partCells_ok l (n + 1) cs (fun p hp => hH p (by simp [hp])) hcs
          have hn : p.1 = n := Nat.eq_of_beq_eq_true hb
          refine ⟨by simp only [List.map_cons, List.zipIdx_cons, h1, hn], by simp [h2], fun i q d e1 e2 => ?_⟩
          cases i with
          | zero => simp at e1 e2; subst e1; subst e2; exact cells_rel (hH p (by simp)) hc
          | succ i => exact h3 i q d (by simpa using e1) (by simpa using e2)
        · cases h
      · cases h
    · cases h
theorem flatMap_at {α β : Type} {sz : Nat} (f : α → List β) : ∀ (l : List α), (∀ x ∈ l, (f x).length = sz) → ∀ (i j : Nat) x, l[i]? = some x → j < sz → (l.flatMap f)[i * sz + j]? = (f x)[j]?
  | [], _, i, j, x, h, _ => by simp at h
  | y :: l, hl, i, j, x, h, hj => by
    have hy := hl y (by simp)
    rw [List.flatMap_cons]
    cases i with
    | zero => simp at h; subst h; rw [Nat.zero_mul, Nat.zero_add, List.getElem?_append_left (by omega)]
    | succ i =>
      rw [List.getElem?_append_right (by rw [Nat.succ_mul]; omega), hy, show (i + 1) * sz + j - sz = i * sz + j by rw [Nat.succ_mul]; omega]
      exact flatMap_at f l (fun x hx => hl x (by simp [hx])) i j x (by simpa using h) hj
theorem built {tt e : TypeId} {z : Value} {sz bytes len : Nat} {parts : Array (Nat × Operand)} {css : List (List AV)} [hs : SL P tt e z sz bytes] {m : Mem} {a : Act} (hH : ∀ p ∈ parts.toList, AV.rel m (ev env p.2) (a.eval p.2)) (hp : partCells env 0 parts.toList = some css)
    (hl : css.length = len) (hsz : ∀ c ∈ css, c.length = sz) (hpos : 0 < len * sz) (hsm : len * sz ≤ 16777216) :
    ∃ us : Array Value, (Instr.buildSlice tt len (parts.map fun p => (p.1, a.eval p.2))).run P m.w = .ok (slv m.w.heap.size len len) (m.w.alloc (.cells us e)) ∧ us.size = len * sz ∧
      ∀ (j : Nat) v, css.flatten[j]? = some v → ∃ u, us[j]? = some u ∧ u.oneCell' = true ∧ AV.rel m v u := by
  obtain ⟨h1, h2, h3⟩ := partCells_ok parts.toList 0 css hH hp
  obtain ⟨i, hi, hz0, hsz', hb⟩ := hs.el.hi
  have hs0 : 0 < sz := Nat.pos_of_mul_pos_left hpos
  let vs := parts.toList.map fun p => a.eval p.2
  have hvl : vs.length = len := by simp [vs, ← hl, h2]
  have hvat : ∀ (i : Nat) v, vs[i]? = some v → ∃ p c, parts.toList[i]? = some p ∧ css[i]? = some c ∧ v = a.eval p.2 := fun i v hv => by
    simp only [vs, List.getElem?_map, Option.map_eq_some_iff] at hv
    obtain ⟨p, hp', rfl⟩ := hv
    have hil : i < css.length := by rw [h2]; exact (List.getElem?_eq_some_iff.1 hp').1
    exact ⟨p, css[i], hp', List.getElem?_eq_getElem hil, rfl⟩
  have hcs : ∀ v ∈ vs, v.cells.size = sz := fun v hv => by
    obtain ⟨i, hi', rfl⟩ := List.getElem_of_mem hv
    obtain ⟨p, c, e1, e2, e3⟩ := hvat i _ (List.getElem?_eq_getElem hi')
    rw [e3, (h3 i p c e1 e2).1]
    exact hsz c (List.mem_of_getElem? e2)
  refine ⟨(vs.flatMap fun v => v.cells.toList).toArray, ?_, ?_, fun j v hj => ?_⟩
  · refine run_buildSlice m.w tt e len _ _ i z hs.el.ht hi hz0 (by rw [hsz']; omega) (by rw [hsz']; omega) ?_
    rw [Array.toList_map, h1, hsz']
    exact Great.fill_whole hs0 vs _ hcs (by simp [hvl])
  · rw [List.size_toArray, List.length_flatMap]
    have : ∀ l : List Value, (∀ v ∈ l, v.cells.size = sz) → (l.map fun v => v.cells.toList.length).sum = l.length * sz := by
      intro l hl'
      induction l with
      | nil => simp
      | cons v l ih => rw [List.map_cons, List.sum_cons, ih (fun v hv => hl' v (by simp [hv])), Array.length_toList, hl' v (by simp), List.length_cons, Nat.succ_mul, Nat.add_comm]
    rw [this vs hcs, hvl]
  · have hjl : j < css.length * sz := by rw [← flatten_len hsz]; exact (List.getElem?_eq_some_iff.1 hj).1
    have hq : j / sz < css.length := Nat.div_lt_of_lt_mul (by rwa [Nat.mul_comm])
    have hr : j % sz < sz := Nat.mod_lt _ hs0
    have hjj : j = (j / sz) * sz + j % sz := by rw [Nat.mul_comm]; exact (Nat.div_add_mod j sz).symm
    have hvq : j / sz < vs.length := by rw [hvl, ← hl]; exact hq
    obtain ⟨p, c, e1, e2, e3⟩ := hvat (j / sz) _ (List.getElem?_eq_getElem hvq)
    obtain ⟨k1, k2⟩ := h3 _ p c e1 e2
    have hcv : c[j % sz]? = some v := by
      have := flatMap_at (fun x : List AV => x) css hsz (j / sz) (j % sz) c e2 hr
      rw [← this, ← hjj, ← hj]; simp [List.flatMap]
    obtain ⟨y, y1, y2, y3⟩ := k2 _ v hcv
    refine ⟨y, ?_, y2, y3⟩
    rw [List.getElem?_toArray, hjj, flatMap_at (fun v : Value => v.cells.toList) vs (by simpa using hcs) (j / sz) (j % sz) _ (List.getElem?_eq_getElem hvq) hr, e3, Array.getElem?_toList, y1]
theorem op_build {tt e : TypeId} {z : Value} {sz bytes len : Nat} {parts : Array (Nat × Operand)} {css : List (List AV)} [hs : SL P tt e z sz bytes] (hp : partCells env 0 parts.toList = some css)
    (hl : css.length = len) (hsz : (css.all fun c => Nat.beq c.length sz) = true) (hpos : Nat.ble 1 (len * sz) = true) (hsm : Nat.ble (len * sz) 16777216 = true) (ht : t < C.n) (hk : RunsL P C ops rest k R ⟨(t, .own σ.length) :: env, σ ++ [⟨e, sz, css.flatten⟩]⟩) :
    RunsL P C ops (⟨some t, .buildSlice tt len parts, ty, pos, after, none⟩ :: rest) k R ⟨env, σ⟩ :=
  RunsL.val rfl rfl ht (fun a w φ hG hH => by
    have hsz' : ∀ c ∈ css, c.length = sz := fun c hc => Nat.eq_of_beq_eq_true (List.all_eq_true.1 hsz c hc)
    have h1 := Nat.le_of_ble_eq_true hpos
    have h2 := Nat.le_of_ble_eq_true hsm
    obtain ⟨us, k1, k2, k3⟩ := built (P := P) (tt := tt) (a := a) (m := ⟨w, φ, σ, C.ok⟩) (fun p _ => ev_rel hH p.2) hp hl hsz' h1 h2
    have hcl : css.flatten.length = len * sz := by rw [flatten_len hsz', hl]
    have hg := good_alloc hG us e sz css.flatten (by omega) k3
    have hlen : 0 < sz := Nat.pos_of_mul_pos_left h1
    refine ⟨slv w.heap.size len len, _, _, by simp only [execOp, Sem.run_bind]; rw [k1]; rfl, hg.1, hg.2, ?_⟩
    simp only [AV.rel]
    have hml : len ≤ maxLen := by have : len * 1 ≤ len * sz := Nat.mul_le_mul_left _ hlen; simp [maxLen]; omega
    exact ⟨⟨e, sz, css.flatten⟩, len, by rw [List.getElem?_append_right (Nat.le_refl _), Nat.sub_self]; rfl, hcl, hlen, .inr ⟨w.heap.size, len, _, upd_eq, rfl, heap_alloc_new w _, Nat.le_refl _, hml, k2⟩⟩) hk
def roList : List AV → Option (List RV)
  | [] => some []
  | .ro r :: l => match roList l with
    | some rs => some (r :: rs)
    | none => none
  | _ :: _ => none
theorem roList_eq : ∀ (l : List AV) (rs : List RV), roList l = some rs → l = rs.map .ro
  | [], rs, h => by simp only [roList, Option.some.injEq] at h; subst h; rfl
  | .ro r :: l, rs, h => by
    unfold roList at h
    split at h
    · rename_i rs' h'
      injection h with h; subst h
      rw [roList_eq l rs' h']; rfl
    · cases h
  | .obj _ _ :: l, rs, h => by cases h
  | .own _ :: l, rs, h => by cases h
  | .agg _ :: l, rs, h => by cases h
  | .tup _ :: l, rs, h => by cases h
  | .fn _ _ _ :: l, rs, h => by cases h
  | .junk :: l, rs, h => by cases h
def roLists : List (List AV) → Option (List (List RV))
  | [] => some []
  | l :: ls => match roList l with
    | some r => match roLists ls with
      | some rs => some (r :: rs)
      | none => none
    | none => none
theorem roLists_eq : ∀ (l : List (List AV)) (rs : List (List RV)), roLists l = some rs → l = rs.map (·.map .ro)
  | [], rs, h => by simp only [roLists, Option.some.injEq] at h; subst h; rfl
  | l :: ls, rs, h => by
    unfold roLists at h
    split at h
    · rename_i r hr
      split at h
      · rename_i rs' h'
        injection h with h; subst h
        rw [roList_eq l r hr, roLists_eq ls rs' h']; rfl
      · cases h
    · cases h
theorem pu_build {tt e : TypeId} {z : Value} {sz bytes len : Nat} {parts : Array (Nat × Operand)} {css : List (List AV)} {els : List (List RV)} [hs : SL P tt e z sz bytes] (hp : partCells env 0 parts.toList = some css) (hr : roLists css = some els)
    (hl : css.length = len) (hsz : (css.all fun c => Nat.beq c.length sz) = true) (hpos : Nat.ble 1 (len * sz) = true) (hsm : Nat.ble (len * sz) 16777216 = true) :
    Pur P C ⟨some t, .buildSlice tt len parts, ty, pos, after, gd⟩ env σ (.ro (.seq sz els)) := by
  refine ⟨fun a m hG hσ hH K Q hK => ?_⟩
  have hsz' : ∀ c ∈ css, c.length = sz := fun c hc => Nat.eq_of_beq_eq_true (List.all_eq_true.1 hsz c hc)
  have h1 := Nat.le_of_ble_eq_true hpos
  have h2 := Nat.le_of_ble_eq_true hsm
  obtain ⟨w, φ, σ', ok⟩ := m
  have hok : ok = C.ok := hG.ok0
  subst hok
  subst hσ
  have hcss := roLists_eq _ _ hr
  obtain ⟨us, k1, k2, k3⟩ := built (P := P) (tt := tt) (a := a) (m := ⟨w, φ, σ', C.ok⟩) (fun p hp' => hH p.2 (by simp only [Op.operands, List.mem_map, List.mem_toArray, Array.mem_def]; exact ⟨p, hp', rfl⟩)) hp hl hsz' h1 h2
  have he : (execOp a.eval ⟨some t, .buildSlice tt len parts, ty, pos, after, gd⟩).run P w = .ok (.value (slv w.heap.size len len)) (w.alloc (.cells us e)) := by simp only [execOp, Sem.run_bind]; rw [k1]; rfl
  have hlen : 0 < sz := Nat.pos_of_mul_pos_left h1
  have hml : len ≤ maxLen := by have : len * 1 ≤ len * sz := Nat.mul_le_mul_left _ hlen; simp [maxLen]; omega
  unfold Oper.wp
  rw [he]
  simp only [Oper.upon]
  have hbl := below_one w (.cells us e)
  have hle : els.length = len := by rw [← hl, hcss, List.length_map]
  refine hK _ _ hbl ?_
  simp only [AV.rel, RV.rel]
  refine ⟨some ⟨w.heap.size, 0, none⟩, len, len, rfl, hle.symm, Nat.le_refl _, hml, fun _ => ⟨w.heap.size, 0, rfl, (Array.getElem?_eq_some_iff.1 (heap_alloc_new w _)).1, ok_args hG _ (Nat.le_refl _), ?_⟩⟩
  have hel : ∀ x ∈ els, x.length = sz := fun x hx => by
    have := hsz' (x.map .ro) (by rw [hcss]; exact List.mem_map.2 ⟨x, hx, rfl⟩)
    simpa using this
  refine RV.relE_of _ _ _ fun k e' hk => ⟨hel e' (List.mem_of_getElem? hk), RV.relAt_of _ _ fun j r hj => ?_⟩
  have hjl : j < sz := by have := (List.getElem?_eq_some_iff.1 hj).1; rwa [hel e' (List.mem_of_getElem? hk)] at this
  have hcat := flatten_at hsz' k j (e'.map .ro) (by rw [hcss, List.getElem?_map, hk]; rfl) hjl
  rw [List.getElem?_map, hj] at hcat
  obtain ⟨u, u1, u2, u3⟩ := k3 _ _ hcat
  simp only [AV.rel] at u3
  refine ⟨u, by rw [cell_of_row _ _ _ us _ _ (heap_alloc_new w _), Nat.zero_add]; exact u1, u2, RV.rel_mono ⟨hbl.size, fun b hb ho => ⟨ho, hbl.block b hb⟩⟩ r u u3⟩
theorem pu_loadN_eq {tt : TypeId} {x : Operand} {cs cs' : List RV} {n : Nat} [TN P tt n] (hx : ev env x = .ro (.rp cs)) (he : cs = cs') (hn : cs'.length = n) : Pur P C ⟨some t, .load tt x, ty, pos, after, gd⟩ env σ (.ro (.agg cs')) := by
  subst he
  exact pu_loadN_ro hx hn
theorem agg_flat {m : Mem} : ∀ (vs : List Value) (us : List Value), RV.rels m.w m.ok (vs.map .c) us → us = vs
  | [], us, h => by simpa [RV.rels] using h
  | v :: vs, us, h => by
    simp only [List.map_cons, RV.rels] at h
    obtain ⟨u, us', rfl, h1, h2⟩ := h
    simp only [RV.rel] at h1
    rw [h1, agg_flat vs us' h2]
theorem pu_binA {op : BinOp} {xt yt : TypeId} {x y : Operand} {vx vy : List Value} {vz : Value} (hx : ev env x = .ro (.agg (vx.map .c))) (hy : ev env y = .ro (.agg (vy.map .c)))
    (hr : ∀ w, ((do eqGuard op xt x y (.agg vx.toArray) (.agg vy.toArray); binOp op xt (.agg vx.toArray) (.agg vy.toArray) : Sem Value)).run P w = .ok vz w) : Pur P C ⟨some t, .binOp op xt x y yt, ty, pos, after, gd⟩ env σ (.ro (.c vz)) :=
  Pur.of (fun a m hG hσ hH => by
    refine ⟨vz, ?_, by simp [AV.rel, RV.rel]⟩
    have key : ∀ {x : Operand} {vs : List Value}, AV.rel m (ev env x) (a.eval x) → ev env x = .ro (.agg (vs.map .c)) → a.eval x = .agg vs.toArray := by
      intro x vs h hx
      rw [hx] at h
      simp only [AV.rel, RV.rel] at h
      obtain ⟨us, e, h⟩ := h
      rw [e]
      have := agg_flat vs _ h
      rw [← this]
    have h := hr m.w
    simp only [Sem.run_bind] at h
    simp only [execOp, key (hH x (by simp [Op.operands])) hx, key (hH y (by simp [Op.operands])) hy, Sem.run_bind, Sem.run_pure]
    generalize Sem.run P (eqGuard op xt x y (.agg vx.toArray) (.agg vy.toArray)) m.w = r at h ⊢
    cases r with
    | ok a' w' => simp only [Result.andThen] at h ⊢; rw [h]
    | halt h' w' => simp [Result.andThen] at h)
end
end Go.Proofs.Ytdikinkihnepaaa
/- The arguments of a law, opened to data; data of plain types, by its parts. Over any program. -/
namespace Go.Proofs.Ytdikinkihnepaaa
set_option linter.unusedSimpArgs false
set_option linter.unusedVariables false
open Go.RowKit Go.ChangeShapes Go.WideShapes
section
variable {H : Type} {enc : TypeId × Value → H} {P : Program} {w : World} {base : Nat} {spare : Nat → Bool} {held : Bool} {T : List Nat} {r : Reach} {b0 : Nat} {t e : TypeId} {v : Value} {d : DataW H} {p : List MemPlace}
theorem open_cell (hT : (T.all (typB P T)) = true) (ht : nmem T t = true) (hc : v.cells.toList = [v]) (h : DataW.Trod enc P w base spare held t v d p) : ∃ r, TyC P t [r] ∧ RV.Rels w [r] [v] := by
  obtain ⟨rcs', h1, h2, _⟩ := open_arg hT ht h
  rw [hc] at h2
  match rcs', h2 with
  | [], h2 => simp [RV.Rels, RV.rels] at h2
  | [r], h2 => exact ⟨r, h1, h2⟩
  | _ :: _ :: _, h2 => simp [RV.Rels, RV.rels] at h2; obtain ⟨_, _, ⟨_, rfl⟩, _, _, _, h, _⟩ := h2; cases h
theorem open_agg {fs : Array Field} (hT : (T.all (typB P T)) = true) (ht : nmem T t = true) (hu : P.underlying t = some (.struct fs)) (hv : Value.okWide P w r b0 t v) (h : DataW.Trod enc P w base spare held t v d p) : ∃ rcs, TyC P t rcs ∧ RV.Rels w [.agg rcs] [v] := by
  obtain ⟨cs, rfl, _⟩ := okWide_struct hu hv
  obtain ⟨rcs, h1, h2, _⟩ := open_arg hT ht h
  exact ⟨rcs, h1, by simp only [RV.Rels, RV.rels]; exact ⟨_, [], rfl, by simp only [RV.rel]; exact ⟨cs, rfl, by simpa [Value.cells] using h2⟩, rfl⟩⟩
theorem open_int1 {k : IntKind} (hT : (T.all (typB P T)) = true) (ht : nmem T t = true) (hu : P.underlying t = some (.int k)) (hv : Value.okWide P w r b0 t v) (h : DataW.Trod enc P w base spare held t v d p) : ∃ n, RV.Rels w [.c (.int k n)] [v] ∧ (Lit.int k n).wf = true := by
  obtain ⟨n, rfl⟩ := okWide_int hu hv
  obtain ⟨r, h1, h2⟩ := open_cell hT ht (by rfl) h
  obtain ⟨m, e, hw⟩ := h1.inv_int hu
  injection e with e; subst e
  exact ⟨m, h2, hw⟩
theorem open_bool1 (hT : (T.all (typB P T)) = true) (ht : nmem T t = true) (hu : P.underlying t = some .bool) (hv : Value.okWide P w r b0 t v) (h : DataW.Trod enc P w base spare held t v d p) : ∃ b, RV.Rels w [.bool b] [v] := by
  obtain ⟨n, rfl⟩ := okWide_bool hu hv
  obtain ⟨r, h1, h2⟩ := open_cell hT ht (by rfl) h
  obtain ⟨m, e⟩ := h1.inv_bool hu
  injection e with e; subst e
  exact ⟨m, h2⟩
theorem open_str1 (hT : (T.all (typB P T)) = true) (ht : nmem T t = true) (hu : P.underlying t = some .string) (hv : Value.okWide P w r b0 t v) (h : DataW.Trod enc P w base spare held t v d p) : ∃ s, RV.Rels w [.str s] [v] ∧ s.size ≤ maxLen := by
  obtain ⟨n, rfl⟩ := okWide_string hu hv
  obtain ⟨r, h1, h2⟩ := open_cell hT ht (by rfl) h
  obtain ⟨m, e, hw⟩ := h1.inv_str hu
  injection e with e; subst e
  exact ⟨m, h2, hw⟩
theorem open_slice1 (hT : (T.all (typB P T)) = true) (ht : nmem T t = true) (hu : P.underlying t = some (.slice e)) (hv : Value.okWide P w r b0 t v) (h : DataW.Trod enc P w base spare held t v d p) : ∃ r, TyC P t [r] ∧ RV.Rels w [r] [v] := by
  obtain ⟨a, n, c, rfl⟩ := okWide_slice hu hv
  exact open_cell hT ht (by rfl) h
end
section
variable {P : Program} {t e : TypeId} {rcs : List RV} {r : RV}
def TyCs (P : Program) : List TypeId → List (List RV) → Prop
  | [], cs => cs = []
  | t :: ts, cs => ∃ c cs', cs = c :: cs' ∧ TyC P t c ∧ TyCs P ts cs'
theorem TyCs.of : ∀ (fs : List Field) (cells : List (List RV)), cells.length = fs.length → (∀ (j : Nat) f c, fs[j]? = some f → cells[j]? = some c → TyC P f.type c) → TyCs P (fs.map (·.type)) cells
  | [], cells, hl, _ => by simpa [TyCs] using List.eq_nil_of_length_eq_zero hl
  | f :: fs, [], hl, _ => by simp at hl
  | f :: fs, c :: cs, hl, h => by
    simp only [List.map_cons, TyCs]
    exact ⟨c, cs, rfl, h 0 f c rfl rfl, TyCs.of fs cs (by simpa using hl) fun j f' c' e1 e2 => h (j + 1) f' c' (by simpa using e1) (by simpa using e2)⟩
theorem TyC.parts {fs : Array Field} (h : TyC P t rcs) (hu : P.underlying t = some (.struct fs)) : ∃ cells : List (List RV), rcs = cells.flatten ∧ TyCs P (fs.toList.map (·.type)) cells := by
  obtain ⟨cells, h1, h2, h3⟩ := h.inv_struct hu
  exact ⟨cells, h1, TyCs.of fs.toList cells (by simpa using h2) fun j f c e1 e2 => h3 j f c (by simpa using e1) e2⟩
theorem TyC.i64 (h : TyC P t rcs) (hu : P.underlying t = some (.int .i64)) : ∃ n, rcs = [.int n] ∧ I64 n := by
  obtain ⟨n, e, hw⟩ := h.inv_int hu
  exact ⟨n, e, bounds_i64 hw⟩
theorem TyC.byte (h : TyC P t rcs) (hu : P.underlying t = some (.int .u8)) : ∃ c : UInt8, rcs = [.u8 c] := by
  obtain ⟨n, e, hw⟩ := h.inv_int hu
  obtain ⟨c, rfl⟩ := u8_of_wf hw
  exact ⟨c, e⟩
theorem TyC.ints (h : TyC P t rcs) (hu : P.underlying t = some (.slice e)) (he : P.underlying e = some (.int .i64)) (hc : P.cellsOf e = 1) : ∃ l : List Int, rcs = [intsR l] ∧ l.length ≤ maxLen ∧ ∀ z ∈ l, I64 z := by
  obtain ⟨els, rfl, hl, hels⟩ := h.inv_slice hu
  obtain ⟨l, rfl, hq⟩ := els_of (f := fun z : Int => [RV.int z]) (Q := I64) fun el hel => (hels el hel).i64 he
  exact ⟨l, by rw [hc]; rfl, by simpa using hl, hq⟩
theorem TyC.bytes (h : TyC P t rcs) (hu : P.underlying t = some (.slice e)) (he : P.underlying e = some (.int .u8)) (hc : P.cellsOf e = 1) : ∃ l : List UInt8, rcs = [bytesR l] ∧ l.length ≤ maxLen := by
  obtain ⟨els, rfl, hl, hels⟩ := h.inv_slice hu
  obtain ⟨l, rfl, _⟩ := els_of (f := fun z : UInt8 => [RV.u8 z]) (Q := fun _ => True) fun el hel => (by obtain ⟨c, e⟩ := (hels el hel).byte he; exact ⟨c, e, trivial⟩)
  exact ⟨l, by rw [hc]; rfl, by simpa using hl⟩
theorem TyC.strs (h : TyC P t rcs) (hu : P.underlying t = some (.slice e)) (he : P.underlying e = some .string) (hc : P.cellsOf e = 1) : ∃ l : List ByteArray, rcs = [strsR l] ∧ l.length ≤ maxLen ∧ ∀ s ∈ l, s.size ≤ maxLen := by
  obtain ⟨els, rfl, hl, hels⟩ := h.inv_slice hu
  obtain ⟨l, rfl, hq⟩ := els_of (f := fun s : ByteArray => [RV.str s]) (Q := fun s => s.size ≤ maxLen) fun el hel => (hels el hel).inv_str he
  exact ⟨l, by rw [hc]; rfl, by simpa using hl, hq⟩
end
theorem cons_rels {w : World} {r : RV} {rs : List RV} {u : Value} {us : List Value} (h : RV.Rels w [r] [u]) (hs : RV.Rels w rs us) : RV.Rels w (r :: rs) (u :: us) := by
  simp only [RV.Rels, RV.rels] at h hs ⊢
  obtain ⟨u', us', e, h1, rfl⟩ := h
  injection e with e1 e2; subst e1
  exact ⟨u, us, rfl, h1, hs⟩
theorem nil_rels {w : World} : RV.Rels w [] [] := by simp [RV.Rels, RV.rels]
end Go.Proofs.Ytdikinkihnepaaa
/- Slice expressions on data. Over any program. -/
namespace Go.Proofs.Ytdikinkihnepaaa
set_option linter.unusedSimpArgs false
set_option linter.unusedVariables false
open Go.RowKit
open AV (Mem Keeps)
theorem rel_sliced {w : World} {ok : Nat → Prop} {A : Option Addr} {n c sz l h : Nat} {els : List (List RV)} (hr : RV.rel w ok (.seq sz els) (.slice A n c)) (hl : l ≤ h) (hh : h ≤ els.length) : RV.rel w ok (.seq sz ((els.take h).drop l)) (sliced A l h c sz) := by
  simp only [RV.rel] at hr ⊢
  obtain ⟨A', n', c', e, hn, h1, h2, h3⟩ := hr
  injection e with e1 e2 e3; subst e1; subst e2; subst e3
  refine ⟨_, h - l, c - l, rfl, by rw [List.length_drop, List.length_take]; omega, by omega, by omega, fun h0 => ?_⟩
  obtain ⟨b, o, rfl, hb, hok, hE⟩ := h3 (by omega)
  rw [if_neg (by omega)]
  refine ⟨b, o + l * sz, by simp [Addr.add_lit], hb, hok, RV.relE_of _ _ _ fun k e hk => ?_⟩
  rw [List.getElem?_drop, List.getElem?_take] at hk
  split at hk
  · have := RV.relE_at _ o sz hE (l + k) e hk
    rwa [Nat.add_mul, ← Nat.add_assoc] at this
  · cases hk
section
variable {P : Program} {C : Ctx} {env : Env} {σ : List Ob} {t : Nat} {ty : TypeId} {pos : String} {after : Array Edge} {gd : Option (Nat × Bool)}
variable {tt e : TypeId} {z : Value} {sz bytes : Nat} {x y y' : Operand} {kd kd' : IntKind} {p q : Int} {els : List (List RV)} {α : Type} {l : List α} {f : α → List RV}
theorem SL.under [hs : SL P tt e z sz bytes] : P.underlying tt = some (.slice (P.elem tt)) := by
  have h := hs.el.ht
  have : P.elem tt = e := by simp [Program.elem, h]
  rw [this]; exact h
theorem SL.size [hs : SL P tt e z sz bytes] (w : World) : (sizeOf (P.elem tt)).run P w = .ok sz w := by
  have h := hs.el.ht
  have he : P.elem tt = e := by simp [Program.elem, h]
  obtain ⟨i, i1, i2, i3, i4⟩ := hs.el.hi
  simp [he, sizeOf, typeInfo, i1, i3]
theorem pu_slice_h [hs : SL P tt e z sz bytes] (hx : ev env x = .ro (.seq sz els)) (hy : ev env y = .ro (.c (.int kd p))) (h0 : 0 ≤ p) (h1 : p ≤ els.length) : Pur P C ⟨some t, .slice tt x none (some y) none, ty, pos, after, gd⟩ env σ (.ro (.seq sz (els.take p.toNat))) :=
  Pur.of (fun a m hG hσ hH => by
    have h := hH x (by simp [Op.operands])
    rw [hx] at h
    simp only [AV.rel] at h
    have h' := h
    simp only [RV.rel] at h'
    obtain ⟨A, n, c, ea, hn, k1, k2, _⟩ := h'
    rw [ea] at h
    have hr := rel_sliced h (Nat.zero_le p.toNat) (by omega)
    refine ⟨sliced A 0 p.toNat c sz, ?_, by simpa only [AV.rel, List.drop_zero] using hr⟩
    simp only [execOp, Option.map_some, Option.map_none, ev_c (hH _ (by simp [Op.operands])) hy, ea, Sem.run_bind, run_sliceAt_slice m.w tt _ _ _ _ SL.under, run_slice_h m.w tt A n c SL.under kd p h0 (by omega), SL.size, Result.andThen_ok]
    rfl)
theorem pu_slice_l [hs : SL P tt e z sz bytes] (hx : ev env x = .ro (.seq sz els)) (hy : ev env y = .ro (.c (.int kd p))) (h0 : 0 ≤ p) (h1 : p ≤ els.length) : Pur P C ⟨some t, .slice tt x (some y) none none, ty, pos, after, gd⟩ env σ (.ro (.seq sz (els.drop p.toNat))) :=
  Pur.of (fun a m hG hσ hH => by
    have h := hH x (by simp [Op.operands])
    rw [hx] at h
    simp only [AV.rel] at h
    have h' := h
    simp only [RV.rel] at h'
    obtain ⟨A, n, c, ea, hn, k1, k2, _⟩ := h'
    rw [ea] at h
    have hr := rel_sliced h (show p.toNat ≤ n by omega) (by omega)
    rw [hn, List.take_length, ← hn] at hr
    refine ⟨sliced A p.toNat n c sz, ?_, by simpa only [AV.rel] using hr⟩
    simp only [execOp, Option.map_some, Option.map_none, ev_c (hH _ (by simp [Op.operands])) hy, ea, Sem.run_bind, run_sliceAt_slice m.w tt _ _ _ _ SL.under, run_slice_l m.w tt A n c SL.under kd p h0 (by omega), SL.size, Result.andThen_ok]
    rfl)
theorem pu_slice_lh [hs : SL P tt e z sz bytes] (hx : ev env x = .ro (.seq sz els)) (hy : ev env y = .ro (.c (.int kd p))) (hy' : ev env y' = .ro (.c (.int kd' q))) (h0 : 0 ≤ p) (h1 : p ≤ q) (h2 : q ≤ els.length) : Pur P C ⟨some t, .slice tt x (some y) (some y') none, ty, pos, after, gd⟩ env σ (.ro (.seq sz ((els.take q.toNat).drop p.toNat))) :=
  Pur.of (fun a m hG hσ hH => by
    have h := hH x (by simp [Op.operands])
    rw [hx] at h
    simp only [AV.rel] at h
    have h' := h
    simp only [RV.rel] at h'
    obtain ⟨A, n, c, ea, hn, k1, k2, _⟩ := h'
    rw [ea] at h
    have hr := rel_sliced h (show p.toNat ≤ q.toNat by omega) (by omega)
    refine ⟨sliced A p.toNat q.toNat c sz, ?_, by simpa only [AV.rel] using hr⟩
    simp only [execOp, Option.map_some, Option.map_none, ev_c (hH _ (by simp [Op.operands])) hy, ev_c (hH _ (by simp [Op.operands])) hy', ea, Sem.run_bind, run_sliceAt_slice m.w tt _ _ _ _ SL.under, run_slice_lh m.w tt A n c SL.under kd kd' p q h0 h1 (by omega), SL.size, Result.andThen_ok]
    rfl)
theorem pu_slice_hM [hs : SL P tt e z sz bytes] (hx : ev env x = .ro (.seq sz (l.map f))) (hy : ev env y = .ro (.c (.int kd p))) (h0 : 0 ≤ p) (h1 : p ≤ l.length) : Pur P C ⟨some t, .slice tt x none (some y) none, ty, pos, after, gd⟩ env σ (.ro (.seq sz ((l.take p.toNat).map f))) := by
  have h := pu_slice_h (P := P) (tt := tt) (C := C) (σ := σ) (t := t) (ty := ty) (pos := pos) (after := after) (gd := gd) hx hy h0 (by simpa using h1)
  rwa [← List.map_take] at h
theorem pu_slice_lM [hs : SL P tt e z sz bytes] (hx : ev env x = .ro (.seq sz (l.map f))) (hy : ev env y = .ro (.c (.int kd p))) (h0 : 0 ≤ p) (h1 : p ≤ l.length) : Pur P C ⟨some t, .slice tt x (some y) none none, ty, pos, after, gd⟩ env σ (.ro (.seq sz ((l.drop p.toNat).map f))) := by
  have h := pu_slice_l (P := P) (tt := tt) (C := C) (σ := σ) (t := t) (ty := ty) (pos := pos) (after := after) (gd := gd) hx hy h0 (by simpa using h1)
  rwa [← List.map_drop] at h
end
end Go.Proofs.Ytdikinkihnepaaa
/- The context of a walk may change under way: rebasing; loops over changing contexts; iteration over a string. Over any program. -/
namespace Go.Proofs.Ytdikinkihnepaaa
set_option linter.unusedSimpArgs false
set_option linter.unusedVariables false
open Go.RowKit
open AV (Mem Keeps)
section
variable {P : Program} {k : List Item} {R : Act → World → Prop}
def mine (φ : Nat → Option Nat) (n : Nat) (b : Nat) : Prop := ∃ i, i < n ∧ φ i = some b
theorem good_rebase {C : Ctx} {w : World} {φ : Nat → Option Nat} {σ : List Ob} (hG : Good C ⟨w, φ, σ, C.ok⟩) : Good ⟨w, C.ok, mine φ σ.length, C.n⟩ ⟨w, φ, σ, C.ok⟩ :=
  ⟨rfl, hG.inj, hG.ob, fun i g hi hg => .inl ⟨i, hi, hg⟩, ⟨rfl, rfl, rfl, Nat.le_refl _, fun _ _ _ => rfl, fun b hb => hG.frm.new b (Nat.le_trans hG.frm.size hb)⟩⟩
theorem Runs.loopV {c : Code} (I : Nat → Ctx → St → Prop)
    (h : ∀ n C S, I n C S → (∀ m, m < n → ∀ C' S', I m C' S' → Runs P C' (.inLoop c :: k) R S') → Runs P C (.code c :: .inLoop c :: k) R S) (n : Nat) (C : Ctx) (S : St) (h0 : I n C S) : Runs P C (.code (.loop c) :: k) R S := by
  have key : ∀ n C S, I n C S → Runs P C (.code c :: .inLoop c :: k) R S := by
    intro n
    induction n using Nat.strongRecOn with
    | _ n ih => exact fun C S hS => h n C S hS fun m hm C' S' hS' => ⟨fun a w hs => ((ih m hm C' S' hS').run a w hs).step fun _ _ => step_inLoop⟩
  exact ⟨fun a w hs => ((key n C S h0).run a w hs).step fun _ _ => step_loop⟩
def cst : AV → Bool
  | .ro (.c _) | .junk => true
  | .ro (.tup vs) => vs.all fun r => match r with | .c _ => true | _ => false
  | _ => false
def CEnv : Env → Prop
  | [] => True
  | (_, v) :: e => cst v = true ∧ CEnv e
theorem rels_cst {w w' : World} {ok ok' : Nat → Prop} : ∀ (vs : List RV) (us : List Value), (vs.all fun r => match r with | .c _ => true | _ => false) = true → RV.rels w ok vs us → RV.rels w' ok' vs us
  | [], us, _, h => by simpa [RV.rels] using h
  | r :: vs, us, hc, h => by
    rw [List.all_cons, Bool.and_eq_true] at hc
    simp only [RV.rels] at h ⊢
    obtain ⟨u, us', e, h1, h2⟩ := h
    refine ⟨u, us', e, ?_, rels_cst vs us' hc.2 h2⟩
    cases r <;> simp at hc
    simpa only [RV.rel] using h1
theorem cst_rel {m m' : Mem} {v : AV} {u : Value} (hc : cst v = true) (h : AV.rel m v u) : AV.rel m' v u := by
  cases v with
  | ro r =>
    cases r <;> simp only [cst, Bool.false_eq_true] at hc <;> simp only [AV.rel, RV.rel] at h ⊢
    · exact h
    · obtain ⟨us, e, h1⟩ := h
      exact ⟨us, e, rels_cst _ _ hc h1⟩
  | junk => simp [AV.rel]
  | _ => simp [cst] at hc
theorem CEnv.look {env : Env} (h : CEnv env) (t : Nat) : cst (look env t) = true := by
  induction env with
  | nil => rfl
  | cons p e ih =>
    obtain ⟨s, v⟩ := p
    simp only [CEnv] at h
    rw [look_put]
    split
    · exact h.1
    · exact ih h.2
theorem CEnv.holds {m m' : Mem} {env : Env} {a : Act} (h : CEnv env) (hH : Holds m env a) : Holds m' env a := fun t => cst_rel (h.look t) (hH t)
theorem sim_cst {C C' : Ctx} {env : Env} {a : Act} {w w' : World} (h : CEnv env) (hs : Sim C ⟨env, []⟩ a w) (hn : C'.n = C.n) (hf : Frm C' w') : Sim C' ⟨env, []⟩ a w' := by
  obtain ⟨h1, h2, φ, hG, hH⟩ := hs
  exact ⟨h1, h2.trans hn.symm, φ, ⟨rfl, fun i j g hi => by simp at hi, fun i o hi => by simp at hi, fun i g hi => by simp at hi, hf⟩, h.holds hH⟩
theorem decode_high (s : ByteArray) (i : Nat) (h : i < s.size) (hc : 128 ≤ (s[i]'h).toNat) : 128 ≤ (Utf8.decode s i).1 := by
  have e : s.get! (i + 0) = s[i]'h := by
    show s.get! i = _
    simp [ByteArray.get!, getElem!_pos, h]
    rfl
  unfold Utf8.decode
  simp only [e]
  rw [if_neg (by omega)]
  split
  · split
    · assumption
    · decide
  · split
    · split
      · rename_i h1; simp only [Bool.and_eq_true, decide_eq_true_eq] at h1; simp only; omega
      · decide
    · split
      · split
        · rename_i h1; simp only [Bool.and_eq_true, decide_eq_true_eq] at h1; simp only; omega
        · decide
      · decide
section
variable {C : Ctx} {ops : Array Oper} {rest : List Oper} {env : Env} {t : Nat} {ty : TypeId} {pos : String} {after : Array Edge} {x : Operand} {s : ByteArray}
theorem op_rangeS {tt : TypeId} [hs : TS P tt] (hx : ev env x = .str s) (ht : t < C.n) (hce : CEnv env) (hm : ∀ b, ¬ C.mu b)
    (hk : ∀ (C' : Ctx) (g : Nat), C'.n = C.n → (∀ b, ¬ C'.mu b) → C'.w0.heap[g]? = some (.stringIter s 0) → C.w0.heap.size ≤ g → Below C.w0.heap.size C.w0 C'.w0 → RunsL P C' ops rest k R ⟨(t, .ro (.c (.pointer (some ⟨g, 0, none⟩)))) :: env, []⟩) :
    RunsL P C ops (⟨some t, .range tt x, ty, pos, after, none⟩ :: rest) k R ⟨env, []⟩ := by
  refine ⟨fun a w hsim => ?_⟩
  obtain ⟨h1, h2, φ, hG, hH⟩ := hsim
  have hxx := ev_c (ev_rel hH x) hx
  refine wpList_plain rfl fun K hK' => ?_
  unfold Oper.wp
  have hrun : (execOp a.eval ⟨some t, .range tt x, ty, pos, after, none⟩).run P w = .ok (.value (.pointer (some ⟨w.heap.size, 0, none⟩))) (w.iter s 0) := by
    simp [execOp, hxx, run_range_string w tt s hs.h]
  rw [hrun]
  simp only [Oper.upon]
  have hb : Below w.heap.size w (w.iter s 0) := below_one w _
  have hb0 : Below C.w0.heap.size C.w0 (w.iter s 0) := (hG.frm.below0 hm).trans (hb.mono hG.frm.size)
  refine hK' _ _ ((hk ⟨w.iter s 0, C.ok, fun _ => False, C.n⟩ w.heap.size rfl (fun _ h => h) (World.iter_heap w s 0) hG.frm.size hb0).run _ _ ?_)
  refine ⟨h1, by simp [Act.put, h2], φ, ⟨rfl, fun i j g hi => by simp at hi, fun i o hi => by simp at hi, fun i g hi => by simp at hi, ⟨rfl, rfl, rfl, Nat.le_refl _, fun _ _ _ => rfl, fun b hbb => hG.frm.new b (Nat.le_trans hG.frm.size (Nat.le_trans hb.size hbb))⟩⟩, ?_⟩
  exact (hce.holds hH).put (by rw [h2]; exact ht) (by simp [AV.rel, RV.rel])
theorem iter_world {w w' : World} {g : Nat} {o : Obj} (hg : w.heap[g]? = some o) (o' : Obj) (hw : w' = { w with heap := w.heap.setIfInBounds g o' }) : Below g w w' ∧ w'.heap[g]? = some o' ∧ w'.heap.size = w.heap.size := by
  subst hw
  have hlt : g < w.heap.size := (Array.getElem?_eq_some_iff.1 hg).1
  refine ⟨⟨rfl, rfl, rfl, by simp, fun b hb => ?_⟩, ?_, by simp⟩
  · show (w.heap.setIfInBounds g o')[b]? = _
    rw [Array.getElem?_setIfInBounds_ne (by omega)]
  · show (w.heap.setIfInBounds g o')[g]? = _
    rw [Array.getElem?_setIfInBounds_self_of_lt hlt]
theorem op_nextS {g p : Nat} (hx : ev env x = .ro (.c (.pointer (some ⟨g, 0, none⟩)))) (hg : C.w0.heap[g]? = some (.stringIter s p)) (hp : p < s.size) (ht : t < C.n) (hce : CEnv env) (hm : ∀ b, ¬ C.mu b)
    (hk : ∀ (C' : Ctx), C'.n = C.n → (∀ b, ¬ C'.mu b) → C'.w0.heap[g]? = some (.stringIter s (p + (Utf8.decode s p).2)) → Below g C.w0 C'.w0 → RunsL P C' ops rest k R ⟨(t, .ro (.tup [.bool true, .int (p : Int), .c (.int .i32 ((Utf8.decode s p).1 : Int))])) :: env, []⟩) :
    RunsL P C ops (⟨some t, .next x true, ty, pos, after, none⟩ :: rest) k R ⟨env, []⟩ := by
  refine ⟨fun a w hsim => ?_⟩
  obtain ⟨h1, h2, φ, hG, hH⟩ := hsim
  have hxx := ev_c (ev_rel hH x) hx
  have hlt : g < C.w0.heap.size := (Array.getElem?_eq_some_iff.1 hg).1
  have hb0 := hG.frm.below0 hm
  have hgw : w.heap[g]? = some (.stringIter s p) := (hb0.block g hlt).trans hg
  refine wpList_plain rfl fun K hK' => ?_
  unfold Oper.wp
  obtain ⟨k1, k2, k3⟩ := iter_world hgw (.stringIter s (p + (Utf8.decode s p).2)) rfl
  have hrun : (execOp a.eval ⟨some t, .next x true, ty, pos, after, none⟩).run P w = .ok (.value (.tuple #[.bool true, .int .i64 p, .int .i32 ((Utf8.decode s p).1 : Int)])) { w with heap := w.heap.setIfInBounds g (.stringIter s (p + (Utf8.decode s p).2)) } := by
    simp [execOp, hxx, Instr.next, getObj, setObj, Sem.run, Result.andThen, hgw, hp, goInt]
  rw [hrun]
  simp only [Oper.upon]
  have hb1 : Below g C.w0 { w with heap := w.heap.setIfInBounds g (.stringIter s (p + (Utf8.decode s p).2)) } := (hb0.mono (Nat.le_of_lt hlt)).trans k1
  refine hK' _ _ ((hk ⟨_, C.ok, fun _ => False, C.n⟩ rfl (fun _ h => h) k2 hb1).run _ _ ?_)
  refine ⟨h1, by simp [Act.put, h2], φ, ⟨rfl, fun i j g hi => by simp at hi, fun i o hi => by simp at hi, fun i g hi => by simp at hi, ⟨rfl, rfl, rfl, Nat.le_refl _, fun _ _ _ => rfl, fun b hbb => hG.frm.new b (Nat.le_trans hb1.size hbb)⟩⟩, ?_⟩
  exact (hce.holds hH).put (by rw [h2]; exact ht) (by simp [AV.rel, RV.rel, RV.rels])
theorem op_nextEnd {g p : Nat} (hx : ev env x = .ro (.c (.pointer (some ⟨g, 0, none⟩)))) (hg : C.w0.heap[g]? = some (.stringIter s p)) (hp : ¬ p < s.size) (ht : t < C.n) (hm : ∀ b, ¬ C.mu b)
    (hk : RunsL P C ops rest k R ⟨(t, .ro (.tup [.bool false])) :: env, []⟩) :
    RunsL P C ops (⟨some t, .next x true, ty, pos, after, none⟩ :: rest) k R ⟨env, []⟩ := by
  refine ⟨fun a w hsim => ?_⟩
  obtain ⟨h1, h2, φ, hG, hH⟩ := hsim
  have hxx := ev_c (ev_rel hH x) hx
  have hlt : g < C.w0.heap.size := (Array.getElem?_eq_some_iff.1 hg).1
  have hgw : w.heap[g]? = some (.stringIter s p) := ((hG.frm.below0 hm).block g hlt).trans hg
  refine wpList_plain rfl fun K hK' => ?_
  unfold Oper.wp
  have hrun : (execOp a.eval ⟨some t, .next x true, ty, pos, after, none⟩).run P w = .ok (.value (.tuple #[.bool false])) w := by
    simp [execOp, hxx, Instr.next, getObj, Sem.run, Result.andThen, hgw, hp]
  rw [hrun]
  simp only [Oper.upon]
  exact hK' _ _ (hk.run _ _ ⟨h1, by simp [Act.put, h2], φ, hG, hH.put (by rw [h2]; exact ht) (by simp [AV.rel, RV.rel, RV.rels])⟩)
end
theorem endsB {C C' : Ctx} {fn : Func} {R0 : RR → Prop} {S : St} {t : Nat} {v : Value} (hB : Below C.w0.heap.size C.w0 C'.w0) (hm : ∀ b, ¬ C'.mu b) (hr : fn.results = #[.tmp t]) (hx : look S.env t = .ro (.c v)) (hR : R0 (.ro (.c v))) : ∀ a w, Sim C' S a w → Ends P C fn R0 a w := by
  intro a w hs
  obtain ⟨h1, v', h2, rr, bs, rfl, h4, h5, h6, h7⟩ := ends_ro (R := fun r => r = .ro (.c v)) hm hr hx rfl a w hs
  simp only [RR.rel, RV.rel] at h4
  obtain ⟨rfl, rfl⟩ := h4
  exact ⟨h1, v', h2, .ro (.c v'), [], hR, by simp [RR.rel, RV.rel], by simp, by simp, hB.trans (h7.mono hB.size)⟩
end
end Go.Proofs.Ytdikinkihnepaaa
/- Arrays of truth values in a frame. Over any program. -/
namespace Go.Proofs.Ytdikinkihnepaaa
set_option linter.unusedSimpArgs false
set_option linter.unusedVariables false
open Go.RowKit
open AV (Mem Keeps)
def bools (n : Nat) (u : Nat → Bool) : List AV := (List.range n).map fun j => .bool (u j)
def boolsR (n : Nat) (u : Nat → Bool) : List RV := (List.range n).map fun j => .bool (u j)
def put1 (u : Nat → Bool) (k : Nat) (b : Bool) : Nat → Bool := fun j => if j = k then b else u j
theorem bools_len (n : Nat) (u : Nat → Bool) : (bools n u).length = n := by simp [bools]
theorem bools_len1 (n : Nat) (u : Nat → Bool) : (bools n u).length = n * 1 := by simp [bools]
theorem boolsR_len (n : Nat) (u : Nat → Bool) : (boolsR n u).length = n := by simp [boolsR]
theorem bools_at {n : Nat} {u : Nat → Bool} {k : Nat} (h : k < n) : (bools n u)[k]? = some (.bool (u k)) := by simp [bools, h]
theorem boolsR_at {n : Nat} {u : Nat → Bool} {k : Nat} (h : k < n) : (boolsR n u)[k]? = some (.bool (u k)) := by simp [boolsR, h]
theorem bools_map (n : Nat) (u : Nat → Bool) : bools n u = (boolsR n u).map .ro := by simp [bools, boolsR]
theorem bools_one (n : Nat) (u : Nat → Bool) : (boolsR n u).all RV.one = true := by
  rw [List.all_eq_true]
  intro x hx
  obtain ⟨j, _, rfl⟩ := List.mem_map.1 hx
  rfl
theorem bools_set {n : Nat} {u : Nat → Bool} {k : Nat} (b : Bool) : (bools n u).set k (.bool b) = bools n (put1 u k b) := by
  apply List.ext_getElem?
  intro j
  rw [List.getElem?_set]
  by_cases hj : j < n
  · rw [bools_at hj, bools_len]
    by_cases e : k = j
    · subst e; rw [if_pos rfl, if_pos hj, bools_at hj]; simp [put1]
    · rw [if_neg e, bools_at hj]
      have : ¬ j = k := fun h => e h.symm
      simp [put1, this]
  · have h1 : (bools n (put1 u k b))[j]? = none := by rw [List.getElem?_eq_none]; rw [bools_len]; omega
    have h2 : (bools n u)[j]? = none := by rw [List.getElem?_eq_none]; rw [bools_len]; omega
    rw [h1, h2]
    split
    · split
      · rename_i h; rw [bools_len] at h; omega
      · rfl
    · rfl
theorem bools_zero (n : Nat) : ((List.replicate n (Value.bool false)).map fun v => AV.ro (.c v)) = bools n fun _ => false := by
  apply List.ext_getElem?
  intro j
  by_cases hj : j < n
  · rw [bools_at hj]; simp [hj]
  · have h1 : (bools n fun _ => false)[j]? = none := by rw [List.getElem?_eq_none]; rw [bools_len]; omega
    rw [h1, List.getElem?_eq_none]; simp; omega
theorem setsAt_nil : ∀ (vs cs : List AV) (off : Nat), off + vs.length = cs.length → setsAt cs off vs = cs.take off ++ vs
  | [], cs, off, h => by simp [setsAt]; rw [List.take_of_length_le]; simp at h; omega
  | v :: vs, cs, off, h => by
    rw [setsAt, setsAt_nil vs _ (off + 1) (by simp at h ⊢; omega)]
    have hlt : off < cs.length := by simp at h; omega
    rw [List.take_succ_eq_append_getElem (by simpa using hlt), List.take_set_of_le (Nat.le_refl _)]
    simp
theorem setsAt_all {vs cs : List AV} (h : vs.length = cs.length) : setsAt cs 0 vs = vs := by
  rw [setsAt_nil vs cs 0 (by omega)]; simp
attribute [irreducible] bools boolsR
section
variable {P : Program} {C : Ctx} {ops : Array Oper} {rest : List Oper} {k : List Item} {R : Act → World → Prop} {env : Env} {σ : List Ob} {t : Nat} {ty : TypeId} {pos : String} {after : Array Edge} {gd : Option (Nat × Bool)}
theorem pu_loadA {tt : TypeId} {x : Operand} {i n : Nat} {o : Ob} {u : Nat → Bool} [TN P tt n] (hx : ev env x = .obj i 0) (ho : σ[i]? = some o) (hc : o.cs = bools n u) :
    Pur P C ⟨some t, .load tt x, ty, pos, after, gd⟩ env σ (.ro (.agg (boolsR n u))) :=
  pu_loadN_objR hx ho (hc.trans (bools_map n u)) (boolsR_len n u)
theorem pu_load_at {tt : TypeId} {x : Operand} {i off n : Nat} {o : Ob} {u : Nat → Bool} [T1 P tt] (hx : ev env x = .obj i off) (ho : σ[i]? = some o) (hc : o.cs = bools n u) (hlt : off < n) : Pur P C ⟨some t, .load tt x, ty, pos, after, gd⟩ env σ (.bool (u off)) :=
  pu_load_obj hx ho (by rw [hc]; exact bools_at hlt)
theorem op_storeA {tt : TypeId} {x y : Operand} {i n : Nat} {o : Ob} {u : Nat → Bool} [TN P tt n] (hx : ev env x = .obj i 0) (hy : ev env y = .ro (.agg (boolsR n u))) (ho : σ[i]? = some o) (hl : o.cs.length = n)
    (hk : RunsL P C ops rest k R ⟨env, σ.set i ⟨o.t, o.sz, bools n u⟩⟩) : RunsL P C ops (⟨none, .store tt x y, ty, pos, after, none⟩ :: rest) k R ⟨env, σ⟩ :=
  op_storeN (vs := (boolsR n u).map .ro) hx (by rw [hy]; simp only [cells?]; rw [if_pos (bools_one n u)]) (by simp [boolsR_len]) ho (by omega) (by
    rw [setsAt_all (by simp [boolsR_len, hl]), ← bools_map]; exact hk)
theorem op_store1 {tt : TypeId} {x y : Operand} {i off n : Nat} {o : Ob} {u : Nat → Bool} {b : Bool} [T1 P tt] (hx : ev env x = .obj i off) (hy : ev env y = .bool b) (ho : σ[i]? = some o) (hc : o.cs = bools n u) (hlt : off < n)
    (hk : RunsL P C ops rest k R ⟨env, σ.set i ⟨o.t, o.sz, bools n (put1 u off b)⟩⟩) : RunsL P C ops (⟨none, .store tt x y, ty, pos, after, none⟩ :: rest) k R ⟨env, σ⟩ :=
  op_store hx hy rfl ho (by rw [hc, bools_len]; exact hlt) (by rw [hc, bools_set]; exact hk)
theorem pu_indexA {tt e : TypeId} {x ix : Operand} {kd : IntKind} {p : Int} {n m : Nat} {u : Nat → Bool} [h1 : T1 P e] (hu : P.underlying tt = some (.array m e)) (hx : ev env x = .ro (.agg (boolsR n u))) (hi : ev env ix = .ro (.c (.int kd p))) (h0 : 0 ≤ p) (hlt : p < m) (hnm : m = n) :
    Pur P C ⟨some t, .index tt x ix, ty, pos, after, gd⟩ env σ (.bool (u p.toNat)) :=
  Pur.of fun a mm hG hσ hH => by
    have h := hH x (by simp [Op.operands])
    rw [hx] at h
    simp only [AV.rel, RV.rel] at h
    obtain ⟨us, e, hr⟩ := h
    obtain ⟨v, k1, k2⟩ := RV.rels_at _ _ hr p.toNat _ (boolsR_at (u := u) (by omega : p.toNat < n))
    simp only [RV.rel] at k2
    subst k2
    refine ⟨.bool (u p.toNat), ?_, by simp [AV.rel, RV.rel]⟩
    have k1' : us[p.toNat]? = some (.bool (u p.toNat)) := by simpa using k1
    simp [execOp, e, ev_c (hH _ (by simp [Op.operands])) hi, Instr.index, asIntOf, run_underlying hu, h0, hlt, run_size1 (P := P), part, run_isAgg1 (P := P), k1']
end
end Go.Proofs.Ytdikinkihnepaaa
/- An empty literal of a slice is a row of the frame's own. Over any program. -/
namespace Go.Proofs.Ytdikinkihnepaaa
set_option linter.unusedSimpArgs false
set_option linter.unusedVariables false
open Go.RowKit
open AV (Mem Keeps)
def FreeI (i : Nat) : List Ob → Prop
  | [] => True
  | o :: os => AV.onlys (fun k => k ≠ i) o.cs ∧ FreeI i os
theorem FreeI.at_ {i : Nat} : ∀ {os : List Ob}, FreeI i os → ∀ (j : Nat) o, os[j]? = some o → AV.onlys (fun k => k ≠ i) o.cs
  | [], _, j, o, hj => by simp at hj
  | o :: os, h, j, o', hj => by
    simp only [FreeI] at h
    cases j with
    | zero => simp at hj; subst hj; exact h.1
    | succ j => exact FreeI.at_ h.2 j o' (by simpa using hj)
theorem onlys_bools (p : Nat → Prop) (n : Nat) (u : Nat → Bool) : AV.onlys p (bools n u) := by rw [bools_map]; exact onlys_ro _ _
section
variable {P : Program} {C : Ctx} {ops : Array Oper} {rest : List Oper} {k : List Item} {R : Act → World → Prop} {env : Env} {σ : List Ob} {t : Nat} {ty : TypeId} {pos : String} {after : Array Edge}
theorem op_callOR {f : FuncId} {fn : Func} {xs : Array Operand} {ats : Array TypeId} {args : List RV} {rr : RR} [hfn : FN P f fn] (hf : AC P f args fun r => r = rr) (ha : xs.toList.map (ev env) = args.map .ro) (ht : t < C.n)
    (hk : RunsL P C ops rest k R ⟨(t, instA σ.length rr) :: env, σ ++ obs rr⟩) :
    RunsL P C ops (⟨some t, .call { callee := .value (.func f), args := xs, argTypes := ats }, ty, pos, after, none⟩ :: rest) k R ⟨env, σ⟩ := op_callO hf (ha ▸ FitsL.ros args) ht hk
theorem pu_len_seqN {tt e : TypeId} {z : Value} {sz bytes sz' : Nat} {x : Operand} {els : List (List RV)} {gd : Option (Nat × Bool)} (n : Nat) [hs : SL P tt e z sz bytes] (hx : ev env x = .ro (.seq sz' els)) (hl : els.length = n) :
    Pur P C ⟨some t, .call { callee := .builtin .len, args := #[x], argTypes := #[tt] }, ty, pos, after, gd⟩ env σ (.int (n : Int)) := hl ▸ pu_len_seq hx
theorem op_appendA {tt e : TypeId} {z : Value} {bytes i : Nat} {o : Ob} {rs : List RV} {els : List (List RV)} {x y : Operand} [hs : SL P tt e z 1 bytes] (hx : ev env x = .own i) (ho : σ[i]? = some o) (hc : allRo o.cs = some rs) (hy : ev env y = .ro (.seq 1 els)) (het : o.t = e) (hes : o.sz = 1)
    (hfree : FreeI i (σ.set i ⟨o.t, o.sz, []⟩)) (b1 : rs.length + els.length ≤ 4294967296) (b2 : Nat.ble bytes 256 = true) (ht : t < C.n)
    (hk : RunsL P C ops rest k R ⟨(t, .own i) :: killEnv i env, σ.set i ⟨e, 1, (rs ++ els.flatten).map .ro⟩⟩) :
    RunsL P C ops (⟨some t, .call { callee := .builtin .append, args := #[x, y], argTypes := #[tt, tt] }, ty, pos, after, none⟩ :: rest) k R ⟨env, σ⟩ :=
  op_append (n := rs.length) hx ho (allRo_eq hc) hy het hes (Nat.mul_one _).symm (fun j ob hj => by
    by_cases hji : j = i
    · subst hji
      rw [ho] at hj; injection hj with hj; subst hj
      rw [allRo_eq hc]; exact onlys_ro _ _
    · exact hfree.at_ j ob (by rw [List.getElem?_set_ne (Ne.symm hji)]; exact hj)) (by omega) (by
    have h := Nat.le_of_ble_eq_true b2
    have := Nat.mul_le_mul b1 h
    omega) ht hk
theorem run_build0 {tt e : TypeId} {z : Value} {sz bytes : Nat} [hs : SL P tt e z sz bytes] (w : World) : (Instr.buildSlice tt 0 #[]).run P w = .ok (.slice (some ⟨w.heap.size, 0, none⟩) 0 0) (w.alloc (.cells #[] e)) := by
  obtain ⟨i, hi, hz0, hsz', hb⟩ := hs.el.hi
  simp [Instr.buildSlice, run_underlying hs.el.ht, sizeOf, typeInfo, hi, newRow, newObj, Instr.fill, show Array.range 0 = #[] by rfl]
  rfl
theorem op_build0 {tt e : TypeId} {z : Value} {sz bytes : Nat} [hs : SL P tt e z sz bytes] (ht : t < C.n) (hk : RunsL P C ops rest k R ⟨(t, .own σ.length) :: env, σ ++ [⟨e, sz, []⟩]⟩) :
    RunsL P C ops (⟨some t, .buildSlice tt 0 #[], ty, pos, after, none⟩ :: rest) k R ⟨env, σ⟩ :=
  RunsL.val rfl rfl ht (fun a w φ hG hH => by
    have hg := good_alloc hG #[] e sz [] (by simp) (fun j v hj => by simp at hj)
    refine ⟨_, _, _, by simp only [execOp, Sem.run_bind]; rw [show (#[] : Array (Nat × Operand)).map (fun p => (p.1, a.eval p.2)) = #[] from by simp, run_build0 (P := P) (tt := tt) w]; rfl, hg.1, hg.2, ?_⟩
    simp only [AV.rel]
    exact ⟨⟨e, sz, []⟩, 0, by rw [List.getElem?_append_right (Nat.le_refl _), Nat.sub_self]; rfl, by simp, hs.el.hs, .inr ⟨w.heap.size, 0, _, upd_eq, rfl, heap_alloc_new w _, Nat.le_refl _, Nat.zero_le _, by simp⟩⟩) hk
end
end Go.Proofs.Ytdikinkihnepaaa
/- Functions that are handed objects of their caller's and write into them. Over any program. -/
namespace Go.Proofs.Ytdikinkihnepaaa
set_option linter.unusedSimpArgs false
set_option linter.unusedVariables false
open Go.RowKit
open AV (Mem Keeps)
theorem good_junk {C : Ctx} {w : World} {φ : Nat → Option Nat} {σ : List Ob} (hG : Good C ⟨w, φ, σ, C.ok⟩) {j p : Nat} {o : Ob} (ho : σ[j]? = some o) :
    Good C ⟨w, φ, σ.set j ⟨o.t, o.sz, o.cs.set p .junk⟩, C.ok⟩ ∧ Keeps (fun _ => True) ⟨w, φ, σ, C.ok⟩ ⟨w, φ, σ.set j ⟨o.t, o.sz, o.cs.set p .junk⟩, C.ok⟩ := by
  have hj := (List.getElem?_eq_some_iff.1 ho).1
  have hK : Keeps (fun _ => True) ⟨w, φ, σ, C.ok⟩ ⟨w, φ, σ.set j ⟨o.t, o.sz, o.cs.set p .junk⟩, C.ok⟩ := by
    refine ⟨⟨Nat.le_refl _, fun b _ hb => ⟨⟨hb.1, fun i hi => hb.2 i (by simpa using hi)⟩, rfl⟩⟩, fun i _ hi => ⟨by simpa using hi, rfl⟩, fun i ob _ hi => ?_, fun i g us t _ _ _ hh => ⟨us, hh, rfl⟩⟩
    by_cases e : i = j
    · subst e
      have : ob = o := Option.some.inj (hi.symm.trans ho)
      subst this
      exact ⟨ob.cs.set p .junk, by simp [hj], by simp⟩
    · exact ⟨ob.cs, by simp only [List.getElem?_set_ne (Ne.symm e)]; exact hi, rfl⟩
  refine ⟨⟨rfl, fun a b g ha hb => hG.inj a b g (by simpa using ha) (by simpa using hb), fun i ob hi => ?_, fun i g hi => hG.mine i g (by simpa using hi), hG.frm⟩, hK⟩
  by_cases e : i = j
  · subst e
    simp only [List.getElem?_set_self hj, Option.some.injEq] at hi
    subst hi
    have h := hG.ob i o ho
    show ObRel _ _ (φ i)
    simp only at h
    cases hφ : φ i with
    | none =>
      rw [hφ] at h
      simp only [ObRel] at h ⊢
      simp [h]
    | some g =>
      rw [hφ] at h
      obtain ⟨us, h1, h2, h3⟩ := h
      refine ⟨us, h1, by simpa using h2, fun k v hk => ?_⟩
      simp only [List.getElem?_set] at hk
      split at hk
      · rename_i hpk
        subst hpk
        split at hk
        · rename_i hlt
          injection hk with hk; subst hk
          obtain ⟨u, e1, e2, _⟩ := h3 p _ (List.getElem?_eq_getElem hlt)
          exact ⟨u, e1, e2, by simp [AV.rel]⟩
        · cases hk
      · obtain ⟨u, e1, e2, e3⟩ := h3 k v hk
        exact ⟨u, e1, e2, AV.rel_keeps hK _ _ (AV.only_true _) e3⟩
  · rw [List.getElem?_set_ne (Ne.symm e)] at hi
    exact (hG.ob i ob hi).keeps hK fun _ _ => rfl
section
variable {P : Program} {C : Ctx} {ops : Array Oper} {rest : List Oper} {k : List Item} {R : Act → World → Prop} {env : Env} {σ : List Ob} {t : Nat} {ty : TypeId} {pos : String} {after : Array Edge}
theorem RunsL.junk {l : List Oper} (j p : Nat) {o : Ob} (ho : σ[j]? = some o) (hk : RunsL P C ops l k R ⟨env, σ.set j ⟨o.t, o.sz, o.cs.set p .junk⟩⟩) : RunsL P C ops l k R ⟨env, σ⟩ :=
  ⟨fun a w ⟨h1, h2, φ, h3, h4⟩ => by
    obtain ⟨g1, g2⟩ := good_junk (p := p) h3 ho
    exact hk.run a w ⟨h1, h2, φ, g1, h4.keeps g2⟩⟩
theorem op_cut {tt e : TypeId} {z : Value} {sz bytes i n : Nat} {o : Ob} {x y : Operand} {kd : IntKind} {q : Int} [hs : SL P tt e z sz bytes] (hx : ev env x = .own i) (hy : ev env y = .ro (.c (.int kd q))) (ho : σ[i]? = some o) (hsz : o.sz = sz) (hl : o.cs.length = n * sz) (h0 : 0 ≤ q) (hq : q ≤ n) (hn : 0 < n)
    (hfree : FreeI i (σ.set i ⟨o.t, o.sz, []⟩)) (hro : ∀ (j : Nat) v, o.cs[j]? = some v → v.only fun k => k ≠ i) (ht : t < C.n)
    (hk : RunsL P C ops rest k R ⟨(t, .own i) :: killEnv i env, σ.set i ⟨o.t, o.sz, o.cs.take (q.toNat * o.sz)⟩⟩) :
    RunsL P C ops (⟨some t, .slice tt x none (some y) none, ty, pos, after, none⟩ :: rest) k R ⟨env, σ⟩ := by
  refine ⟨fun a w ⟨h1, h2, φ, hG, hH⟩ => ?_⟩
  have hil := (List.getElem?_eq_some_iff.1 ho).1
  have h := ev_rel hH x
  rw [hx] at h
  simp only [AV.rel] at h
  obtain ⟨ob, n', r1, r2, r3, r4⟩ := h
  rw [ho] at r1; injection r1 with r1; subst r1
  rw [hsz] at r2 r3
  have hn' : n' = n := Nat.eq_of_mul_eq_mul_right r3 (r2.symm.trans hl)
  subst hn'
  rcases r4 with ⟨_, e0, _⟩ | ⟨g, cap, us, hφ, eu, hh, c1, c2, c3⟩
  · omega
  have hle : q.toNat * sz ≤ n' * sz := Nat.mul_le_mul_right _ (by omega)
  have hK : Keeps (fun k => k ≠ i) ⟨w, φ, σ, C.ok⟩ ⟨w, φ, σ.set i ⟨o.t, o.sz, o.cs.take (q.toNat * o.sz)⟩, C.ok⟩ :=
    ⟨⟨Nat.le_refl _, fun b _ hb => ⟨⟨hb.1, fun j hj => hb.2 j (by simpa using hj)⟩, rfl⟩⟩, fun j _ hj => ⟨by simpa using hj, rfl⟩, fun j ob hji hj => ⟨ob.cs, by simp only [List.getElem?_set_ne (Ne.symm hji)]; exact hj, rfl⟩, fun j g us t _ _ _ hh => ⟨us, hh, rfl⟩⟩
  have hG' : Good C ⟨w, φ, σ.set i ⟨o.t, o.sz, o.cs.take (q.toNat * o.sz)⟩, C.ok⟩ := by
    refine ⟨rfl, fun a b g ha hb => hG.inj a b g (by simpa using ha) (by simpa using hb), fun j ob hj => ?_, fun j g hj => hG.mine j g (by simpa using hj), hG.frm⟩
    by_cases e : j = i
    · subst e
      simp only [List.getElem?_set_self hil, Option.some.injEq] at hj
      subst hj
      have hob := hG.ob j o ho
      show ObRel _ _ (φ j)
      rw [hφ]
      rw [show (⟨w, φ, σ, C.ok⟩ : Mem).φ j = some g from hφ] at hob
      obtain ⟨us', q1, q2, q3⟩ := hob
      refine ⟨us', q1, by rw [List.length_take]; omega, fun m v hm => ?_⟩
      rw [List.getElem?_take] at hm
      split at hm
      · obtain ⟨u, e1, e2, e3⟩ := q3 m v hm
        exact ⟨u, e1, e2, AV.rel_keeps hK _ _ (hro m v hm) e3⟩
      · cases hm
    · rw [List.getElem?_set_ne (Ne.symm e)] at hj
      have h := hG.ob j ob hj
      have hfj := hfree.at_ j ob (by rw [List.getElem?_set_ne (Ne.symm e)]; exact hj)
      show ObRel _ _ (φ j)
      simp only at h
      cases hφj : φ j with
      | none => rw [hφj] at h; exact h
      | some g' =>
        rw [hφj] at h
        obtain ⟨us', q1, q2, q3⟩ := h
        refine ⟨us', q1, q2, fun m v hm => ?_⟩
        obtain ⟨u, e1, e2, e3⟩ := q3 m v hm
        exact ⟨u, e1, e2, AV.rel_keeps hK _ _ (onlys_mem hfj m v hm) e3⟩
  refine wpList_plain rfl fun K hK' => ?_
  have hyv := ev_c (m := ⟨w, φ, σ, C.ok⟩) (ev_rel hH y) hy
  have hrun : (execOp a.eval (⟨some t, .slice tt x none (some y) none, ty, pos, after, none⟩ : Oper)).run P w = .ok (.value (sliced (some ⟨g, 0, none⟩) 0 q.toNat cap sz)) w := by
    simp only [execOp, Option.map_some, Option.map_none, hyv, eu, Sem.run_bind, run_sliceAt_slice w tt _ _ _ _ SL.under, run_slice_h w tt (some ⟨g, 0, none⟩) n' cap SL.under kd q h0 (by omega), SL.size, Result.andThen_ok]
    rfl
  unfold Oper.wp
  rw [hrun]
  simp only [Oper.upon]
  refine hK' _ _ (hk.run _ _ ⟨h1, by simp [Act.put, h2], φ, hG', Holds.put (fun s => ?_) (by rw [h2]; exact ht) ?_⟩)
  · rw [look_killEnv]
    exact AV.rel_keeps hK _ _ (AV.kill_only i _) (AV.kill_rel i _ _ (hH s))
  · have e : sliced (some ⟨g, 0, none⟩) 0 q.toNat cap sz = .slice (some ⟨g, 0, none⟩) q.toNat cap := by
      unfold sliced
      by_cases h : 0 < cap - 0
      · simp [Addr.add_lit, h]
      · omega
    rw [e]
    simp only [AV.rel]
    refine ⟨_, q.toNat, List.getElem?_set_self hil, by simp only [List.length_take, hsz]; omega, by rw [hsz]; exact r3, .inr ⟨g, cap, us, hφ, rfl, hh, by omega, c2, by rw [hsz]; rw [hsz] at c3; exact c3⟩⟩
end
def startEnvA : Nat → List AV → Env
  | _, [] => []
  | t, r :: rs => (t, r) :: startEnvA (t + 1) rs
theorem startA_look : ∀ (rs : List AV) (t k : Nat), look (startEnvA t rs) k = if t ≤ k then (rs[k - t]?).getD .junk else .junk
  | [], t, k => by simp [startEnvA, look]
  | r :: rs, t, k => by
    rw [startEnvA, look_put, startA_look rs (t + 1) k]
    by_cases h : t = k
    · subst h; simp
    · rw [if_neg h]
      by_cases h2 : t + 1 ≤ k
      · have e : k - t = (k - (t + 1)) + 1 := by omega
        rw [if_pos h2, if_pos (by omega : t ≤ k), e, List.getElem?_cons_succ]
      · rw [if_neg h2]
        split
        · omega
        · rfl
def AM (P : Program) (f : FuncId) (σ : List Ob) (st : List Nat) (args : List AV) (σ' : List Ob) (v : AV) : Prop :=
  ∀ (w : World) (φ : Nat → Option Nat) (ok : Nat → Prop) (us : Array Value), Good ⟨w, ok, mine φ σ.length, 0⟩ ⟨w, φ, σ, ok⟩ → AV.rels ⟨w, φ, σ, ok⟩ args us.toList →
    Calls P f us w fun e w' => ∃ u φ', e = .returned u ∧ Good ⟨w, ok, mine φ σ.length, 0⟩ ⟨w', φ', σ', ok⟩ ∧ AV.rel ⟨w', φ', σ', ok⟩ v u ∧ ∀ i ∈ st, φ' i = φ i
def pinA (gs : Nat → Nat) : AV → AV
  | .obj i off => .pin i off (gs i)
  | v => v
def EndsA (P : Program) (C : Ctx) (fn : Func) (gs : Nat → Nat) (st : List Nat) (σ' : List Ob) (v : AV) (a : Act) (w : World) : Prop :=
  a.defers = [] ∧ ∃ u, (results fn a.tmps).run P w = .ok u w ∧ ∃ φ', Good C ⟨w, φ', σ', C.ok⟩ ∧ AV.rel ⟨w, φ', σ', C.ok⟩ v u ∧ ∀ i ∈ st, φ' i = some (gs i)
theorem good_n {w : World} {ok mu : Nat → Prop} {n n' : Nat} {m : Mem} (h : Good ⟨w, ok, mu, n⟩ m) : Good ⟨w, ok, mu, n'⟩ m :=
  ⟨h.ok0, h.inj, h.ob, h.mine, ⟨h.frm.os, h.frm.tape, h.frm.output, h.frm.size, h.frm.block, h.frm.new⟩⟩
theorem am_enter {P : Program} {f : FuncId} {fn : Func} {c : Code} {σ σ' : List Ob} {st : List Nat} {args : List AV} {v : AV} (hf : P.funcs[f]? = some fn) (hb : fn.body = some c) (n : Nat) (hn : fn.ntmps = n) (hl : args.length ≤ n)
    (hst : ∀ i ∈ st, ∃ off, AV.obj i off ∈ args)
    (h : ∀ (C : Ctx) (gs : Nat → Nat), C.n = n → Runs P C [.code c] (EndsA P C fn gs st σ' v) ⟨startEnvA 0 (args.map (pinA gs)), σ⟩) : AM P f σ st args σ' v := by
  intro w φ ok us hG hu
  have hlen := AV.rels_len args _ hu
  refine calls_of_fin hf hb ?_
  let gs : Nat → Nat := fun i => (φ i).getD 0
  have hs : Sim ⟨w, ok, mine φ σ.length, n⟩ ⟨startEnvA 0 (args.map (pinA gs)), σ⟩ { tmps := us ++ Array.replicate (fn.ntmps - us.size) undef, defers := [] } w := by
    refine ⟨rfl, by simp at hlen ⊢; omega, φ, good_n hG, fun t => ?_⟩
    rw [startA_look]
    simp only [Nat.zero_le, if_true, Nat.sub_zero, List.getElem?_map]
    cases hr : args[t]? with
    | none => simp [AV.rel]
    | some r =>
      obtain ⟨u, e1, e2⟩ := AV.rels_at args _ hu t r hr
      have ht : t < us.size := by have := (List.getElem?_eq_some_iff.1 e1).1; simpa using this
      have : (us ++ Array.replicate (fn.ntmps - us.size) undef).getD t undef = u := by
        rw [Array.getD_eq_getD_getElem?, Array.getElem?_append_left ht]
        have : us[t]? = some u := by simpa using e1
        simp [this]
      simp only [Option.map_some, Option.getD_some]
      rw [this]
      cases r <;> simp only [pinA] <;> try exact e2
      case obj i off =>
        simp only [AV.rel] at e2 ⊢
        obtain ⟨k1, g, k2, k3⟩ := e2
        have : gs i = g := by simp only [gs, k2, Option.getD_some]
        rw [this]
        exact ⟨k1, k2, k3⟩
  have hr := (h ⟨w, ok, mine φ σ.length, n⟩ gs rfl).run _ w hs
  intro b cs
  obtain ⟨a', w', todo, ⟨hd, u, hv, φ', h1, h2, h3⟩, hstep⟩ := hr b cs
  refine ⟨a', w', todo, ⟨hd, u, hv, u, φ', rfl, good_n h1, h2, fun i hi => ?_⟩, hstep⟩
  obtain ⟨off, ho⟩ := hst i hi
  obtain ⟨j, hj⟩ := List.mem_iff_getElem?.1 ho
  obtain ⟨u', _, e2⟩ := AV.rels_at args _ hu j _ hj
  simp only [AV.rel] at e2
  obtain ⟨_, g, k2, _⟩ := e2
  rw [h3 i hi]
  simp only [gs, k2, Option.getD_some]
section
variable {P : Program} {C : Ctx} {fn : Func} {S : St} {gs : Nat → Nat} {st : List Nat} {σ' : List Ob} {v : AV}
theorem pins {φ : Nat → Option Nat} {w : World} {a : Act} (hH : Holds ⟨w, φ, S.σ, C.ok⟩ S.env a) (h : ∀ i ∈ st, ∃ t off, look S.env t = .pin i off (gs i)) : ∀ i ∈ st, φ i = some (gs i) := fun i hi => by
  obtain ⟨t, off, ht⟩ := h i hi
  have := hH t
  rw [ht] at this
  simp only [AV.rel] at this
  exact this.2.1
theorem endsA0 (hst : ∀ i ∈ st, ∃ t off, look S.env t = .pin i off (gs i)) (hr : fn.results = #[]) (hσ : S.σ = σ') : ∀ a w, Sim C S a w → EndsA P C fn gs st σ' (.tup []) a w := by
  rintro a w ⟨h1, h2, φ, hG, hH⟩
  subst hσ
  exact ⟨h1, .tuple #[], by rw [results_eq, hr]; simp, φ, hG, by simp [AV.rel, AV.rels], pins hH hst⟩
theorem endsA1 {x : ResultVar} (hst : ∀ i ∈ st, ∃ t off, look S.env t = .pin i off (gs i)) (hr : fn.results = #[x]) (hx : ResV P S x v) (hσ : S.σ = σ') : ∀ a w, Sim C S a w → EndsA P C fn gs st σ' v a w := by
  rintro a w ⟨h1, h2, φ, hG, hH⟩
  subst hσ
  obtain ⟨u, k1, k2⟩ := resV_run (P := P) hG hH x v hx
  exact ⟨h1, u, by rw [results_eq, hr]; simp [k1], φ, hG, k2, pins hH hst⟩
theorem endsA2 {x y : ResultVar} {vx vy : AV} (hst : ∀ i ∈ st, ∃ t off, look S.env t = .pin i off (gs i)) (hr : fn.results = #[x, y]) (hx : ResV P S x vx) (hy : ResV P S y vy) (hσ : S.σ = σ') : ∀ a w, Sim C S a w → EndsA P C fn gs st σ' (.tup [vx, vy]) a w := by
  rintro a w ⟨h1, h2, φ, hG, hH⟩
  subst hσ
  obtain ⟨u, k1, k2⟩ := resV_run (P := P) hG hH x vx hx
  obtain ⟨u', k1', k2'⟩ := resV_run (P := P) hG hH y vy hy
  exact ⟨h1, .tuple #[u, u'], by rw [results_eq, hr]; simp [k1, k1'], φ, hG, by simp only [AV.rel]; exact ⟨_, rfl, by simp only [AV.rels]; exact ⟨u, [u'], rfl, k2, u', [], rfl, k2', rfl⟩⟩, pins hH hst⟩
end
mutual
def AV.ren (r : Nat → Nat) : AV → AV
  | .ro v => .ro v
  | .junk => .junk
  | .obj i off => .obj (r i) off
  | .pin i off g => .pin (r i) off g
  | .own i => .own (r i)
  | .agg cs => .agg (AV.rens r cs)
  | .tup vs => .tup (AV.rens r vs)
  | .fn f a b => .fn f (AV.rens r a) (AV.rens r b)
def AV.rens (r : Nat → Nat) : List AV → List AV
  | [] => []
  | x :: xs => AV.ren r x :: AV.rens r xs
end
def Ob.ren (r : Nat → Nat) (o : Ob) : Ob := ⟨o.t, o.sz, AV.rens r o.cs⟩
theorem rens_len (r : Nat → Nat) : ∀ l : List AV, (AV.rens r l).length = l.length
  | [] => rfl
  | x :: xs => by simp [AV.rens, rens_len r xs]
theorem rens_at (r : Nat → Nat) : ∀ (l : List AV) (j : Nat), (AV.rens r l)[j]? = (l[j]?).map (AV.ren r)
  | [], j => by simp [AV.rens]
  | x :: xs, 0 => by simp [AV.rens]
  | x :: xs, j + 1 => by simp [AV.rens, rens_at r xs j]
mutual
def AV.rid (lent st : Nat → Bool) : AV → AV
  | .ro v => .ro v
  | .junk => .junk
  | .obj i off => match lent i, st i with
    | true, false => .junk
    | _, _ => .obj i off
  | .pin i off g => match lent i, st i with
    | true, false => .junk
    | _, _ => .pin i off g
  | .own i => match lent i with
    | true => .junk
    | false => .own i
  | .agg cs => .agg (AV.rids lent st cs)
  | .tup vs => .tup (AV.rids lent st vs)
  | .fn f a b => .fn f (AV.rids lent st a) (AV.rids lent st b)
def AV.rids (lent st : Nat → Bool) : List AV → List AV
  | [] => []
  | x :: xs => AV.rid lent st x :: AV.rids lent st xs
end
def ridEnv (lent st : Nat → Bool) : Env → Env
  | [] => []
  | (t, v) :: e => (t, v.rid lent st) :: ridEnv lent st e
theorem look_ridEnv (lent st : Nat → Bool) : ∀ (e : Env) (t : Nat), look (ridEnv lent st e) t = (look e t).rid lent st
  | [], t => by simp [ridEnv, look, AV.rid]
  | (s, v) :: e, t => by
    rw [ridEnv, look_put, look_put]
    split
    · rfl
    · exact look_ridEnv lent st e t
section
variable {m m' : Mem} {r : Nat → Nat} {lent st : Nat → Bool}
mutual
theorem rel_unren {n : Nat} (hw : m'.w = m.w) (hok : ∀ b, m.ok b → m'.ok b) (hφ : ∀ i, i < n → m'.φ i = m.φ (r i)) (hn : m'.σ.length = n) (hσ : ∀ (i : Nat) o, i < n → m.σ[r i]? = some o → ∃ cs, m'.σ[i]? = some ⟨o.t, o.sz, cs⟩ ∧ cs.length = o.cs.length) :
    ∀ (v : AV) (u : Value), v.only (fun i => i < n) → AV.rel m (v.ren r) u → AV.rel m' v u
  | .ro v, u, _, h => by
    simp only [AV.ren, AV.rel] at h ⊢
    exact RV.rel_mono ⟨by rw [hw]; exact Nat.le_refl _, fun b _ hb => ⟨hok b hb, by rw [hw]⟩⟩ v u h
  | .junk, u, _, _ => by simp [AV.rel]
  | .obj i off, u, ho, h => by
    simp only [AV.ren, AV.rel, AV.only] at h ho ⊢
    obtain ⟨_, g, h2, h3⟩ := h
    exact ⟨by omega, g, (hφ i ho).trans h2, h3⟩
  | .pin i off g, u, ho, h => by
    simp only [AV.ren, AV.rel, AV.only] at h ho ⊢
    obtain ⟨_, h2, h3⟩ := h
    exact ⟨by omega, (hφ i ho).trans h2, h3⟩
  | .own i, u, ho, h => by
    simp only [AV.ren, AV.rel, AV.only] at h ho ⊢
    obtain ⟨ob, k, h1, h2, h3, h4⟩ := h
    obtain ⟨cs, e1, e2⟩ := hσ i ob ho h1
    refine ⟨_, k, e1, by simp only; rw [e2]; exact h2, h3, ?_⟩
    rcases h4 with ⟨q1, q2, q3⟩ | ⟨g, cap, us, q1, q2, q3, q4⟩
    · exact .inl ⟨q1, q2, (hφ i ho).trans q3⟩
    · exact .inr ⟨g, cap, us, (hφ i ho).trans q1, q2, by rw [hw]; exact q3, q4⟩
  | .agg cs, u, ho, h => by
    simp only [AV.ren, AV.rel, AV.only] at h ho ⊢
    obtain ⟨us, e, h1⟩ := h
    exact ⟨us, e, rels_unren hw hok hφ hn hσ cs _ ho h1⟩
  | .tup cs, u, ho, h => by
    simp only [AV.ren, AV.rel, AV.only] at h ho ⊢
    obtain ⟨us, e, h1⟩ := h
    exact ⟨us, e, rels_unren hw hok hφ hn hσ cs _ ho h1⟩
  | .fn f a b, u, ho, h => by
    simp only [AV.ren, AV.rel, AV.only] at h ho ⊢
    obtain ⟨us, vs, e, h1, h2⟩ := h
    exact ⟨us, vs, e, rels_unren hw hok hφ hn hσ a _ ho.1 h1, rels_unren hw hok hφ hn hσ b _ ho.2 h2⟩
theorem rels_unren {n : Nat} (hw : m'.w = m.w) (hok : ∀ b, m.ok b → m'.ok b) (hφ : ∀ i, i < n → m'.φ i = m.φ (r i)) (hn : m'.σ.length = n) (hσ : ∀ (i : Nat) o, i < n → m.σ[r i]? = some o → ∃ cs, m'.σ[i]? = some ⟨o.t, o.sz, cs⟩ ∧ cs.length = o.cs.length) :
    ∀ (vs : List AV) (us : List Value), AV.onlys (fun i => i < n) vs → AV.rels m (AV.rens r vs) us → AV.rels m' vs us
  | [], us, _, h => by simpa [AV.rens, AV.rels] using h
  | x :: xs, us, ho, h => by
    simp only [AV.rens, AV.rels, AV.onlys] at h ho ⊢
    obtain ⟨u, us', e, h1, h2⟩ := h
    exact ⟨u, us', e, rel_unren hw hok hφ hn hσ x u ho.1 h1, rels_unren hw hok hφ hn hσ xs us' ho.2 h2⟩
end
mutual
theorem rel_ren {n : Nat} (hw : m'.w = m.w) (hok : ∀ b, m.ok b → m'.ok b) (hφ : ∀ i, i < n → m'.φ (r i) = m.φ i) (hr : ∀ i, i < n → r i < m'.σ.length) (hn : m.σ.length = n) (hσ : ∀ (i : Nat) o, m.σ[i]? = some o → ∃ cs, m'.σ[r i]? = some ⟨o.t, o.sz, cs⟩ ∧ cs.length = o.cs.length) :
    ∀ (v : AV) (u : Value), AV.rel m v u → AV.rel m' (v.ren r) u
  | .ro v, u, h => by
    simp only [AV.ren, AV.rel] at h ⊢
    exact RV.rel_mono ⟨by rw [hw]; exact Nat.le_refl _, fun b _ hb => ⟨hok b hb, by rw [hw]⟩⟩ v u h
  | .junk, u, _ => by simp [AV.rel, AV.ren]
  | .obj i off, u, h => by
    simp only [AV.ren, AV.rel] at h ⊢
    obtain ⟨h1, g, h2, h3⟩ := h
    exact ⟨hr i (by omega), g, (hφ i (by omega)).trans h2, h3⟩
  | .pin i off g, u, h => by
    simp only [AV.ren, AV.rel] at h ⊢
    obtain ⟨h1, h2, h3⟩ := h
    exact ⟨hr i (by omega), (hφ i (by omega)).trans h2, h3⟩
  | .own i, u, h => by
    simp only [AV.ren, AV.rel] at h ⊢
    obtain ⟨ob, k, h1, h2, h3, h4⟩ := h
    obtain ⟨cs, e1, e2⟩ := hσ i ob h1
    have hi : i < n := by have := (List.getElem?_eq_some_iff.1 h1).1; omega
    refine ⟨_, k, e1, by simp only; rw [e2]; exact h2, h3, ?_⟩
    rcases h4 with ⟨q1, q2, q3⟩ | ⟨g, cap, us, q1, q2, q3, q4⟩
    · exact .inl ⟨q1, q2, (hφ i hi).trans q3⟩
    · exact .inr ⟨g, cap, us, (hφ i hi).trans q1, q2, by rw [hw]; exact q3, q4⟩
  | .agg cs, u, h => by
    simp only [AV.ren, AV.rel] at h ⊢
    obtain ⟨us, e, h1⟩ := h
    exact ⟨us, e, rels_ren hw hok hφ hr hn hσ cs _ h1⟩
  | .tup cs, u, h => by
    simp only [AV.ren, AV.rel] at h ⊢
    obtain ⟨us, e, h1⟩ := h
    exact ⟨us, e, rels_ren hw hok hφ hr hn hσ cs _ h1⟩
  | .fn f a b, u, h => by
    simp only [AV.ren, AV.rel] at h ⊢
    obtain ⟨us, vs, e, h1, h2⟩ := h
    exact ⟨us, vs, e, rels_ren hw hok hφ hr hn hσ a _ h1, rels_ren hw hok hφ hr hn hσ b _ h2⟩
theorem rels_ren {n : Nat} (hw : m'.w = m.w) (hok : ∀ b, m.ok b → m'.ok b) (hφ : ∀ i, i < n → m'.φ (r i) = m.φ i) (hr : ∀ i, i < n → r i < m'.σ.length) (hn : m.σ.length = n) (hσ : ∀ (i : Nat) o, m.σ[i]? = some o → ∃ cs, m'.σ[r i]? = some ⟨o.t, o.sz, cs⟩ ∧ cs.length = o.cs.length) :
    ∀ (vs : List AV) (us : List Value), AV.rels m vs us → AV.rels m' (AV.rens r vs) us
  | [], us, h => by simpa [AV.rens, AV.rels] using h
  | x :: xs, us, h => by
    simp only [AV.rens, AV.rels] at h ⊢
    obtain ⟨u, us', e, h1, h2⟩ := h
    exact ⟨u, us', e, rel_ren hw hok hφ hr hn hσ x u h1, rels_ren hw hok hφ hr hn hσ xs us' h2⟩
end
mutual
theorem rel_rid (hro : RV.Kept m.w m.ok m'.w m'.ok) (hlen : m'.σ.length = m.σ.length) (hφ : ∀ i, i < m.σ.length → lent i = false ∨ st i = true → m'.φ i = m.φ i) (hσ : ∀ i, lent i = false → m'.σ[i]? = m.σ[i]?) (hb : ∀ i g, i < m.σ.length → lent i = false → m.φ i = some g → m'.w.heap[g]? = m.w.heap[g]?) :
    ∀ (v : AV) (u : Value), AV.rel m v u → AV.rel m' (v.rid lent st) u
  | .ro v, u, h => by
    simp only [AV.rid, AV.rel] at h ⊢
    exact RV.rel_mono hro v u h
  | .junk, u, _ => by simp [AV.rel, AV.rid]
  | .obj i off, u, h => by
    have key : lent i = false ∨ st i = true → AV.rel m' (.obj i off) u := fun hk => by
      simp only [AV.rel] at h ⊢
      obtain ⟨h1, g, h2, h3⟩ := h
      exact ⟨by omega, g, (hφ i h1 hk).trans h2, h3⟩
    unfold AV.rid
    cases h1 : lent i <;> cases h2 : st i <;> first | exact key (.inl h1) | exact key (.inr h2) | simp [AV.rel]
  | .pin i off g, u, h => by
    have key : lent i = false ∨ st i = true → AV.rel m' (.pin i off g) u := fun hk => by
      simp only [AV.rel] at h ⊢
      obtain ⟨h1, h2, h3⟩ := h
      exact ⟨by omega, (hφ i h1 hk).trans h2, h3⟩
    unfold AV.rid
    cases h1 : lent i <;> cases h2 : st i <;> first | exact key (.inl h1) | exact key (.inr h2) | simp [AV.rel]
  | .own i, u, h => by
    have key : lent i = false → AV.rel m' (.own i) u := fun hk => by
      simp only [AV.rel] at h ⊢
      obtain ⟨ob, k, h1, h2, h3, h4⟩ := h
      have hi := (List.getElem?_eq_some_iff.1 h1).1
      refine ⟨ob, k, (hσ i hk).trans h1, h2, h3, ?_⟩
      rcases h4 with ⟨q1, q2, q3⟩ | ⟨g, cap, us, q1, q2, q3, q4⟩
      · exact .inl ⟨q1, q2, (hφ i hi (.inl hk)).trans q3⟩
      · exact .inr ⟨g, cap, us, (hφ i hi (.inl hk)).trans q1, q2, (hb i g hi hk q1).trans q3, q4⟩
    unfold AV.rid
    cases h1 : lent i <;> first | exact key h1 | simp [AV.rel]
  | .agg cs, u, h => by
    simp only [AV.rid, AV.rel] at h ⊢
    obtain ⟨us, e, h1⟩ := h
    exact ⟨us, e, rels_rid hro hlen hφ hσ hb cs _ h1⟩
  | .tup cs, u, h => by
    simp only [AV.rid, AV.rel] at h ⊢
    obtain ⟨us, e, h1⟩ := h
    exact ⟨us, e, rels_rid hro hlen hφ hσ hb cs _ h1⟩
  | .fn f a b, u, h => by
    simp only [AV.rid, AV.rel] at h ⊢
    obtain ⟨us, vs, e, h1, h2⟩ := h
    exact ⟨us, vs, e, rels_rid hro hlen hφ hσ hb a _ h1, rels_rid hro hlen hφ hσ hb b _ h2⟩
theorem rels_rid (hro : RV.Kept m.w m.ok m'.w m'.ok) (hlen : m'.σ.length = m.σ.length) (hφ : ∀ i, i < m.σ.length → lent i = false ∨ st i = true → m'.φ i = m.φ i) (hσ : ∀ i, lent i = false → m'.σ[i]? = m.σ[i]?) (hb : ∀ i g, i < m.σ.length → lent i = false → m.φ i = some g → m'.w.heap[g]? = m.w.heap[g]?) :
    ∀ (vs : List AV) (us : List Value), AV.rels m vs us → AV.rels m' (AV.rids lent st vs) us
  | [], us, h => by simpa [AV.rids, AV.rels] using h
  | x :: xs, us, h => by
    simp only [AV.rids, AV.rels] at h ⊢
    obtain ⟨u, us', e, h1, h2⟩ := h
    exact ⟨u, us', e, rel_rid hro hlen hφ hσ hb x u h1, rels_rid hro hlen hφ hσ hb xs us' h2⟩
end
end
theorem rids_at (lent st : Nat → Bool) : ∀ (l : List AV) (j : Nat), (AV.rids lent st l)[j]? = (l[j]?).map (AV.rid lent st)
  | [], j => by simp [AV.rids]
  | x :: xs, 0 => by simp [AV.rids]
  | x :: xs, j + 1 => by simp [AV.rids, rids_at lent st xs j]
def rof (ι : List Nat) (i : Nat) : Nat := (ι[i]?).getD 0
def lentB (ι : List Nat) (i : Nat) : Bool := ι.any fun j => Nat.beq j i
def stB' (ι st : List Nat) (i : Nat) : Bool := st.any fun j => Nat.beq (rof ι j) i
def putObs (ι : List Nat) (σ : List Ob) : List Ob → Nat → List Ob
  | [], _ => σ
  | o :: os, j => putObs ι (σ.set (rof ι j) (o.ren (rof ι))) os (j + 1)
theorem putObs_len (ι : List Nat) : ∀ (os σ : List Ob) (j : Nat), (putObs ι σ os j).length = σ.length
  | [], σ, j => rfl
  | o :: os, σ, j => by rw [putObs, putObs_len ι os]; simp
theorem putObs_off (ι : List Nat) (i : Nat) : ∀ (os σ : List Ob) (j : Nat), (∀ k, k < os.length → rof ι (j + k) ≠ i) → (putObs ι σ os j)[i]? = σ[i]?
  | [], σ, j, _ => rfl
  | o :: os, σ, j, h => by
    rw [putObs, putObs_off ι i os _ (j + 1) fun k hk => by
      have := h (k + 1) (by simp; omega)
      rwa [show j + (k + 1) = j + 1 + k by omega] at this]
    exact List.getElem?_set_ne (h 0 (by simp))
theorem putObs_at (ι : List Nat) : ∀ (os σ : List Ob) (j : Nat), (∀ a b, a < os.length → b < os.length → rof ι (j + a) = rof ι (j + b) → a = b) → ∀ (k : Nat) o, os[k]? = some o → rof ι (j + k) < σ.length → (putObs ι σ os j)[rof ι (j + k)]? = some (o.ren (rof ι))
  | [], σ, j, _, k, o, h, _ => by simp at h
  | x :: os, σ, j, hinj, k, o, h, hlt => by
    rw [putObs]
    cases k with
    | zero =>
      simp at h; subst h
      rw [putObs_off ι _ os _ (j + 1) fun k hk e => by
        have := hinj (k + 1) 0 (by simp; omega) (by simp) (by rw [show j + (k + 1) = j + 1 + k by omega]; exact e)
        omega]
      rw [Nat.add_zero] at hlt ⊢
      exact List.getElem?_set_self hlt
    | succ k =>
      simp at h
      have := putObs_at ι os (σ.set (rof ι j) (x.ren (rof ι))) (j + 1) (fun a b ha hb e => by
        have := hinj (a + 1) (b + 1) (by simp; omega) (by simp; omega) (by rw [show j + (a + 1) = j + 1 + a by omega, show j + (b + 1) = j + 1 + b by omega]; exact e)
        omega) k o h (by rw [show j + 1 + k = j + (k + 1) by omega]; simpa using hlt)
      rwa [show j + 1 + k = j + (k + 1) by omega] at this
def LentAt (ι : List Nat) (σ : List Ob) : List Ob → Nat → Prop
  | [], _ => True
  | o :: os, j => σ[rof ι j]? = some (o.ren (rof ι)) ∧ LentAt ι σ os (j + 1)
theorem LentAt.at_ {ι : List Nat} {σ : List Ob} : ∀ {os : List Ob} {j : Nat}, LentAt ι σ os j → ∀ (k : Nat) o, os[k]? = some o → σ[rof ι (j + k)]? = some (o.ren (rof ι))
  | [], j, _, k, o, h => by simp at h
  | x :: os, j, hl, k, o, h => by
    simp only [LentAt] at hl
    cases k with
    | zero => simp at h; subst h; exact hl.1
    | succ k =>
      simp at h
      have := LentAt.at_ hl.2 k o h
      rwa [show j + 1 + k = j + (k + 1) by omega] at this
def FreeR (ι st : List Nat) : Nat → List Ob → Prop
  | _, [] => True
  | i, o :: os => (lentB ι i = true ∨ AV.rids (lentB ι) (stB' ι st) o.cs = o.cs) ∧ FreeR ι st (i + 1) os
theorem FreeR.at_ {ι st : List Nat} : ∀ {os : List Ob} {i : Nat}, FreeR ι st i os → ∀ (k : Nat) o, os[k]? = some o → lentB ι (i + k) = true ∨ AV.rids (lentB ι) (stB' ι st) o.cs = o.cs
  | [], i, _, k, o, h => by simp at h
  | x :: os, i, hl, k, o, h => by
    simp only [FreeR] at hl
    cases k with
    | zero => simp at h; subst h; exact hl.1
    | succ k =>
      simp at h
      have := FreeR.at_ hl.2 k o h
      rwa [show i + 1 + k = i + (k + 1) by omega] at this
theorem rids_ros (lent st : Nat → Bool) : ∀ rs : List RV, AV.rids lent st (rs.map .ro) = rs.map .ro
  | [] => rfl
  | r :: rs => by simp only [List.map_cons, AV.rids, AV.rid, rids_ros lent st rs]
structure Lent (ι st : List Nat) (σ σ0 σ1 : List Ob) : Prop where
  len : Nat.beq σ0.length ι.length = true
  len1 : Nat.beq σ1.length ι.length = true
  lt : (ι.all fun i => Nat.ble (i + 1) σ.length) = true
  inj : ι.Nodup
  at_ : LentAt ι σ σ0 0
  closed : FreeO σ0.length σ0
  stl : (st.all fun j => Nat.ble (j + 1) ι.length) = true
  free : FreeR ι st 0 σ
def unpin : AV → AV
  | .pin i off _ => .obj i off
  | v => v
theorem unpin_rel {m : Mem} {v : AV} {u : Value} (h : AV.rel m v u) : AV.rel m (unpin v) u := by
  cases v <;> simp only [unpin] <;> try exact h
  case pin i off g =>
    simp only [AV.rel] at h ⊢
    exact ⟨h.1, g, h.2.1, h.2.2⟩
def putEnv (d : Option Nat) (v : AV) (env : Env) : Env := match d with
  | some t => (t, v) :: env
  | none => env
theorem lentB_iff {ι : List Nat} {i : Nat} : lentB ι i = true ↔ ∃ j, j < ι.length ∧ rof ι j = i := by
  unfold lentB
  rw [List.any_eq_true]
  constructor
  · rintro ⟨x, hx, hb⟩
    obtain ⟨j, hj, rfl⟩ := List.getElem_of_mem hx
    exact ⟨j, hj, by simpa [rof, hj] using Nat.eq_of_beq_eq_true hb⟩
  · rintro ⟨j, hj, rfl⟩
    refine ⟨ι[j], List.getElem_mem hj, ?_⟩
    simp [rof, hj]
theorem rof_inj {ι : List Nat} (h : ι.Nodup) {a b : Nat} (ha : a < ι.length) (hb : b < ι.length) (e : rof ι a = rof ι b) : a = b := by
  simp only [rof, List.getElem?_eq_getElem ha, List.getElem?_eq_getElem hb, Option.getD_some] at e
  exact (List.getElem_inj h).1 e
section
variable {P : Program} {C : Ctx} {ops : Array Oper} {rest : List Oper} {k : List Item} {R : Act → World → Prop} {env : Env} {σ : List Ob} {t : Nat} {ty : TypeId} {pos : String} {after : Array Edge}
theorem lent_step {ι st : List Nat} {σ0 σ1 : List Ob} {w w' : World} {φ φ1 : Nat → Option Nat} (hL : Lent ι st σ σ0 σ1) (hG : Good C ⟨w, φ, σ, C.ok⟩) {ok0 : Nat → Prop} (hok0 : ok0 = fun b => C.ok b ∧ ∀ i, i < σ.length → lentB ι i = false → φ i ≠ some b)
    (hG1 : Good ⟨w, ok0, mine (fun j => φ (rof ι j)) σ0.length, 0⟩ ⟨w', φ1, σ1, ok0⟩) (hst : ∀ i ∈ st, φ1 i = φ (rof ι i)) :
    ∃ φ', Good C ⟨w', φ', putObs ι σ σ1 0, C.ok⟩ ∧ (∀ v u, AV.rel ⟨w, φ, σ, C.ok⟩ v u → AV.rel ⟨w', φ', putObs ι σ σ1 0, C.ok⟩ (v.rid (lentB ι) (stB' ι st)) u) ∧ (∀ v u, AV.rel ⟨w', φ1, σ1, ok0⟩ v u → AV.rel ⟨w', φ', putObs ι σ σ1 0, C.ok⟩ (v.ren (rof ι)) u) := by
  subst hok0
  have hl0 : σ0.length = ι.length := Nat.eq_of_beq_eq_true hL.len
  have hl1 : σ1.length = ι.length := Nat.eq_of_beq_eq_true hL.len1
  have hlt : ∀ j, j < ι.length → rof ι j < σ.length := fun j hj => by
    have := List.all_eq_true.1 hL.lt ι[j] (List.getElem_mem hj)
    have := Nat.le_of_ble_eq_true this
    simp only [rof, List.getElem?_eq_getElem hj, Option.getD_some]
    omega
  have hinj : ∀ a b, a < ι.length → b < ι.length → rof ι a = rof ι b → a = b := fun a b ha hb e => rof_inj hL.inj ha hb e
  let φ' : Nat → Option Nat := open Classical in fun i => if h : ∃ j, j < ι.length ∧ rof ι j = i then φ1 h.choose else φ i
  have e1 : ∀ j, j < ι.length → φ' (rof ι j) = φ1 j := fun j hj => by
    have hex : ∃ j', j' < ι.length ∧ rof ι j' = rof ι j := ⟨j, hj, rfl⟩
    show (if h : ∃ j', j' < ι.length ∧ rof ι j' = rof ι j then φ1 h.choose else φ (rof ι j)) = _
    rw [dif_pos hex, hinj _ _ hex.choose_spec.1 hj hex.choose_spec.2]
  have e2 : ∀ i, lentB ι i = false → φ' i = φ i := fun i hi => by
    have hex : ¬ ∃ j', j' < ι.length ∧ rof ι j' = i := fun h => by rw [lentB_iff.2 h] at hi; cases hi
    show (if h : ∃ j', j' < ι.length ∧ rof ι j' = i then φ1 h.choose else φ i) = _
    rw [dif_neg hex]
  have hlen' : (putObs ι σ σ1 0).length = σ.length := putObs_len ι σ1 σ 0
  have hat : ∀ (j : Nat) o, σ1[j]? = some o → (putObs ι σ σ1 0)[rof ι j]? = some (o.ren (rof ι)) := fun j o hj => by
    have hjl := (List.getElem?_eq_some_iff.1 hj).1
    have := putObs_at ι σ1 σ 0 (fun a b ha hb e => hinj a b (by omega) (by omega) (by simpa using e)) j o hj (by rw [Nat.zero_add]; exact hlt j (by omega))
    rwa [Nat.zero_add] at this
  have hoff : ∀ i, lentB ι i = false → (putObs ι σ σ1 0)[i]? = σ[i]? := fun i hi => putObs_off ι i σ1 σ 0 fun k hk e => by
    rw [lentB_iff.2 ⟨0 + k, by omega, e⟩] at hi; cases hi
  have hblk : ∀ b, b < w.heap.size → (∀ j, j < ι.length → φ (rof ι j) ≠ some b) → w'.heap[b]? = w.heap[b]? := fun b hb h => hG1.frm.block b hb fun ⟨i, hi, e⟩ => h i (by omega) e
  have hm1 : ∀ j g, j < ι.length → φ1 j = some g → (∃ j', j' < ι.length ∧ φ (rof ι j') = some g) ∨ w.heap.size ≤ g := fun j g hj hg => by
    rcases hG1.mine j g (by simp only; omega) hg with ⟨i, hi, e⟩ | h
    · exact .inl ⟨i, by omega, e⟩
    · exact .inr h
  have hwl : w.heap.size ≤ w'.heap.size := hG1.frm.size
  have hGlt : ∀ i g, i < σ.length → φ i = some g → g < w.heap.size := fun i g hi hg => hG.lt hi hg
  -- a block that an object has now was one's before, or is new
  have hold : ∀ i g, i < σ.length → φ' i = some g → (∃ i', i' < σ.length ∧ φ i' = some g ∧ (lentB ι i = false → i' = i) ∧ (lentB ι i = true → lentB ι i' = true)) ∨ (w.heap.size ≤ g ∧ lentB ι i = true) := fun i g hi hg => by
    cases hb : lentB ι i with
    | false =>
      rw [e2 i hb] at hg
      exact .inl ⟨i, hi, hg, fun _ => rfl, fun h => by cases h⟩
    | true =>
      obtain ⟨j, hj, rfl⟩ := lentB_iff.1 hb
      rw [e1 j hj] at hg
      rcases hm1 j g hj hg with ⟨j', hj', h⟩ | h
      · exact .inl ⟨rof ι j', hlt j' hj', h, fun h => by simp at h, fun _ => lentB_iff.2 ⟨j', hj', rfl⟩⟩
      · exact .inr ⟨h, rfl⟩
  have hok2 : ∀ b, b < w.heap.size → AV.Mem.ok ⟨w, φ, σ, C.ok⟩ b → AV.Mem.ok ⟨w', φ', putObs ι σ σ1 0, C.ok⟩ b := fun b hb ho => ⟨ho.1, fun i hi e => by
    simp only at hi e
    rw [hlen'] at hi
    rcases hold i b hi e with ⟨i', h1, h2, _⟩ | ⟨h, _⟩
    · exact ho.2 i' h1 h2
    · omega⟩
  have hkept : RV.Kept w (AV.Mem.ok ⟨w, φ, σ, C.ok⟩) w' (AV.Mem.ok ⟨w', φ', putObs ι σ σ1 0, C.ok⟩) := ⟨hwl, fun b hb ho => ⟨hok2 b hb ho, hblk b hb fun j hj e => ho.2 (rof ι j) (hlt j hj) e⟩⟩
  have hnb : ∀ i g, i < σ.length → lentB ι i = false → φ i = some g → w'.heap[g]? = w.heap[g]? := fun i g hi hb hg => hblk g (hGlt i g hi hg) fun j hj e => by
    have := hG.inj i (rof ι j) g hi (hlt j hj) hg e
    rw [this, lentB_iff.2 ⟨j, hj, rfl⟩] at hb
    cases hb
  have hrid : ∀ v u, AV.rel ⟨w, φ, σ, C.ok⟩ v u → AV.rel ⟨w', φ', putObs ι σ σ1 0, C.ok⟩ (v.rid (lentB ι) (stB' ι st)) u := rel_rid (m := ⟨w, φ, σ, C.ok⟩) (m' := ⟨w', φ', putObs ι σ σ1 0, C.ok⟩) hkept hlen' (fun i hi h => by
    show φ' i = φ i
    rcases h with h | h
    · exact e2 i h
    · unfold stB' at h
      rw [List.any_eq_true] at h
      obtain ⟨j, hj, hb⟩ := h
      have hjl := Nat.le_of_ble_eq_true (List.all_eq_true.1 hL.stl j hj)
      have := Nat.eq_of_beq_eq_true hb
      subst this
      rw [e1 j (by omega), hst j hj]) hoff hnb
  have hren : ∀ v u, AV.rel ⟨w', φ1, σ1, fun b => C.ok b ∧ ∀ i, i < σ.length → lentB ι i = false → φ i ≠ some b⟩ v u → AV.rel ⟨w', φ', putObs ι σ σ1 0, C.ok⟩ (v.ren (rof ι)) u := rel_ren (n := ι.length) rfl (fun b ho => ⟨ho.1.1, fun i hi e => by
    simp only at hi e
    rw [hlen'] at hi
    cases hb : lentB ι i with
    | false => rw [e2 i hb] at e; exact ho.1.2 i hi hb e
    | true =>
      obtain ⟨j, hj, rfl⟩ := lentB_iff.1 hb
      rw [e1 j hj] at e
      exact ho.2 j (by simp only; omega) e⟩) (fun i hi => e1 i hi) (fun i hi => by simp only [hlen']; exact hlt i hi) hl1 (fun i o hi => ⟨AV.rens (rof ι) o.cs, hat i o hi, rens_len _ _⟩)
  refine ⟨φ', ⟨rfl, fun i j g hi hj h1 h2 => ?_, fun i o hi => ?_, fun i g hi hg => ?_, ⟨hG1.frm.os.trans hG.frm.os, hG1.frm.tape.trans hG.frm.tape, hG1.frm.output.trans hG.frm.output, Nat.le_trans hG.frm.size hwl, fun b hb hm => ?_, hG.frm.new⟩⟩, hrid, hren⟩
  · simp only [hlen'] at hi hj h1 h2
    cases hbi : lentB ι i with
    | true =>
      obtain ⟨a, ha, rfl⟩ := lentB_iff.1 hbi
      cases hbj : lentB ι j with
      | true =>
        obtain ⟨b, hb, rfl⟩ := lentB_iff.1 hbj
        rw [e1 a ha] at h1
        rw [e1 b hb] at h2
        rw [hG1.inj a b g (by simp only; omega) (by simp only; omega) h1 h2]
      | false =>
        rw [e2 j hbj] at h2
        rcases hold _ g hi h1 with ⟨i', k1, k2, _, k4⟩ | ⟨h, _⟩
        · have := hG.inj i' j g k1 hj k2 h2
          rw [this] at k4
          rw [k4 hbi] at hbj; cases hbj
        · have := hGlt j g hj h2; omega
    | false =>
      rw [e2 i hbi] at h1
      rcases hold _ g hj h2 with ⟨j', k1, k2, k3, k4⟩ | ⟨h, _⟩
      · have e := hG.inj i j' g hi k1 h1 k2
        cases hbj : lentB ι j with
        | true => rw [← e] at k4; rw [k4 hbj] at hbi; cases hbi
        | false => rw [e, k3 hbj]
      · have := hGlt i g hi h1; omega
  · show ObRel _ _ (φ' i)
    have hil : i < σ.length := by have := (List.getElem?_eq_some_iff.1 hi).1; simp only [hlen'] at this; exact this
    cases hb : lentB ι i with
    | true =>
      obtain ⟨j, hj, rfl⟩ := lentB_iff.1 hb
      have hj1 : j < σ1.length := by omega
      have hx := hat j _ (List.getElem?_eq_getElem hj1)
      simp only at hi
      rw [hx] at hi; injection hi with hi; subst hi
      have h := hG1.ob j _ (List.getElem?_eq_getElem hj1)
      rw [e1 j hj]
      simp only at h
      cases hφ : φ1 j with
      | none =>
        rw [hφ] at h
        simp only [ObRel, Ob.ren] at h ⊢
        rw [h]; rfl
      | some g =>
        rw [hφ] at h
        obtain ⟨us, q1, q2, q3⟩ := h
        refine ⟨us, q1, by simp only [Ob.ren, rens_len]; exact q2, fun m v hm => ?_⟩
        simp only [Ob.ren, rens_at] at hm
        obtain ⟨v0, hv0, rfl⟩ := Option.map_eq_some_iff.1 hm
        obtain ⟨u, k1, k2, k3⟩ := q3 m v0 hv0
        exact ⟨u, k1, k2, hren v0 u k3⟩
    | false =>
      simp only [hoff i hb] at hi
      have h := hG.ob i o hi
      rw [e2 i hb]
      simp only at h
      cases hφ : φ i with
      | none => rw [hφ] at h; exact h
      | some g =>
        rw [hφ] at h
        obtain ⟨us, q1, q2, q3⟩ := h
        refine ⟨us, (hnb i g hil hb hφ).trans q1, q2, fun m v hm => ?_⟩
        obtain ⟨u, k1, k2, k3⟩ := q3 m v hm
        refine ⟨u, k1, k2, ?_⟩
        have hf := hL.free.at_ i o hi
        rw [Nat.zero_add, hb] at hf
        rcases hf with hf | hf
        · cases hf
        · have := rids_at (lentB ι) (stB' ι st) o.cs m
          rw [hf, hm] at this
          injection this with this
          rw [this]
          exact hrid v u k3
  · simp only [hlen'] at hi hg
    rcases hold i g hi hg with ⟨i', k1, k2, _⟩ | ⟨h, _⟩
    · exact hG.mine i' g k1 k2
    · exact .inr (Nat.le_trans hG.frm.size h)
  · refine (hblk b (Nat.lt_of_lt_of_le hb hG.frm.size) fun j hj e => ?_).trans (hG.frm.block b hb hm)
    rcases hG.mine (rof ι j) b (hlt j hj) e with h | h
    · exact hm h
    · omega
theorem lent_good {ι st : List Nat} {σ0 σ1 : List Ob} {w : World} {φ : Nat → Option Nat} (hL : Lent ι st σ σ0 σ1) (hG : Good C ⟨w, φ, σ, C.ok⟩) {ok0 : Nat → Prop} (hok0 : ok0 = fun b => C.ok b ∧ ∀ i, i < σ.length → lentB ι i = false → φ i ≠ some b) :
    Good ⟨w, ok0, mine (fun j => φ (rof ι j)) σ0.length, 0⟩ ⟨w, fun j => φ (rof ι j), σ0, ok0⟩ ∧ ∀ v u, v.only (fun i => i < σ0.length) → AV.rel ⟨w, φ, σ, C.ok⟩ (v.ren (rof ι)) u → AV.rel ⟨w, fun j => φ (rof ι j), σ0, ok0⟩ v u := by
  subst hok0
  have hl0 : σ0.length = ι.length := Nat.eq_of_beq_eq_true hL.len
  have hlt : ∀ j, j < ι.length → rof ι j < σ.length := fun j hj => by
    have := List.all_eq_true.1 hL.lt ι[j] (List.getElem_mem hj)
    have := Nat.le_of_ble_eq_true this
    simp only [rof, List.getElem?_eq_getElem hj, Option.getD_some]
    omega
  have hat : ∀ (j : Nat) o, σ0[j]? = some o → σ[rof ι j]? = some (o.ren (rof ι)) := fun j o hj => by
    have := hL.at_.at_ j o hj
    rwa [Nat.zero_add] at this
  have hun : ∀ v u, v.only (fun i => i < σ0.length) → AV.rel ⟨w, φ, σ, C.ok⟩ (v.ren (rof ι)) u → AV.rel ⟨w, fun j => φ (rof ι j), σ0, fun b => C.ok b ∧ ∀ i, i < σ.length → lentB ι i = false → φ i ≠ some b⟩ v u :=
    rel_unren (m := ⟨w, φ, σ, C.ok⟩) rfl (fun b ho => ⟨⟨ho.1, fun i hi _ => ho.2 i hi⟩, fun j hj => ho.2 (rof ι j) (hlt j (by simp only at hj; omega))⟩) (fun i _ => rfl) rfl (fun i o hi ho => by
      simp only at ho
      have := hat i _ (List.getElem?_eq_getElem hi)
      rw [this] at ho; injection ho with ho; subst ho
      exact ⟨σ0[i].cs, List.getElem?_eq_getElem hi, by simp only [Ob.ren, rens_len]⟩)
  refine ⟨⟨rfl, fun i j g hi hj h1 h2 => ?_, fun j o hj => ?_, fun i g hi hg => .inl ⟨i, hi, hg⟩, ⟨rfl, rfl, rfl, Nat.le_refl _, fun _ _ _ => rfl, fun b hb => ⟨hG.frm.new b (Nat.le_trans hG.frm.size hb), fun i hi _ e => by have := hG.lt (m := ⟨w, φ, σ, C.ok⟩) hi e; simp only at this hb; omega⟩⟩⟩, hun⟩
  · simp only at hi hj
    exact rof_inj hL.inj (by omega) (by omega) (hG.inj _ _ g (hlt i (by omega)) (hlt j (by omega)) h1 h2)
  · simp only at hj
    have h := hG.ob _ _ (hat j o hj)
    show ObRel _ _ (φ (rof ι j))
    simp only at h
    cases hφ : φ (rof ι j) with
    | none =>
      rw [hφ] at h
      simp only [ObRel, Ob.ren] at h ⊢
      have := rens_len (rof ι) o.cs
      rw [h] at this
      exact List.eq_nil_of_length_eq_zero (by simpa using this.symm)
    | some g =>
      rw [hφ] at h
      obtain ⟨us, q1, q2, q3⟩ := h
      simp only [Ob.ren, rens_len] at q2
      refine ⟨us, q1, q2, fun m v hm => ?_⟩
      obtain ⟨u, k1, k2, k3⟩ := q3 m (v.ren (rof ι)) (by simp only [Ob.ren, rens_at, hm]; rfl)
      exact ⟨u, k1, k2, hun v u (onlys_mem (hL.closed.at_ j o hj) m v hm) k3⟩
theorem rels_unpin {m : Mem} : ∀ (vs : List AV) (us : List Value), AV.rels m vs us → AV.rels m (vs.map unpin) us
  | [], us, h => by simpa [AV.rels] using h
  | x :: xs, us, h => by
    simp only [List.map_cons, AV.rels] at h ⊢
    obtain ⟨u, us', e, h1, h2⟩ := h
    exact ⟨u, us', e, unpin_rel h1, rels_unpin xs us' h2⟩
theorem op_callM {f : FuncId} {fn : Func} {xs : Array Operand} {ats : Array TypeId} {σ0 σ1 : List Ob} {st : List Nat} {args : List AV} {v : AV} {d : Option Nat} [hfn : FN P f fn] (ι : List Nat) (hf : AM P f σ0 st args σ1 v)
    (ha : (xs.toList.map (ev env)).map unpin = AV.rens (rof ι) args) (hcl : AV.onlys (fun i => i < σ0.length) args) (hL : Lent ι st σ σ0 σ1) (ht : ∀ t, d = some t → t < C.n)
    (hk : RunsL P C ops rest k R ⟨putEnv d (v.ren (rof ι)) (ridEnv (lentB ι) (stB' ι st) env), putObs ι σ σ1 0⟩) :
    RunsL P C ops (⟨d, .call { callee := .value (.func f), args := xs, argTypes := ats }, ty, pos, after, none⟩ :: rest) k R ⟨env, σ⟩ := by
  refine ⟨fun a w ⟨s1, s2, φ, hG, hH⟩ => ?_⟩
  refine wpList_plain rfl fun K hK' => ?_
  have hr := rels_unpin _ _ (rels_eval (a := a) (m := ⟨w, φ, σ, C.ok⟩) xs.toList fun x hx => ev_rel hH x)
  rw [ha] at hr
  obtain ⟨hG0, hun⟩ := lent_good hL hG rfl
  have key : ∀ (vs : List AV) (us : List Value), AV.onlys (fun i => i < σ0.length) vs → AV.rels ⟨w, φ, σ, C.ok⟩ (AV.rens (rof ι) vs) us → AV.rels ⟨w, fun j => φ (rof ι j), σ0, fun b => C.ok b ∧ ∀ i, i < σ.length → lentB ι i = false → φ i ≠ some b⟩ vs us := by
    intro vs
    induction vs with
    | nil => intro us _ h; simpa [AV.rens, AV.rels] using h
    | cons x xs ih =>
      intro us ho h
      simp only [AV.rens, AV.rels, AV.onlys] at h ho ⊢
      obtain ⟨u, us', e, h1, h2⟩ := h
      exact ⟨u, us', e, hun x u ho.1 h1, ih us' ho.2 h2⟩
  unfold Oper.wp
  rw [execOp_call_go, run_call hfn]
  simp only [Oper.upon]
  refine (hf w _ _ _ hG0 (by simpa using key args _ hcl hr)).mono ?_
  rintro e w' ⟨u, φ1, rfl, hG1, hv, hst⟩
  obtain ⟨φ', g1, g2, g3⟩ := lent_step hL hG rfl hG1 hst
  cases d with
  | none => exact hK' _ _ (hk.run _ _ ⟨s1, s2, φ', g1, fun s => by rw [show look (⟨putEnv none _ _, _⟩ : St).env s = _ from look_ridEnv _ _ _ _]; exact g2 _ _ (hH s)⟩)
  | some t => exact hK' _ _ (hk.run _ _ ⟨s1, by simp [Act.put, s2], φ', g1, Holds.put (fun s => by rw [look_ridEnv]; exact g2 _ _ (hH s)) (by rw [s2]; exact ht t rfl) (g3 _ _ hv)⟩)
end
end Go.Proofs.Ytdikinkihnepaaa
/- Functions that are handed the first objects of their caller's. Over any program. -/
namespace Go.Proofs.Ytdikinkihnepaaa
set_option linter.unusedSimpArgs false
set_option linter.unusedVariables false
open Go.RowKit
open AV (Mem Keeps)
def ltB (n i : Nat) : Bool := Nat.ble (i + 1) n
def memB (st : List Nat) (i : Nat) : Bool := st.any fun j => Nat.beq j i
def FreeP (n : Nat) (st : List Nat) : List Ob → Prop
  | [] => True
  | o :: os => AV.rids (ltB n) (memB st) o.cs = o.cs ∧ FreeP n st os
theorem rof_range {n i : Nat} (h : i < n) : rof (List.range n) i = i := by simp [rof, h]
theorem lentB_range (n : Nat) : lentB (List.range n) = ltB n := by
  funext i
  rw [Bool.eq_iff_iff, lentB_iff]
  unfold ltB
  rw [List.length_range]
  constructor
  · rintro ⟨j, hj, e⟩
    rw [rof_range hj] at e
    subst e
    exact Nat.ble_eq_true_of_le hj
  · intro h
    have := Nat.le_of_ble_eq_true h
    exact ⟨i, this, rof_range this⟩
theorem stB_range {n : Nat} {st : List Nat} (h : (st.all fun j => Nat.ble (j + 1) n) = true) : stB' (List.range n) st = memB st := by
  funext i
  unfold stB' memB
  rw [Bool.eq_iff_iff, List.any_eq_true, List.any_eq_true]
  constructor
  · rintro ⟨j, hj, e⟩
    have := Nat.le_of_ble_eq_true (List.all_eq_true.1 h j hj)
    rw [rof_range this] at e
    exact ⟨j, hj, e⟩
  · rintro ⟨j, hj, e⟩
    have := Nat.le_of_ble_eq_true (List.all_eq_true.1 h j hj)
    exact ⟨j, hj, by rw [rof_range this]; exact e⟩
mutual
theorem ren_id {r : Nat → Nat} {n : Nat} (hr : ∀ i, i < n → r i = i) : ∀ v : AV, v.only (fun i => i < n) → v.ren r = v
  | .ro _, _ | .junk, _ => rfl
  | .obj i off, h => by simp only [AV.only] at h; simp only [AV.ren, hr i h]
  | .pin i off g, h => by simp only [AV.only] at h; simp only [AV.ren, hr i h]
  | .own i, h => by simp only [AV.only] at h; simp only [AV.ren, hr i h]
  | .agg cs, h => by simp only [AV.only] at h; simp only [AV.ren, rens_id hr cs h]
  | .tup cs, h => by simp only [AV.only] at h; simp only [AV.ren, rens_id hr cs h]
  | .fn f a b, h => by simp only [AV.only] at h; simp only [AV.ren, rens_id hr a h.1, rens_id hr b h.2]
theorem rens_id {r : Nat → Nat} {n : Nat} (hr : ∀ i, i < n → r i = i) : ∀ vs : List AV, AV.onlys (fun i => i < n) vs → AV.rens r vs = vs
  | [], _ => rfl
  | x :: xs, h => by simp only [AV.onlys] at h; simp only [AV.rens, ren_id hr x h.1, rens_id hr xs h.2]
end
theorem obren_id {r : Nat → Nat} {n : Nat} (hr : ∀ i, i < n → r i = i) {o : Ob} (h : AV.onlys (fun i => i < n) o.cs) : o.ren r = o := by
  simp only [Ob.ren, rens_id hr o.cs h]
theorem lentAt_of {ι : List Nat} {σ : List Ob} : ∀ (os : List Ob) (j : Nat), (∀ (k : Nat) o, os[k]? = some o → σ[rof ι (j + k)]? = some (o.ren (rof ι))) → LentAt ι σ os j
  | [], j, _ => trivial
  | o :: os, j, h => ⟨by simpa using h 0 o rfl, lentAt_of os (j + 1) fun k o' hk => by
      have := h (k + 1) o' (by simpa using hk)
      rwa [show j + (k + 1) = j + 1 + k by omega] at this⟩
theorem freeR_of {ι st : List Nat} : ∀ (os : List Ob) (i : Nat), (∀ (k : Nat) o, os[k]? = some o → lentB ι (i + k) = true ∨ AV.rids (lentB ι) (stB' ι st) o.cs = o.cs) → FreeR ι st i os
  | [], i, _ => trivial
  | o :: os, i, h => ⟨by simpa using h 0 o rfl, freeR_of os (i + 1) fun k o' hk => by
      have := h (k + 1) o' (by simpa using hk)
      rwa [show i + (k + 1) = i + 1 + k by omega] at this⟩
theorem FreeP.at_ {n : Nat} {st : List Nat} : ∀ {os : List Ob}, FreeP n st os → ∀ (k : Nat) o, os[k]? = some o → AV.rids (ltB n) (memB st) o.cs = o.cs
  | [], _, k, o, h => by simp at h
  | x :: os, hl, k, o, h => by
    simp only [FreeP] at hl
    cases k with
    | zero => simp at h; subst h; exact hl.1
    | succ k => simp at h; exact FreeP.at_ hl.2 k o h
section
variable {P : Program} {C : Ctx} {ops : Array Oper} {rest : List Oper} {k : List Item} {R : Act → World → Prop} {env : Env} {σ : List Ob} {t : Nat} {ty : TypeId} {pos : String} {after : Array Edge}
theorem lent_range {n : Nat} {σ0 σ1 more : List Ob} {st : List Nat} (hn0 : Nat.beq σ0.length n = true) (hn1 : Nat.beq σ1.length n = true) (h0 : FreeO n σ0) (h1 : FreeO n σ1) (hst : (st.all fun j => Nat.ble (j + 1) n) = true) (hfree : FreeP n st more) :
    Lent (List.range n) st (σ0 ++ more) σ0 σ1 ∧ putObs (List.range n) (σ0 ++ more) σ1 0 = σ1 ++ more := by
  have e0 : σ0.length = n := Nat.eq_of_beq_eq_true hn0
  have e1 : σ1.length = n := Nat.eq_of_beq_eq_true hn1
  have hr : ∀ i, i < n → rof (List.range n) i = i := fun i hi => rof_range hi
  refine ⟨⟨by rw [List.length_range]; exact hn0, by rw [List.length_range]; exact hn1, ?_, List.nodup_range, lentAt_of _ _ fun j o hj => ?_, by rw [e0]; exact h0, by rw [List.length_range]; exact hst, freeR_of _ _ fun j o hj => ?_⟩, ?_⟩
  · rw [List.all_eq_true]
    intro i hi
    rw [List.mem_range] at hi
    exact Nat.ble_eq_true_of_le (by rw [List.length_append]; omega)
  · have hjl := (List.getElem?_eq_some_iff.1 hj).1
    rw [Nat.zero_add, hr j (by omega), List.getElem?_append_left hjl, hj, obren_id hr (h0.at_ j o hj)]
  · rw [Nat.zero_add, lentB_range, stB_range hst]
    rcases Nat.lt_or_ge j n with h | h
    · exact .inl (Nat.ble_eq_true_of_le h)
    · rw [List.getElem?_append_right (by omega)] at hj
      exact .inr (hfree.at_ _ o hj)
  · refine List.ext_getElem? fun i => ?_
    rcases Nat.lt_or_ge i n with h | h
    · have hx : σ1[i]? = some _ := List.getElem?_eq_getElem (show i < σ1.length by omega)
      have := putObs_at (List.range n) σ1 (σ0 ++ more) 0 (fun a b ha hb e => by
        rw [Nat.zero_add, Nat.zero_add, hr a (by omega), hr b (by omega)] at e; exact e) i _ hx (by rw [Nat.zero_add, hr i h, List.length_append]; omega)
      rw [Nat.zero_add, hr i h, obren_id hr (h1.at_ i _ hx)] at this
      rw [this, List.getElem?_append_left (by omega), hx]
    · rw [putObs_off (List.range n) i σ1 (σ0 ++ more) 0 fun k hk e => by rw [Nat.zero_add, hr k (by omega)] at e; omega]
      rw [List.getElem?_append_right (by omega), List.getElem?_append_right (by omega), e0, e1]
theorem op_callP {f : FuncId} {fn : Func} {xs : Array Operand} {ats : Array TypeId} {σ0 σ1 more : List Ob} {st : List Nat} {args : List AV} {v : AV} {d : Option Nat} [hfn : FN P f fn] (n : Nat) (hf : AM P f σ0 st args σ1 v)
    (ha : (xs.toList.map (ev env)).map unpin = args) (hcl : AV.onlys (fun i => i < n) args) (hv : v.only fun i => i < n) (hσ : σ = σ0 ++ more) (hn0 : Nat.beq σ0.length n = true) (hn1 : Nat.beq σ1.length n = true) (h0 : FreeO n σ0) (h1 : FreeO n σ1) (hst : (st.all fun j => Nat.ble (j + 1) n) = true) (hfree : FreeP n st more) (ht : ∀ t, d = some t → t < C.n)
    (hk : RunsL P C ops rest k R ⟨putEnv d v (ridEnv (ltB n) (memB st) env), σ1 ++ more⟩) :
    RunsL P C ops (⟨d, .call { callee := .value (.func f), args := xs, argTypes := ats }, ty, pos, after, none⟩ :: rest) k R ⟨env, σ⟩ := by
  subst hσ
  obtain ⟨hL, hp⟩ := lent_range hn0 hn1 h0 h1 hst hfree
  have hr : ∀ i, i < n → rof (List.range n) i = i := fun i hi => rof_range hi
  have e0 : σ0.length = n := Nat.eq_of_beq_eq_true hn0
  refine op_callM (List.range n) hf (by rw [ha, rens_id hr args hcl]) (by rw [e0]; exact hcl) hL ht ?_
  rw [hp, lentB_range, stB_range hst, ren_id hr v hv]
  exact hk
theorem op_callMF {f : FuncId} {fn : Func} {x : Operand} {xs : Array Operand} {ats : Array TypeId} {σ0 σ1 : List Ob} {st : List Nat} {args : List AV} {v : AV} {d : Option Nat} [hfn : FN P f fn] (ι : List Nat) (hx : ev env x = .fn (.func f) [] []) (hf : AM P f σ0 st args σ1 v)
    (ha : (xs.toList.map (ev env)).map unpin = AV.rens (rof ι) args) (hcl : AV.onlys (fun i => i < σ0.length) args) (hL : Lent ι st σ σ0 σ1) (ht : ∀ t, d = some t → t < C.n)
    (hk : RunsL P C ops rest k R ⟨putEnv d (v.ren (rof ι)) (ridEnv (lentB ι) (stB' ι st) env), putObs ι σ σ1 0⟩) :
    RunsL P C ops (⟨d, .call { callee := .value x, args := xs, argTypes := ats }, ty, pos, after, none⟩ :: rest) k R ⟨env, σ⟩ := by
  refine ⟨fun a w ⟨s1, s2, φ, hG, hH⟩ => ?_⟩
  refine wpList_plain rfl fun K hK' => ?_
  have h0 := ev_rel hH x
  rw [hx] at h0
  simp only [AV.rel, AV.rels] at h0
  obtain ⟨us, vs, e, hu, hv0⟩ := h0
  have hu' : us = #[] := by cases us; simp_all
  have hv' : vs = #[] := by cases vs; simp_all
  subst hu'; subst hv'
  have hr := rels_unpin _ _ (rels_eval (a := a) (m := ⟨w, φ, σ, C.ok⟩) xs.toList fun x hx => ev_rel hH x)
  rw [ha] at hr
  obtain ⟨hG0, hun⟩ := lent_good hL hG rfl
  have key : ∀ (vs : List AV) (us : List Value), AV.onlys (fun i => i < σ0.length) vs → AV.rels ⟨w, φ, σ, C.ok⟩ (AV.rens (rof ι) vs) us → AV.rels ⟨w, fun j => φ (rof ι j), σ0, fun b => C.ok b ∧ ∀ i, i < σ.length → lentB ι i = false → φ i ≠ some b⟩ vs us := by
    intro vs
    induction vs with
    | nil => intro us _ h; simpa [AV.rens, AV.rels] using h
    | cons x xs ih =>
      intro us ho h
      simp only [AV.rens, AV.rels, AV.onlys] at h ho ⊢
      obtain ⟨u, us', e, h1, h2⟩ := h
      exact ⟨u, us', e, hun x u ho.1 h1, ih us' ho.2 h2⟩
  unfold Oper.wp execOp
  simp only [resolve, e, Deferred.ofValue, Sem.run_bind, Sem.run_pure, Result.andThen_ok, invoke]
  rw [run_call hfn]
  simp only [Oper.upon]
  refine (hf w _ _ _ hG0 (by simpa using key args _ hcl hr)).mono ?_
  rintro e w' ⟨u, φ1, rfl, hG1, hv, hst⟩
  obtain ⟨φ', g1, g2, g3⟩ := lent_step hL hG rfl hG1 hst
  cases d with
  | none => exact hK' _ _ (hk.run _ _ ⟨s1, s2, φ', g1, fun s => by rw [show look (⟨putEnv none _ _, _⟩ : St).env s = _ from look_ridEnv _ _ _ _]; exact g2 _ _ (hH s)⟩)
  | some t => exact hK' _ _ (hk.run _ _ ⟨s1, by simp [Act.put, s2], φ', g1, Holds.put (fun s => by rw [look_ridEnv]; exact g2 _ _ (hH s)) (by rw [s2]; exact ht t rfl) (g3 _ _ hv)⟩)
theorem pu_nilCheckP {gd : Option (Nat × Bool)} {x : Operand} {i off g : Nat} (hx : ev env x = .pin i off g) : Pur P C ⟨some t, .nilCheck x, ty, pos, after, gd⟩ env σ (.pin i off g) :=
  Pur.of (fun a m hG hσ hH => by
    have h := hH x (by simp [Op.operands, Call.operands])
    rw [hx] at h
    have h' := h
    simp only [AV.rel] at h
    obtain ⟨_, _, e⟩ := h
    exact ⟨a.eval x, by simp [execOp, e], h'⟩)
theorem pu_nilCheckO {gd : Option (Nat × Bool)} {x : Operand} {i off : Nat} (hx : ev env x = .obj i off) : Pur P C ⟨some t, .nilCheck x, ty, pos, after, gd⟩ env σ (.obj i off) :=
  Pur.of (fun a m hG hσ hH => by
    have h := hH x (by simp [Op.operands, Call.operands])
    rw [hx] at h
    have h' := h
    simp only [AV.rel] at h
    obtain ⟨_, g, _, e⟩ := h
    exact ⟨a.eval x, by simp [execOp, e], h'⟩)
theorem op_appendB {tt e : TypeId} {z : Value} {sz bytes i : Nat} {o : Ob} {rs : List RV} {els : List (List RV)} {x y : Operand} [hs : SL P tt e z sz bytes] (hx : ev env x = .own i) (ho : σ[i]? = some o) (hc : allRo o.cs = some rs) (hy : ev env y = .ro (.seq sz els)) (het : o.t = e) (hes : o.sz = sz)
    (hn : rs.length = (rs.length / sz) * sz) (hfree : FreeI i (σ.set i ⟨o.t, o.sz, []⟩)) (b1 : rs.length / sz + els.length ≤ 4294967296) (b2 : Nat.ble bytes 256 = true) (ht : t < C.n)
    (hk : RunsL P C ops rest k R ⟨(t, .own i) :: killEnv i env, σ.set i ⟨e, sz, (rs ++ els.flatten).map .ro⟩⟩) :
    RunsL P C ops (⟨some t, .call { callee := .builtin .append, args := #[x, y], argTypes := #[tt, tt] }, ty, pos, after, none⟩ :: rest) k R ⟨env, σ⟩ :=
  op_append (n := rs.length / sz) hx ho (allRo_eq hc) hy het hes hn (fun j ob hj => by
    by_cases hji : j = i
    · subst hji
      rw [ho] at hj; injection hj with hj; subst hj
      rw [allRo_eq hc]; exact onlys_ro _ _
    · exact hfree.at_ j ob (by rw [List.getElem?_set_ne (Ne.symm hji)]; exact hj)) (by omega) (by
    have h := Nat.le_of_ble_eq_true b2
    have := Nat.mul_le_mul b1 h
    omega) ht hk
theorem Lends.pin {i off g : Nat} {o : Ob} {rs : List RV} (ho : σ[i]? = some o) (h : LendsL C σ (o.cs.drop off) rs) : Lends C σ (.pin i off g) (.rp rs) := fun m u ok' hG hσ k1 k2 hu => by
  refine Lends.obj ho h m u ok' hG hσ k1 k2 ?_
  exact unpin_rel (v := .pin i off g) hu
theorem sim_nilCell (i p : Nat) {o : Ob} {e : TypeId} {sz : Nat} (hs : 0 < sz) (ho : σ[i]? = some o) (h : o.cs[p]? = some .nil) {a : Act} {w : World} (hsim : Sim C ⟨env, σ⟩ a w) : Sim C ⟨env, σ.set i ⟨o.t, o.sz, o.cs.set p (.own σ.length)⟩ ++ [⟨e, sz, []⟩]⟩ a w := by
  obtain ⟨h1, h2, φ, hG, hH⟩ := hsim
  have hil := (List.getElem?_eq_some_iff.1 ho).1
  obtain ⟨g1, g2⟩ := good_grow (φ' := upd φ σ.length none) (new := [⟨e, sz, []⟩]) hG (Below.refl _ _) (fun i hi => upd_ne (show i ≠ σ.length from Nat.ne_of_lt hi)) (fun j hj g hg => by
      simp at hj; subst hj; simp [upd_eq] at hg) (fun i j g hi hj _ _ => by simp at hi hj; omega) (fun j o hj => by
      cases j with
      | zero => simp at hj; subst hj; simp [upd_eq, ObRel]
      | succ j => simp at hj)
  -- the cell is that row
  have hlen : (σ.set i ⟨o.t, o.sz, o.cs.set p (.own σ.length)⟩ ++ [(⟨e, sz, []⟩ : Ob)]).length = (σ ++ [(⟨e, sz, []⟩ : Ob)]).length := by simp
  have hat : ∀ j, j ≠ i → (σ.set i ⟨o.t, o.sz, o.cs.set p (.own σ.length)⟩ ++ [(⟨e, sz, []⟩ : Ob)])[j]? = (σ ++ [(⟨e, sz, []⟩ : Ob)])[j]? := fun j hj => by
    rcases Nat.lt_or_ge j σ.length with h | h
    · rw [List.getElem?_append_left (by simpa using h), List.getElem?_append_left h, List.getElem?_set_ne (Ne.symm hj)]
    · rw [List.getElem?_append_right (by simpa using h), List.getElem?_append_right h]; simp
  have hati : (σ.set i ⟨o.t, o.sz, o.cs.set p (.own σ.length)⟩ ++ [(⟨e, sz, []⟩ : Ob)])[i]? = some ⟨o.t, o.sz, o.cs.set p (.own σ.length)⟩ := by
    rw [List.getElem?_append_left (by simpa using hil), List.getElem?_set_self hil]
  have hati0 : (σ ++ [(⟨e, sz, []⟩ : Ob)])[i]? = some o := by rw [List.getElem?_append_left hil]; exact ho
  have hK : Keeps (fun _ => True) ⟨w, upd φ σ.length none, σ ++ [⟨e, sz, []⟩], C.ok⟩ ⟨w, upd φ σ.length none, σ.set i ⟨o.t, o.sz, o.cs.set p (.own σ.length)⟩ ++ [⟨e, sz, []⟩], C.ok⟩ := by
    refine ⟨⟨Nat.le_refl _, fun b _ hb => ⟨⟨hb.1, fun j hj => hb.2 j (by rw [← hlen]; exact hj)⟩, rfl⟩⟩, fun j _ hj => ⟨by rw [← hlen] at hj; exact hj, rfl⟩, fun j ob _ hj => ?_, fun j g us t _ _ _ hh => ⟨us, hh, rfl⟩⟩
    by_cases e : j = i
    · subst e
      simp only at hj
      rw [hati0] at hj; injection hj with hj; subst hj
      exact ⟨_, hati, by simp⟩
    · exact ⟨ob.cs, by simp only; rw [hat j e]; exact hj, rfl⟩
  refine ⟨h1, h2, upd φ σ.length none, ⟨rfl, fun a b g ha hb => g1.inj a b g (by rw [← hlen]; exact ha) (by rw [← hlen]; exact hb), fun j ob hj => ?_, fun j g hj => g1.mine j g (by rw [← hlen]; exact hj), g1.frm⟩, (hH.keeps g2).keeps hK⟩
  by_cases e' : j = i
  · subst e'
    simp only at hj
    rw [hati] at hj; injection hj with hj; subst hj
    have h0 := g1.ob j o hati0
    show ObRel _ _ (upd φ σ.length none j)
    simp only at h0
    cases hφ : upd φ σ.length none j with
    | none =>
      rw [hφ] at h0
      simp only [ObRel] at h0
      rw [h0] at h; simp at h
    | some g =>
      rw [hφ] at h0
      obtain ⟨us, q1, q2, q3⟩ := h0
      refine ⟨us, q1, by simpa using q2, fun m v hm => ?_⟩
      simp only [List.getElem?_set] at hm
      split at hm
      · rename_i hpm
        subst hpm
        split at hm
        · injection hm with hm; subst hm
          obtain ⟨u, k1, k2, k3⟩ := q3 p _ h
          simp only [AV.rel, RV.rel] at k3
          subst k3
          refine ⟨_, k1, rfl, ?_⟩
          simp only [AV.rel]
          exact ⟨⟨e, sz, []⟩, 0, by rw [List.getElem?_append_right (by simp)]; simp, by simp, hs, .inl ⟨by first | rfl | trivial, by first | rfl | trivial, upd_eq⟩⟩
        · cases hm
      · obtain ⟨u, k1, k2, k3⟩ := q3 m v hm
        exact ⟨u, k1, k2, AV.rel_keeps hK _ _ (AV.only_true _) k3⟩
  · simp only at hj
    rw [hat j e'] at hj
    exact (g1.ob j ob hj).keeps hK fun _ _ => rfl
theorem RunsL.nilCell {l : List Oper} (i p : Nat) {o : Ob} {e : TypeId} {sz : Nat} (hs : 0 < sz) (ho : σ[i]? = some o) (h : o.cs[p]? = some .nil) (hk : RunsL P C ops l k R ⟨env, σ.set i ⟨o.t, o.sz, o.cs.set p (.own σ.length)⟩ ++ [⟨e, sz, []⟩]⟩) : RunsL P C ops l k R ⟨env, σ⟩ :=
  ⟨fun a w hsim => hk.run a w (sim_nilCell i p hs ho h hsim)⟩
theorem Runs.nilCell (i p : Nat) {o : Ob} {e : TypeId} {sz : Nat} (hs : 0 < sz) (ho : σ[i]? = some o) (h : o.cs[p]? = some .nil) (hk : Runs P C k R ⟨env, σ.set i ⟨o.t, o.sz, o.cs.set p (.own σ.length)⟩ ++ [⟨e, sz, []⟩]⟩) : Runs P C k R ⟨env, σ⟩ :=
  ⟨fun a w hsim => hk.run a w (sim_nilCell i p hs ho h hsim)⟩
theorem pu_callSL {gd : Option (Nat × Bool)} {f : FuncId} {fn : Func} {xs : Array Operand} {ats : Array TypeId} {args : List RV} {e : TypeId} {sz : Nat} {vs : List Value} {els : List (List RV)} [hfn : FN P f fn] (hf : AC P f args fun rr => rr = .row e sz (vs.map .c)) (hels : els.flatten = vs.map .c) (hl : ∀ x ∈ els, x.length = sz) (ha : LendsL C σ (xs.toList.map (ev env)) args) :
    Pur P C ⟨some t, .call { callee := .value (.func f), args := xs, argTypes := ats }, ty, pos, after, gd⟩ env σ (.ro (.seq sz els)) := by
  refine ⟨fun a m hG hσ hH K Q hK => ?_⟩
  have hr := LendsL.rels (ok' := fun _ => True) hG hσ (fun _ _ => trivial) (fun _ _ _ _ => trivial) ha _ (rels_eval (a := a) (m := m) xs.toList fun x hx => hH x (by simp [Op.operands, Call.operands]; exact .inr (by simpa using hx)))
  unfold Oper.wp
  rw [execOp_call_go, run_call hfn]
  simp only [Oper.upon]
  refine (hf m.w (fun _ => True) _ (fun _ _ => trivial) (by simpa using hr)).mono ?_
  rintro e' w' ⟨u, rr, bs, rfl, rfl, h1, _, h3, h4⟩
  refine hK u w' h4 ?_
  simp only [RR.rel] at h1
  obtain ⟨n, xs', k1, k2, k3, k4, k5, rfl⟩ := h1
  have e2 := agg_flat (m := ⟨w', fun _ => none, [], fun b => True ∧ b ∉ u.ownBlock.toList⟩) vs xs' (RV.rels_mono ⟨Nat.le_refl _, fun b _ hb => ⟨⟨hb, fun i hi => by simp at hi⟩, rfl⟩⟩ _ _ k3)
  subst e2
  simp only [AV.rel]
  refine seals_rel (ok := m.ok) (ok' := m.ok) (fun b hb => hb) (.row e sz (xs'.map .c)) (.seq sz els) u u.ownBlock.toList (by simp only [Seals]; exact ⟨els, rfl, hels, hl⟩) (by simp only [RR.rel]; exact ⟨n, xs', k1, k2, rels_const xs', k4, k5, trivial⟩) fun b hb => ok_args hG b (h3 b hb).1
theorem pu_fieldV {gd : Option (Nat × Bool)} {s : TypeId} {x : Operand} {f off : Nat} {rs : List RV} {r : RV} {fields : Array Field} {fl : Field} (hu : P.underlying s = some (.struct fields)) (hf : fields[f]? = some fl) (ho : fl.offset = off) [h1 : T1 P fl.type] (hx : ev env x = .ro (.agg rs)) (hr : rs[off]? = some r) :
    Pur P C ⟨some t, .field s x f, ty, pos, after, gd⟩ env σ (.ro r) :=
  Pur.of (fun a m hG hσ hH => by
    have h := hH x (by simp [Op.operands, Call.operands])
    rw [hx] at h
    simp only [AV.rel, RV.rel] at h
    obtain ⟨us, e, hr'⟩ := h
    obtain ⟨u, k1, k2⟩ := RV.rels_at rs _ hr' off r hr
    have k1' : us[off]? = some u := by simpa using k1
    refine ⟨u, ?_, by simpa only [AV.rel] using k2⟩
    simp [execOp, e, Instr.field, run_underlying hu, hf, ho, asAgg, part, run_isAgg1 (P := P) (t := fl.type), k1'])
end
end Go.Proofs.Ytdikinkihnepaaa
/- Wrapping at 64 bits. -/
namespace Go.Proofs.Ytdikinkihnepaaa
set_option linter.unusedSimpArgs false
set_option linter.unusedVariables false
open Go.RowKit
abbrev w64 (x : Int) : Int := IntKind.i64.wrap x
theorem w64_add (x y : Int) : w64 (w64 x + y) = w64 (x + y) := by simp only [w64, IntKind.wrap, IntKind.bits, IntKind.signed]; simp; omega
theorem w64_add' (x y : Int) : w64 (x + w64 y) = w64 (x + y) := by simp only [w64, IntKind.wrap, IntKind.bits, IntKind.signed]; simp; omega
theorem w64_id {x : Int} (h : -9223372036854775808 ≤ x ∧ x ≤ 9223372036854775807) : w64 x = x := by simp only [w64, IntKind.wrap, IntKind.bits, IntKind.signed]; simp; omega
end Go.Proofs.Ytdikinkihnepaaa
/- Functions that return a pointer at a new object. Over any program. -/
namespace Go.Proofs.Ytdikinkihnepaaa
set_option linter.unusedSimpArgs false
set_option linter.unusedVariables false
open Go.RowKit
open AV (Mem Keeps)
def ANew (P : Program) (f : FuncId) (args : List RV) (e : TypeId) (cs : List RV) : Prop :=
  ∀ (w : World) (ok : Nat → Prop) (us : Array Value), (∀ b, w.heap.size ≤ b → ok b) → RV.rels w ok args us.toList →
    Calls P f us w fun ee w' => ∃ g vs, ee = .returned (.pointer (some ⟨g, 0, none⟩)) ∧ w.heap.size ≤ g ∧ w'.heap[g]? = some (.cells vs e (0, 0)) ∧ cs.length ≤ vs.size ∧
      (∀ (j : Nat) r, cs[j]? = some r → ∃ u, vs[j]? = some u ∧ u.oneCell' = true ∧ RV.rel w' (fun b => ok b ∧ b ≠ g) r u) ∧ Below w.heap.size w w'
def EndsN (P : Program) (C : Ctx) (fn : Func) (e : TypeId) (cs : List RV) (a : Act) (w : World) : Prop :=
  a.defers = [] ∧ ∃ g vs, (results fn a.tmps).run P w = .ok (.pointer (some ⟨g, 0, none⟩)) w ∧ C.w0.heap.size ≤ g ∧ w.heap[g]? = some (.cells vs e (0, 0)) ∧ cs.length ≤ vs.size ∧
      (∀ (j : Nat) r, cs[j]? = some r → ∃ u, vs[j]? = some u ∧ u.oneCell' = true ∧ RV.rel w (fun b => C.ok b ∧ b ≠ g) r u) ∧ Below C.w0.heap.size C.w0 w
theorem anew_enter {P : Program} {f : FuncId} {fn : Func} {c : Code} {args : List RV} {e : TypeId} {cs : List RV} (hf : P.funcs[f]? = some fn) (hb : fn.body = some c) (n : Nat) (hn : fn.ntmps = n) (hl : args.length ≤ n)
    (h : ∀ C : Ctx, C.n = n → (∀ b, ¬ C.mu b) → Runs P C [.code c] (EndsN P C fn e cs) ⟨startEnv 0 args, []⟩) : ANew P f args e cs := by
  intro w ok us h0 hu
  have hlen := RV.rels_len args _ hu
  refine calls_of_fin hf hb ?_
  have hs : Sim ⟨w, ok, fun _ => False, n⟩ ⟨startEnv 0 args, []⟩ { tmps := us ++ Array.replicate (fn.ntmps - us.size) undef, defers := [] } w := by
    refine ⟨rfl, by simp at hlen ⊢; omega, fun _ => none, ⟨rfl, fun i j g hi => by simp at hi, fun i o hi => by simp at hi, fun i g hi => by simp at hi, ⟨rfl, rfl, rfl, Nat.le_refl _, fun _ _ _ => rfl, h0⟩⟩, fun t => ?_⟩
    rw [start_look]
    simp only [Nat.zero_le, if_true, Nat.sub_zero]
    cases hr : args[t]? with
    | none => simp [AV.rel]
    | some r =>
      obtain ⟨u, e1, e2⟩ := RV.rels_at args _ hu t r hr
      have ht : t < us.size := by have := (List.getElem?_eq_some_iff.1 e1).1; simpa using this
      simp only [AV.rel]
      have : (us ++ Array.replicate (fn.ntmps - us.size) undef).getD t undef = u := by
        rw [Array.getD_eq_getD_getElem?, Array.getElem?_append_left ht]
        have : us[t]? = some u := by simpa using e1
        simp [this]
      rw [this]
      exact RV.rel_mono ⟨Nat.le_refl _, fun b _ hb => ⟨⟨hb, fun i hi => by simp at hi⟩, rfl⟩⟩ r u e2
  have hr := (h ⟨w, ok, fun _ => False, n⟩ rfl (fun _ h => h)).run _ w hs
  intro b cs'
  obtain ⟨a', w', todo, ⟨hd, g, vs, hv, h1, h2, h3, h4, h5⟩, hst⟩ := hr b cs'
  exact ⟨a', w', todo, ⟨hd, _, hv, g, vs, rfl, h1, h2, h3, h4, h5⟩, hst⟩
theorem endsNew {P : Program} {C : Ctx} {fn : Func} {e : TypeId} {cs : List RV} {S : St} {t i sz : Nat} (hm : ∀ b, ¬ C.mu b) (hr : fn.results = #[.tmp t]) (h1 : look S.env t = .obj i 0) (h2 : S.σ[i]? = some ⟨e, sz, cs.map .ro⟩) : ∀ a w, Sim C S a w → EndsN P C fn e cs a w := by
  rintro a w ⟨s1, s2, φ, hG, hH⟩
  have hu := hH t
  rw [h1] at hu
  simp only [AV.rel] at hu
  obtain ⟨hi, g, hg, eu⟩ := hu
  have hob := hG.ob i _ h2
  rw [show (⟨w, φ, S.σ, C.ok⟩ : Mem).φ i = some g from hg] at hob
  obtain ⟨vs, q1, q2, q3⟩ := hob
  refine ⟨s1, g, vs, by rw [results_eq, hr]; simp [resRun, eu], (hG.mine i g hi hg).resolve_left (hm g), q1, by simpa using q2, fun j r hj => ?_, hG.frm.below0 hm⟩
  obtain ⟨u, k1, k2, k3⟩ := q3 j (.ro r) (by rw [List.getElem?_map, hj]; rfl)
  simp only [AV.rel] at k3
  exact ⟨u, k1, k2, RV.rel_mono ⟨Nat.le_refl _, fun b _ hb => ⟨⟨hb.1, fun e => hb.2 i hi (e ▸ hg)⟩, rfl⟩⟩ r u k3⟩
section
variable {P : Program} {C : Ctx} {ops : Array Oper} {rest : List Oper} {k : List Item} {R : Act → World → Prop} {env : Env} {σ : List Ob} {t : Nat} {ty : TypeId} {pos : String} {after : Array Edge}
theorem op_callNew {f : FuncId} {fn : Func} {xs : Array Operand} {ats : Array TypeId} {args : List RV} {e : TypeId} {cs : List RV} [hfn : FN P f fn] (hf : ANew P f args e cs) (ha : xs.toList.map (ev env) = args.map .ro) (ht : t < C.n)
    (hk : RunsL P C ops rest k R ⟨(t, .obj σ.length 0) :: env, σ ++ [⟨e, 0, cs.map .ro⟩]⟩) :
    RunsL P C ops (⟨some t, .call { callee := .value (.func f), args := xs, argTypes := ats }, ty, pos, after, none⟩ :: rest) k R ⟨env, σ⟩ := by
  refine ⟨fun a w ⟨s1, s2, φ, hG, hH⟩ => ?_⟩
  refine wpList_plain rfl fun K hK' => ?_
  have hr := FitsL.rels (ha ▸ FitsL.ros args) _ (rels_eval (a := a) (m := ⟨w, φ, σ, C.ok⟩) xs.toList fun x hx => ev_rel hH x)
  unfold Oper.wp
  rw [execOp_call_go, run_call hfn]
  simp only [Oper.upon]
  refine (hf w _ _ (ok_args hG) (by simpa using hr)).mono ?_
  rintro ee w' ⟨g, vs, rfl, h1, h2, h3, h4, h5⟩
  obtain ⟨g1, g2⟩ := good_grow (φ' := upd φ σ.length (some g)) (new := [⟨e, 0, cs.map .ro⟩]) hG h5 (fun i hi => upd_ne (show i ≠ σ.length from Nat.ne_of_lt hi)) (fun j hj b hb => by
      simp at hj; subst hj; simp [upd_eq] at hb; subst hb; exact h1) (fun i j b hi hj _ _ => by simp at hi hj; omega) (fun j o hj => by
      cases j with
      | succ j => simp at hj
      | zero =>
        simp at hj; subst hj
        simp only [Nat.add_zero, upd_eq, ObRel]
        refine ⟨vs, h2, by simpa using h3, fun j v hv => ?_⟩
        rw [List.getElem?_map, Option.map_eq_some_iff] at hv
        obtain ⟨r, hr', rfl⟩ := hv
        obtain ⟨u, k1, k2, k3⟩ := h4 j r hr'
        refine ⟨u, k1, k2, ?_⟩
        simp only [AV.rel]
        refine RV.rel_mono ⟨Nat.le_refl _, fun b _ hb => ⟨⟨hb.1.1, fun i hi he => ?_⟩, rfl⟩⟩ r u k3
        simp only [List.length_append, List.length_cons, List.length_nil] at hi
        by_cases hiq : i = σ.length
        · subst hiq; simp only [upd_eq, Option.some.injEq] at he; exact hb.2 he.symm
        · simp only [upd_ne hiq] at he; exact hb.1.2 i (by simp only; omega) he)
  refine hK' _ _ (hk.run _ _ ⟨s1, by simp [Act.put, s2], _, g1, (hH.keeps g2).put (by rw [s2]; exact ht) ?_⟩)
  simp only [AV.rel]
  exact ⟨by simp, g, upd_eq, rfl⟩
end
end Go.Proofs.Ytdikinkihnepaaa
/- Functions that draw: they are handed a cursor, move it on, and return what they drew. Over any program. -/
namespace Go.Proofs.Ytdikinkihnepaaa
set_option linter.unusedSimpArgs false
set_option linter.unusedVariables false
open Go.RowKit
open AV (Mem Keeps)
def curOb (ct : TypeId) (u : Value) (i h : Int) : Ob := ⟨ct, 0, [.ro (.c u), .int i, .int h]⟩
def CurAt (ct : TypeId) (w : World) (g : Nat) (u : Value) (i h : Int) : Prop :=
  ∃ us : Array Value, w.heap[g]? = some (.cells us ct (0, 0)) ∧ us[0]? = some u ∧ us[1]? = some (.int .i64 i) ∧ us[2]? = some (.int .i64 h)
def CurOk (b : List UInt8) (i : Int) : Prop := 0 ≤ i ∧ i ≤ b.length
structure Bx (g : Nat) (w w' : World) : Prop where
  os : w'.os = w.os
  tape : w'.tape = w.tape
  output : w'.output = w.output
  size : w.heap.size ≤ w'.heap.size
  block : ∀ b, b < w.heap.size → b ≠ g → w'.heap[b]? = w.heap[b]?
def Drw (P : Program) (ct : TypeId) (f : FuncId) (b : List UInt8) (args : List RV) (Q : RR → Prop) : Prop :=
  ∀ (w : World) (ok : Nat → Prop) (g : Nat) (u : Value) (i h : Int) (us : List Value), (∀ x, w.heap.size ≤ x → ok x) → CurAt ct w g u i h →
    RV.rel w (fun x => ok x ∧ x ≠ g) (bytesR b) u → CurOk b i → RV.rels w (fun x => ok x ∧ x ≠ g) args us →
    Calls P f (.pointer (some ⟨g, 0, none⟩) :: us).toArray w fun e w' => ∃ v rr bs i' h', e = .returned v ∧ Q rr ∧ RR.rel w' (fun x => (ok x ∧ x ≠ g) ∧ x ∉ bs) rr v bs ∧ bs.Nodup ∧
      (∀ x ∈ bs, w.heap.size ≤ x ∧ x < w'.heap.size) ∧ CurOk b i' ∧ CurAt ct w' g u i' h' ∧ Bx g w w'
theorem Drw.mono {P : Program} {ct : TypeId} {f : FuncId} {b : List UInt8} {args : List RV} {Q Q' : RR → Prop} (h : Drw P ct f b args Q) (hq : ∀ rr, Q rr → Q' rr) : Drw P ct f b args Q' :=
  fun w ok g u i hh us h0 h1 h2 h3 h4 => (h w ok g u i hh us h0 h1 h2 h3 h4).mono fun _ _ ⟨v, rr, bs, i', h', e, q, r⟩ => ⟨v, rr, bs, i', h', e, hq rr q, r⟩
def HU (C : Ctx) (b : List UInt8) (u : Value) : Prop := RV.rel C.w0 (fun x => C.ok x ∧ ¬ C.mu x) (bytesR b) u
theorem HU.now {C : Ctx} {b : List UInt8} {u : Value} (h : HU C b u) {m : Mem} (hG : Good C m) : RV.rel m.w (fun x => C.ok x ∧ ∀ j, j < m.σ.length → m.φ j ≠ some x) (bytesR b) u :=
  RV.rel_mono ⟨hG.frm.size, fun x hx ho => ⟨⟨ho.1, fun j hj e => by
    rcases hG.mine j x hj e with k | k
    · exact ho.2 k
    · omega⟩, hG.frm.block x hx ho.2⟩⟩ _ _ h
theorem HU.ok {C : Ctx} {b : List UInt8} {u : Value} (h : HU C b u) {m : Mem} (hG : Good C m) : RV.rel m.w m.ok (bytesR b) u :=
  RV.rel_mono ⟨Nat.le_refl _, fun x _ ho => ⟨⟨by rw [hG.ok0]; exact ho.1, ho.2⟩, rfl⟩⟩ _ _ (h.now hG)
theorem HU.shape {C : Ctx} {b : List UInt8} {u : Value} (h : HU C b u) : ∃ A n c, u = .slice A n c := by
  simp only [HU, bytesR, RV.rel] at h
  obtain ⟨A, n, c, e, _⟩ := h
  exact ⟨A, n, c, e⟩
section
variable {P : Program} {C : Ctx} {env : Env} {σ : List Ob} {o : Oper} {b : List UInt8} {u : Value}
theorem Pur.know (hu : HU C b u) (h : Pur P C o env σ (.ro (.c u))) : Pur P C o env σ (.ro (bytesR b)) :=
  ⟨fun a m hG hσ hH K Q hK => h.run a m hG hσ hH K Q fun x w' hb hv => hK x w' hb (by
    simp only [AV.rel, RV.rel] at hv ⊢
    subst hv
    have hG' : Good C { m with w := w' } := by
      have e : m = ⟨m.w, m.φ, m.σ, C.ok⟩ := by rw [← hG.ok0]
      have := (good_below (C := C) (w := m.w) (φ := m.φ) (σ := m.σ) (by rw [← e]; exact hG) hb).1
      rw [hG.ok0]; exact this
    exact hu.ok hG')⟩
end
mutual
def cln : AV → Bool
  | .own i => !(Nat.beq i 0)
  | .agg cs => clns cs
  | .tup vs => clns vs
  | .fn _ x y => clns x && clns y
  | _ => true
def clns : List AV → Bool
  | [] => true
  | x :: xs => cln x && clns xs
end
def clnE : Env → Bool
  | [] => true
  | (_, v) :: e => cln v && clnE e
def clnO : List Ob → Bool
  | [] => true
  | o :: os => clns o.cs && clnO os
theorem clnE.look {env : Env} (h : clnE env = true) (t : Nat) : cln (look env t) = true := by
  induction env with
  | nil => rfl
  | cons p e ih =>
    obtain ⟨s, v⟩ := p
    simp only [clnE, Bool.and_eq_true] at h
    rw [look_put]
    split
    · exact h.1
    · exact ih h.2
theorem clns_at : ∀ {cs : List AV}, clns cs = true → ∀ (j : Nat) v, cs[j]? = some v → cln v = true
  | [], _, j, v, hj => by simp at hj
  | x :: xs, h, j, v, hj => by
    simp only [clns, Bool.and_eq_true] at h
    cases j with
    | zero => simp at hj; subst hj; exact h.1
    | succ j => exact clns_at h.2 j v (by simpa using hj)
theorem clnO_at : ∀ {os : List Ob}, clnO os = true → ∀ (i : Nat) o, os[i]? = some o → clns o.cs = true
  | [], _, i, o, hi => by simp at hi
  | x :: os, h, i, o, hi => by
    simp only [clnO, Bool.and_eq_true] at h
    cases i with
    | zero => simp at hi; subst hi; exact h.1
    | succ i => exact clnO_at h.2 i o (by simpa using hi)
theorem clnO_cons {o : Ob} {os : List Ob} (h1 : clns o.cs = true) (h2 : clnO os = true) : clnO (o :: os) = true := by simp only [clnO, h1, h2, Bool.and_self]
theorem clns_ro : ∀ rs : List RV, clns (rs.map .ro) = true
  | [] => rfl
  | r :: rs => by simp only [List.map_cons, clns, cln, clns_ro rs, Bool.and_self]
section
variable {m m' : Mem}
mutual
theorem rel_cln (hro : RV.Kept m.w m.ok m'.w m'.ok) (hlen : m.σ.length ≤ m'.σ.length) (hφ : ∀ i, i < m.σ.length → m'.φ i = m.φ i) (hσ : ∀ i, i ≠ 0 → i < m.σ.length → m'.σ[i]? = m.σ[i]?) (hb : ∀ i g, i ≠ 0 → i < m.σ.length → m.φ i = some g → m'.w.heap[g]? = m.w.heap[g]?) :
    ∀ (v : AV) (u : Value), cln v = true → AV.rel m v u → AV.rel m' v u
  | .ro v, u, _, h => by
    simp only [AV.rel] at h ⊢
    exact RV.rel_mono hro v u h
  | .junk, u, _, _ => by simp [AV.rel]
  | .obj i off, u, _, h => by
    simp only [AV.rel] at h ⊢
    obtain ⟨h1, g, h2, h3⟩ := h
    exact ⟨by omega, g, (hφ i h1).trans h2, h3⟩
  | .pin i off g, u, _, h => by
    simp only [AV.rel] at h ⊢
    obtain ⟨h1, h2, h3⟩ := h
    exact ⟨by omega, (hφ i h1).trans h2, h3⟩
  | .own i, u, hc, h => by
    have hi0 : i ≠ 0 := by
      intro e; subst e; simp [cln] at hc
    simp only [AV.rel] at h ⊢
    obtain ⟨ob, k, h1, h2, h3, h4⟩ := h
    have hi := (List.getElem?_eq_some_iff.1 h1).1
    refine ⟨ob, k, (hσ i hi0 hi).trans h1, h2, h3, ?_⟩
    rcases h4 with ⟨q1, q2, q3⟩ | ⟨g, cap, us, q1, q2, q3, q4⟩
    · exact .inl ⟨q1, q2, (hφ i hi).trans q3⟩
    · exact .inr ⟨g, cap, us, (hφ i hi).trans q1, q2, (hb i g hi0 hi q1).trans q3, q4⟩
  | .agg cs, u, hc, h => by
    simp only [AV.rel] at h ⊢
    obtain ⟨us, e, h1⟩ := h
    exact ⟨us, e, rels_cln hro hlen hφ hσ hb cs _ (by simpa only [cln] using hc) h1⟩
  | .tup cs, u, hc, h => by
    simp only [AV.rel] at h ⊢
    obtain ⟨us, e, h1⟩ := h
    exact ⟨us, e, rels_cln hro hlen hφ hσ hb cs _ (by simpa only [cln] using hc) h1⟩
  | .fn f a b, u, hc, h => by
    simp only [AV.rel] at h ⊢
    simp only [cln, Bool.and_eq_true] at hc
    obtain ⟨us, vs, e, h1, h2⟩ := h
    exact ⟨us, vs, e, rels_cln hro hlen hφ hσ hb a _ hc.1 h1, rels_cln hro hlen hφ hσ hb b _ hc.2 h2⟩
theorem rels_cln (hro : RV.Kept m.w m.ok m'.w m'.ok) (hlen : m.σ.length ≤ m'.σ.length) (hφ : ∀ i, i < m.σ.length → m'.φ i = m.φ i) (hσ : ∀ i, i ≠ 0 → i < m.σ.length → m'.σ[i]? = m.σ[i]?) (hb : ∀ i g, i ≠ 0 → i < m.σ.length → m.φ i = some g → m'.w.heap[g]? = m.w.heap[g]?) :
    ∀ (vs : List AV) (us : List Value), clns vs = true → AV.rels m vs us → AV.rels m' vs us
  | [], us, _, h => by simpa [AV.rels] using h
  | x :: xs, us, hc, h => by
    simp only [AV.rels] at h ⊢
    simp only [clns, Bool.and_eq_true] at hc
    obtain ⟨u, us', e, h1, h2⟩ := h
    exact ⟨u, us', e, rel_cln hro hlen hφ hσ hb x u hc.1 h1, rels_cln hro hlen hφ hσ hb xs us' hc.2 h2⟩
end
end
theorem draw_good {C : Ctx} {ct : TypeId} {u : Value} {i h i' h' : Int} {more new : List Ob} {w w' : World} {φ φ' : Nat → Option Nat} {g : Nat} (hG : Good C ⟨w, φ, curOb ct u i h :: more, C.ok⟩) (hg : φ 0 = some g) (hu : u.oneCell' = true) (hat : CurAt ct w' g u i' h') (hb : Bx g w w') (hcl : clnO more = true)
    (hφ : ∀ j, j < more.length + 1 → φ' j = φ j) (hn : ∀ j, j < new.length → ∀ x, φ' (more.length + 1 + j) = some x → w.heap.size ≤ x) (hinj : ∀ a c x, a < new.length → c < new.length → φ' (more.length + 1 + a) = some x → φ' (more.length + 1 + c) = some x → a = c)
    (hob : ∀ (j : Nat) o, new[j]? = some o → ObRel ⟨w', φ', (curOb ct u i' h' :: more) ++ new, C.ok⟩ o (φ' (more.length + 1 + j))) :
    Good C ⟨w', φ', (curOb ct u i' h' :: more) ++ new, C.ok⟩ ∧ ∀ v x, cln v = true → AV.rel ⟨w, φ, curOb ct u i h :: more, C.ok⟩ v x → AV.rel ⟨w', φ', (curOb ct u i' h' :: more) ++ new, C.ok⟩ v x := by
  have hlt : ∀ j x, j < more.length + 1 → φ j = some x → x < w.heap.size := fun j x hj hx => hG.lt (m := ⟨w, φ, curOb ct u i h :: more, C.ok⟩) (by simpa using hj) hx
  have hne : ∀ j x, j ≠ 0 → j < more.length + 1 → φ j = some x → x ≠ g := fun j x h0 hj hx e => h0 (hG.inj j 0 g (by simpa using hj) (by simp) (e ▸ hx) hg)
  have hro : RV.Kept w (AV.Mem.ok ⟨w, φ, curOb ct u i h :: more, C.ok⟩) w' (AV.Mem.ok ⟨w', φ', (curOb ct u i' h' :: more) ++ new, C.ok⟩) := ⟨hb.size, fun x hx ho => ⟨⟨ho.1, fun j hj e => by
    simp only [List.length_append, List.length_cons] at hj
    rcases Nat.lt_or_ge j (more.length + 1) with k | k
    · exact ho.2 j (by simpa using k) ((hφ j k).symm.trans e)
    · have := hn (j - (more.length + 1)) (by omega) x (by rwa [show more.length + 1 + (j - (more.length + 1)) = j by omega])
      omega⟩, hb.block x hx fun e => ho.2 0 (by simp) (e ▸ hg)⟩⟩
  have key : ∀ v x, cln v = true → AV.rel ⟨w, φ, curOb ct u i h :: more, C.ok⟩ v x → AV.rel ⟨w', φ', (curOb ct u i' h' :: more) ++ new, C.ok⟩ v x :=
    rel_cln (m := ⟨w, φ, curOb ct u i h :: more, C.ok⟩) (m' := ⟨w', φ', (curOb ct u i' h' :: more) ++ new, C.ok⟩) hro (by simp) (fun j hj => hφ j (by simpa using hj)) (fun j h0 hj => by
      cases j with
      | zero => exact absurd rfl h0
      | succ j => simp only [List.cons_append, List.getElem?_cons_succ]; exact List.getElem?_append_left (by simpa using hj)) (fun j x h0 hj hx => hb.block x (hlt j x (by simpa using hj) hx) (hne j x h0 (by simpa using hj) hx))
  refine ⟨⟨rfl, fun a c x ha hc e1 e2 => ?_, fun j o hj => ?_, fun j x hj hx => ?_, ⟨hb.os.trans hG.frm.os, hb.tape.trans hG.frm.tape, hb.output.trans hG.frm.output, Nat.le_trans hG.frm.size hb.size, fun x hx hm => ?_, hG.frm.new⟩⟩, key⟩
  · simp only [List.length_append, List.length_cons] at ha hc
    rcases Nat.lt_or_ge a (more.length + 1) with k1 | k1 <;> rcases Nat.lt_or_ge c (more.length + 1) with k2 | k2
    · exact hG.inj a c x (by simpa using k1) (by simpa using k2) ((hφ a k1).symm.trans e1) ((hφ c k2).symm.trans e2)
    · have a1 := hlt a x k1 ((hφ a k1).symm.trans e1)
      have a2 := hn (c - (more.length + 1)) (by omega) x (by rwa [show more.length + 1 + (c - (more.length + 1)) = c by omega])
      omega
    · have a1 := hlt c x k2 ((hφ c k2).symm.trans e2)
      have a2 := hn (a - (more.length + 1)) (by omega) x (by rwa [show more.length + 1 + (a - (more.length + 1)) = a by omega])
      omega
    · have := hinj (a - (more.length + 1)) (c - (more.length + 1)) x (by omega) (by omega) (by rwa [show more.length + 1 + (a - (more.length + 1)) = a by omega]) (by rwa [show more.length + 1 + (c - (more.length + 1)) = c by omega])
      omega
  · rcases Nat.lt_or_ge j (more.length + 1) with k | k
    · cases j with
      | zero =>
        simp only [List.cons_append, List.getElem?_cons_zero, Option.some.injEq] at hj
        subst hj
        show ObRel _ _ (φ' 0)
        rw [hφ 0 k, hg]
        obtain ⟨us, q0, q1, q2, q3⟩ := hat
        refine ⟨us, q0, ?_, fun p v hp => ?_⟩
        · have := (Array.getElem?_eq_some_iff.1 q3).1
          simp [curOb]; omega
        · simp only [curOb] at hp
          match p, hp with
          | 0, hp => simp at hp; subst hp; exact ⟨u, q1, hu, by simp [AV.rel, RV.rel]⟩
          | 1, hp => simp at hp; subst hp; exact ⟨_, q2, rfl, by simp [AV.rel, RV.rel]⟩
          | 2, hp => simp at hp; subst hp; exact ⟨_, q3, rfl, by simp [AV.rel, RV.rel]⟩
          | p + 3, hp => simp at hp
      | succ j =>
        have hj' : more[j]? = some o := by
          simp only [List.cons_append, List.getElem?_cons_succ] at hj
          rwa [List.getElem?_append_left (by omega)] at hj
        have h0 := hG.ob (j + 1) o (by simpa using hj')
        show ObRel _ _ (φ' (j + 1))
        rw [hφ (j + 1) k]
        simp only at h0
        cases hx : φ (j + 1) with
        | none => rw [hx] at h0; exact h0
        | some x =>
          rw [hx] at h0
          obtain ⟨us, q1, q2, q3⟩ := h0
          refine ⟨us, (hb.block x (hlt _ x k hx) (hne _ x (by omega) k hx)).trans q1, q2, fun p v hp => ?_⟩
          obtain ⟨y, e1, e2, e3⟩ := q3 p v hp
          exact ⟨y, e1, e2, key v y (clns_at (clnO_at hcl j o hj') p v hp) e3⟩
    · have hj' : new[j - (more.length + 1)]? = some o := by
        rw [List.getElem?_append_right (by simpa using k)] at hj
        simpa using hj
      have := hob _ o hj'
      rwa [show more.length + 1 + (j - (more.length + 1)) = j by omega] at this
  · simp only [List.length_append, List.length_cons] at hj
    rcases Nat.lt_or_ge j (more.length + 1) with k | k
    · exact hG.mine j x (by simpa using k) ((hφ j k).symm.trans hx)
    · have := hn (j - (more.length + 1)) (by omega) x (by rwa [show more.length + 1 + (j - (more.length + 1)) = j by omega])
      exact .inr (Nat.le_trans hG.frm.size this)
  · have hgm := hG.mine 0 g (by simp) hg
    refine (hb.block x (Nat.lt_of_lt_of_le hx hG.frm.size) fun e => ?_).trans (hG.frm.block x hx hm)
    subst e
    rcases hgm with k | k
    · exact hm k
    · omega
mutual
def flatR : RR → Bool
  | .ro r => flat r
  | .row _ _ cs => cs.all flat
  | .agg rs => flatRs rs
  | .tup rs => flatRs rs
def flatRs : List RR → Bool
  | [] => true
  | x :: xs => flatR x && flatRs xs
end
section
variable {w : World} {ok ok' : Nat → Prop}
theorem flat_rels : ∀ (rs : List RV) (us : List Value), rs.all flat = true → RV.rels w ok rs us → RV.rels w ok' rs us
  | [], us, _, h => by simpa [RV.rels] using h
  | r :: rs, us, hf, h => by
    rw [List.all_cons, Bool.and_eq_true] at hf
    simp only [RV.rels] at h ⊢
    obtain ⟨u, us', e, h1, h2⟩ := h
    refine ⟨u, us', e, ?_, flat_rels rs us' hf.2 h2⟩
    cases r <;> simp [flat] at hf
    simpa only [RV.rel] using h1
mutual
theorem flatR_rel : ∀ (rr : RR) (u : Value) (bs : List Nat), flatR rr = true → rr.rel w ok u bs → rr.rel w ok' u bs
  | .ro r, u, bs, hf, h => by
    simp only [RR.rel] at h ⊢
    refine ⟨?_, h.2⟩
    cases r <;> simp [flatR, flat] at hf
    simpa only [RV.rel] using h.1
  | .row e sz cs, u, bs, hf, h => by
    simp only [RR.rel] at h ⊢
    obtain ⟨n, xs, h1, h2, h3, h4⟩ := h
    exact ⟨n, xs, h1, h2, flat_rels _ _ (by simpa only [flatR] using hf) h3, h4⟩
  | .agg rs, u, bs, hf, h => by
    simp only [RR.rel] at h ⊢
    obtain ⟨us, e, h⟩ := h
    exact ⟨us, e, flatRs_rel rs _ _ (by simpa only [flatR] using hf) h⟩
  | .tup rs, u, bs, hf, h => by
    simp only [RR.rel] at h ⊢
    obtain ⟨us, e, h⟩ := h
    exact ⟨us, e, flatRs_rel rs _ _ (by simpa only [flatR] using hf) h⟩
theorem flatRs_rel : ∀ (rs : List RR) (us : List Value) (bs : List Nat), flatRs rs = true → RR.rels w ok rs us bs → RR.rels w ok' rs us bs
  | [], us, bs, _, h => by simpa [RR.rels] using h
  | x :: xs, us, bs, hf, h => by
    simp only [flatRs, Bool.and_eq_true] at hf
    simp only [RR.rels] at h ⊢
    obtain ⟨u, us', b, bs', e1, e2, h1, h2⟩ := h
    exact ⟨u, us', b, bs', e1, e2, flatR_rel x u b hf.1 h1, flatRs_rel xs us' bs' hf.2 h2⟩
end
end
def LendsP (C : Ctx) (σ : List Ob) (v : AV) (r : RV) : Prop := ∀ (m : Mem) (u : Value) (ok' : Nat → Prop), Good C m → m.σ = σ → (∀ b, m.ok b → ok' b) → (∀ (i g : Nat), 0 < i → i < σ.length → m.φ i = some g → ok' g) → AV.rel m v u → RV.rel m.w ok' r u
inductive LendsPL (C : Ctx) (σ : List Ob) : List AV → List RV → Prop
  | nil : LendsPL C σ [] []
  | cons {v : AV} {r : RV} {vs : List AV} {rs : List RV} : LendsP C σ v r → LendsPL C σ vs rs → LendsPL C σ (v :: vs) (r :: rs)
section
variable {C : Ctx} {σ : List Ob}
theorem LendsP.ro {r : RV} : LendsP C σ (.ro r) r := fun m u _ _ _ h1 _ hu => RV.rel_mono ⟨Nat.le_refl _, fun b _ hb => ⟨h1 b hb, rfl⟩⟩ r u (by simpa only [AV.rel] using hu)
theorem LendsP.nil (sz : Nat) : LendsP C σ (.ro .nil) (.seq sz []) := fun m u ok' _ _ h1 _ hu => RV.rel_mono ⟨Nat.le_refl _, fun b _ hb => ⟨h1 b hb, rfl⟩⟩ _ u (Fits.nil sz m u hu)
theorem LendsPL.rels {m : Mem} {ok' : Nat → Prop} (hG : Good C m) (hσ : m.σ = σ) (k1 : ∀ b, m.ok b → ok' b) (k2 : ∀ (i g : Nat), 0 < i → i < σ.length → m.φ i = some g → ok' g) {vs : List AV} {rs : List RV} (h : LendsPL C σ vs rs) : ∀ us, AV.rels m vs us → RV.rels m.w ok' rs us := by
  induction h with
  | nil => intro us hu; simpa [AV.rels, RV.rels] using hu
  | cons h1 _ ih =>
    intro us hu
    simp only [AV.rels] at hu
    obtain ⟨u, us', rfl, k3, k4⟩ := hu
    simp only [RV.rels]
    exact ⟨u, us', rfl, h1 m u ok' hG hσ k1 k2 k3, ih us' k4⟩
theorem LendsP.agg {vs : List AV} {rs : List RV} (h : LendsPL C σ vs rs) : LendsP C σ (.agg vs) (.agg rs) := fun m u ok' hG hσ k1 k2 hu => by
  simp only [AV.rel, RV.rel] at hu ⊢
  obtain ⟨us, e, hr⟩ := hu
  exact ⟨us, e, h.rels hG hσ k1 k2 _ hr⟩
theorem LendsPL.ros : ∀ rs : List RV, LendsPL C σ (rs.map .ro) rs
  | [] => .nil
  | _ :: rs => .cons .ro (LendsPL.ros rs)
theorem LendsP.own {i : Nat} {o : Ob} {els : List (List RV)} (hi : 0 < i) (ho : σ[i]? = some o) (h : o.cs = els.flatten.map .ro) (hl : ∀ x ∈ els, x.length = o.sz) : LendsP C σ (.own i) (.seq o.sz els) := fun m u ok' hG hσ k1 k2 hu => by
  have hrow := row_own (cs := els.flatten) (e := o.t) (sz := o.sz) hG (by rw [hσ, ho]; cases o; simp_all) hu
  obtain ⟨n, xs, h1, h2, h3, h4, h5, h6⟩ := hrow
  refine seals_rel (ok := m.ok) k1 (.row o.t o.sz els.flatten) (.seq o.sz els) u u.ownBlock.toList (by simp only [Seals]; exact ⟨els, rfl, rfl, hl⟩) (by simp only [RR.rel]; exact ⟨n, xs, h1, h2, h3, h4, h5, trivial⟩) fun b hb => ?_
  rw [h6] at hb
  exact k2 i b hi (List.getElem?_eq_some_iff.1 ho).1 (by simpa [Option.mem_toList] using hb)
end
def EndsD (P : Program) (C : Ctx) (fn : Func) (ct : TypeId) (b : List UInt8) (g : Nat) (u : Value) (Q : RR → Prop) (a : Act) (w : World) : Prop :=
  a.defers = [] ∧ ∃ v, (results fn a.tmps).run P w = .ok v w ∧ ∃ rr bs i' h', Q rr ∧ RR.rel w (fun x => (C.ok x ∧ x ≠ g) ∧ x ∉ bs) rr v bs ∧ bs.Nodup ∧ (∀ x ∈ bs, C.w0.heap.size ≤ x ∧ x < w.heap.size) ∧ CurOk b i' ∧ CurAt ct w g u i' h' ∧ Bx g C.w0 w
theorem drw_enter {P : Program} {ct : TypeId} {f : FuncId} {fn : Func} {c : Code} {b : List UInt8} {args : List RV} {Q : RR → Prop} (hf : P.funcs[f]? = some fn) (hb : fn.body = some c) (n : Nat) (hn : fn.ntmps = n) (hl : args.length + 1 ≤ n)
    (h : ∀ (C : Ctx) (g : Nat) (u : Value) (i hh : Int), C.n = n → (∀ x, C.mu x → x = g) → HU C b u → CurOk b i → Runs P C [.code c] (EndsD P C fn ct b g u Q) ⟨(0, .pin 0 0 g) :: startEnv 1 args, [curOb ct u i hh]⟩) : Drw P ct f b args Q := by
  intro w ok g u i hh us h0 hat hu hi hus
  have hlen := RV.rels_len args _ hus
  have hu1 : u.oneCell' = true := RV.rel_one (bytesR b) u rfl hu
  obtain ⟨cs, a0, a1, a2, a3⟩ := hat
  have hgl : g < w.heap.size := (Array.getElem?_eq_some_iff.1 a0).1
  refine calls_of_fin hf hb ?_
  have hs : Sim ⟨w, ok, fun x => x = g, n⟩ ⟨(0, .pin 0 0 g) :: startEnv 1 args, [curOb ct u i hh]⟩ { tmps := (.pointer (some ⟨g, 0, none⟩) :: us).toArray ++ Array.replicate (fn.ntmps - (.pointer (some ⟨g, 0, none⟩) :: us).toArray.size) undef, defers := [] } w := by
    refine ⟨rfl, by simp; omega, fun j => if j = 0 then some g else none, ⟨rfl, fun p q x hp hq _ _ => by simp at hp hq; omega, fun p o hp => ?_, fun p x hp hx => ?_, ⟨rfl, rfl, rfl, Nat.le_refl _, fun _ _ _ => rfl, h0⟩⟩, fun t => ?_⟩
    · cases p with
      | succ p => simp at hp
      | zero =>
        simp at hp; subst hp
        simp only [if_true]
        refine ⟨cs, a0, ?_, fun p v hp => ?_⟩
        · have := (Array.getElem?_eq_some_iff.1 a3).1
          simp [curOb]; omega
        · simp only [curOb] at hp
          match p, hp with
          | 0, hp => simp at hp; subst hp; exact ⟨u, a1, hu1, by simp [AV.rel, RV.rel]⟩
          | 1, hp => simp at hp; subst hp; exact ⟨_, a2, rfl, by simp [AV.rel, RV.rel]⟩
          | 2, hp => simp at hp; subst hp; exact ⟨_, a3, rfl, by simp [AV.rel, RV.rel]⟩
          | p + 3, hp => simp at hp
    · simp at hp; subst hp; simp at hx; exact .inl hx.symm
    · rw [look_put]
      split
      · rename_i e; subst e
        simp only [AV.rel]
        refine ⟨by simp, rfl, ?_⟩
        rw [Array.getD_eq_getD_getElem?, Array.getElem?_append_left (by simp)]
        simp
      · rename_i e
        rw [start_look]
        by_cases h1 : 1 ≤ t
        · rw [if_pos h1]
          cases hr : args[t - 1]? with
          | none => simp [AV.rel]
          | some r =>
            obtain ⟨x, e1, e2⟩ := RV.rels_at args _ hus (t - 1) r hr
            have ht : t - 1 < us.length := (List.getElem?_eq_some_iff.1 e1).1
            simp only [AV.rel]
            have : ((.pointer (some ⟨g, 0, none⟩) :: us).toArray ++ Array.replicate (fn.ntmps - (.pointer (some ⟨g, 0, none⟩) :: us).toArray.size) undef).getD t undef = x := by
              rw [Array.getD_eq_getD_getElem?, Array.getElem?_append_left (by simp; omega)]
              obtain ⟨t', rfl⟩ : ∃ t', t = t' + 1 := ⟨t - 1, by omega⟩
              simp at e1 ⊢
              simp [e1]
            rw [this]
            refine RV.rel_mono ⟨Nat.le_refl _, fun x _ hx => ⟨⟨hx.1, fun j hj he => ?_⟩, rfl⟩⟩ r x e2
            simp at hj; subst hj
            simp at he; exact hx.2 he.symm
        · omega
  have hr := (h ⟨w, ok, fun x => x = g, n⟩ g u i hh rfl (fun _ h => h) (RV.rel_mono ⟨Nat.le_refl _, fun x _ hx => ⟨hx, rfl⟩⟩ _ _ hu) hi).run _ w hs
  intro bb cc
  obtain ⟨a', w', todo, ⟨hd, v, hv, rr, bs, i', h', q1, q2, q3, q4, q5, q6, q7⟩, hst⟩ := hr bb cc
  exact ⟨a', w', todo, ⟨hd, v, hv, v, rr, bs, i', h', rfl, q1, q2, q3, q4, q5, q6, q7⟩, hst⟩
theorem Frm.bx {C : Ctx} {w : World} {g : Nat} (h : Frm C w) (hm : ∀ x, C.mu x → x = g) : Bx g C.w0 w := ⟨h.os, h.tape, h.output, h.size, fun x hx hn => h.block x hx fun k => hn (hm x k)⟩
section
variable {P : Program} {C : Ctx} {fn : Func} {ct : TypeId} {b : List UInt8} {g : Nat} {u : Value} {Q : RR → Prop} {S : St} {i h : Int} {more : List Ob}
theorem cur_at {m : Mem} (hG : Good C m) (hσ : m.σ = curOb ct u i h :: more) (hg : m.φ 0 = some g) : CurAt ct m.w g u i h := by
  have h0 := hG.ob 0 (curOb ct u i h) (by rw [hσ]; rfl)
  rw [hg] at h0
  obtain ⟨us, q1, q2, q3⟩ := h0
  obtain ⟨x0, e0, _, r0⟩ := q3 0 (.ro (.c u)) rfl
  obtain ⟨x1, e1, _, r1⟩ := q3 1 (.int i) rfl
  obtain ⟨x2, e2, _, r2⟩ := q3 2 (.int h) rfl
  simp only [AV.rel, RV.rel] at r0 r1 r2
  subst r0; subst r1; subst r2
  exact ⟨us, q1, e0, e1, e2⟩
theorem endsD_of (hm : ∀ x, C.mu x → x = g) {a : Act} {w : World} {φ : Nat → Option Nat} (hd : a.defers = []) (hG : Good C ⟨w, φ, S.σ, C.ok⟩) (hσ : S.σ = curOb ct u i h :: more) (hg : φ 0 = some g) (hi : CurOk b i) {v : AV} {x : Value} (hx : (results fn a.tmps).run P w = .ok x w) (hv : AV.rel ⟨w, φ, S.σ, C.ok⟩ v x)
    (rr : RR) (is : List Nat) (hh : Harv S.σ rr v is) (hn : is.Nodup) (h0 : 0 ∉ is) (hQ : Q rr) : EndsD P C fn ct b g u Q a w := by
  have hne : ∀ y ∈ blocks φ is, y ≠ g := fun y hy e => by
    obtain ⟨j, hj, e'⟩ := mem_blocks.1 hy
    have hjl := harv_lt _ _ _ _ hh j hj
    have := hG.inj j 0 g hjl (by simp only [hσ, List.length_cons]; omega) (e ▸ e') hg
    exact h0 (this ▸ hj)
  refine ⟨hd, x, hx, rr, blocks φ is, i, h, hQ, ?_, blocks_nodup hG is hn (harv_lt _ _ _ _ hh), fun y hy => ?_, hi, cur_at hG hσ hg, hG.frm.bx hm⟩
  · have := harv_rel hG rr _ _ is hh hv
    refine RR.rel_mono (fun y hy => ⟨⟨hy.1, fun e => hy.2 0 (by simp only [hσ, List.length_cons]; omega) (e ▸ hg)⟩, fun hmm => ?_⟩) _ _ _ this
    obtain ⟨j, hj, e⟩ := mem_blocks.1 hmm
    exact hy.2 j (harv_lt _ _ _ _ hh j hj) e
  · obtain ⟨j, hj, e⟩ := mem_blocks.1 hy
    have hjl := harv_lt _ _ _ _ hh j hj
    refine ⟨?_, hG.lt hjl e⟩
    rcases hG.mine j y hjl e with k | k
    · exact absurd (hm y k) (hne y hy)
    · exact k
theorem pin_at {t : Nat} {φ : Nat → Option Nat} {w : World} {a : Act} (hH : Holds ⟨w, φ, S.σ, C.ok⟩ S.env a) (ht : look S.env t = .pin 0 0 g) : φ 0 = some g := by
  have := hH t
  rw [ht] at this
  simp only [AV.rel] at this
  exact this.2.1
theorem endsD1 {x : ResultVar} (hm : ∀ x, C.mu x → x = g) (hr : fn.results = #[x]) (hσ : S.σ = curOb ct u i h :: more) (ht : look S.env 0 = .pin 0 0 g) (hi : CurOk b i) (v : AV) (hx : ResV P S x v) (rr : RR) (is : List Nat) (hh : Harv S.σ rr v is) (hn : is.Nodup) (h0 : 0 ∉ is) (hQ : Q rr) :
    ∀ a w, Sim C S a w → EndsD P C fn ct b g u Q a w := by
  intro a w ⟨h1, h2, φ, hG, hH⟩
  obtain ⟨y, k1, k2⟩ := resV_run (P := P) hG hH x v hx
  exact endsD_of hm h1 hG hσ (pin_at hH ht) hi (by rw [results_eq, hr]; simp [k1]) k2 rr is hh hn h0 hQ
theorem endsD_ro {t : Nat} {r : RV} (hm : ∀ x, C.mu x → x = g) (hr : fn.results = #[.tmp t]) (hσ : S.σ = curOb ct u i h :: more) (ht : look S.env 0 = .pin 0 0 g) (hi : CurOk b i) (hx : look S.env t = .ro r) (hQ : Q (.ro r)) : ∀ a w, Sim C S a w → EndsD P C fn ct b g u Q a w :=
  endsD1 hm hr hσ ht hi _ rfl (.ro r) [] (by simp only [Harv]; exact ⟨hx, trivial⟩) List.nodup_nil (by simp) hQ
theorem endsD_own {t j sz : Nat} {e : TypeId} {rs : List RV} (hm : ∀ x, C.mu x → x = g) (hr : fn.results = #[.tmp t]) (hσ : S.σ = curOb ct u i h :: more) (ht : look S.env 0 = .pin 0 0 g) (hi : CurOk b i) (hx : look S.env t = .own j) (hj : 0 < j) (ho : S.σ[j]? = some ⟨e, sz, rs.map .ro⟩) (hQ : Q (.row e sz rs)) : ∀ a w, Sim C S a w → EndsD P C fn ct b g u Q a w :=
  endsD1 hm hr hσ ht hi _ rfl (.row e sz rs) [j] (by simp only [Harv]; exact ⟨j, hx, ho, rfl⟩) (by simp) (by simp; omega) hQ
theorem endsD_lend {x : ResultVar} {v : AV} {r : RV} (hm : ∀ x, C.mu x → x = g) (hr : fn.results = #[x]) (hσ : S.σ = curOb ct u i h :: more) (ht : look S.env 0 = .pin 0 0 g) (hi : CurOk b i) (hx : ResV P S x v) (hl : LendsP C S.σ v r) (hQ : Q (.ro r)) : ∀ a w, Sim C S a w → EndsD P C fn ct b g u Q a w := by
  intro a w ⟨h1, h2, φ, hG, hH⟩
  obtain ⟨y, k1, k2⟩ := resV_run (P := P) hG hH x v hx
  have hg := pin_at hH ht
  have hrel := hl ⟨w, φ, S.σ, C.ok⟩ y (fun z => C.ok z ∧ z ≠ g) hG rfl (fun z hz => ⟨hz.1, fun e => hz.2 0 (by simp only [hσ, List.length_cons]; omega) (e ▸ hg)⟩) (fun j z h0 hj hz => by
    have hne : z ≠ g := fun e => by
      have := hG.inj j 0 g hj (by simp only [hσ, List.length_cons]; omega) (e ▸ hz) hg
      omega
    refine ⟨hG.frm.new z ((hG.mine j z hj hz).resolve_left fun k => hne (hm z k)), hne⟩) k2
  exact ⟨h1, y, by rw [results_eq, hr]; simp [k1], .ro r, [], i, h, hQ, by simp only [RR.rel]; exact ⟨RV.rel_mono ⟨Nat.le_refl _, fun z _ hz => ⟨⟨hz, by simp⟩, rfl⟩⟩ r y hrel, trivial⟩, by simp, by simp, hi, cur_at hG hσ hg, hG.frm.bx hm⟩
end
section
variable {P : Program} {C : Ctx} {ops : Array Oper} {rest : List Oper} {k : List Item} {R : Act → World → Prop} {env : Env} {σ : List Ob} {t : Nat} {ty : TypeId} {pos : String} {after : Array Edge} {ct : TypeId} {b : List UInt8} {u : Value} {i h : Int} {more : List Ob}
structure Drawn (C : Ctx) (ct : TypeId) (b : List UInt8) (u : Value) (m : Mem) (rr : RR) (v : Value) (w' : World) (i' h' : Int) (bs : List Nat) (g : Nat) : Prop where
  g0 : m.φ 0 = some g
  res : RR.rel w' (fun x => (C.ok x ∧ ∀ j, j < m.σ.length → m.φ j ≠ some x) ∧ x ∉ bs) rr v bs
  nodup : bs.Nodup
  fresh : ∀ x ∈ bs, m.w.heap.size ≤ x ∧ x < w'.heap.size
  ok : CurOk b i'
  at_ : CurAt ct w' g u i' h'
  bx : Bx g m.w w'
theorem cur_block {m : Mem} (hG : Good C m) (hσ : m.σ = curOb ct u i h :: more) : ∃ g, m.φ 0 = some g := by
  have h0 := hG.ob 0 (curOb ct u i h) (by rw [hσ]; rfl)
  cases hg : m.φ 0 with
  | none => rw [hg] at h0; simp [ObRel, curOb] at h0
  | some g => exact ⟨g, rfl⟩
theorem draw_wpF {f : FuncId} {fn : Func} {x0 : Operand} {xs : List Operand} {ats : Array TypeId} {args : List RV} {Q : RR → Prop} {d : Option Nat} {gd : Option (Nat × Bool)} [hfn : FN P f fn] (hf : Drw P ct f b args Q) (hq : ∀ rr, Q rr → flatR rr = true) (hc : unpin (ev env x0) = .obj 0 0) (hu : HU C b u) (hi : CurOk b i)
    {m : Mem} {a : Act} (hG : Good C m) (hσ : m.σ = curOb ct u i h :: more) (ha : LendsPL C m.σ (xs.map (ev env)) args) (hH : ∀ x ∈ x0 :: xs, AV.rel m (ev env x) (a.eval x)) {K : Act → World → Prop} {Q' : Exit → Act → World → Prop}
    (hK : ∀ rr v w' i' h' bs g, Q rr → Drawn C ct b u m rr v w' i' h' bs g → K (a.put d v) w') : (⟨d, .call { callee := .value (.func f), args := (x0 :: xs).toArray, argTypes := ats }, ty, pos, after, gd⟩ : Oper).wp P a m.w K Q' := by
  obtain ⟨g, hg⟩ := cur_block hG hσ
  have hp := unpin_rel (hH x0 (by simp))
  rw [hc] at hp
  simp only [AV.rel] at hp
  obtain ⟨_, g', hg', ep⟩ := hp
  rw [hg] at hg'; injection hg' with hg'; subst hg'
  have hne : ∀ j z, 0 < j → j < m.σ.length → m.φ j = some z → z ≠ g := fun j z h0 hj hz e => by
    have := hG.inj j 0 g hj (by simp only [hσ, List.length_cons]; omega) (e ▸ hz) hg
    omega
  have hokm : ∀ j z, 0 < j → j < m.σ.length → m.φ j = some z → (m.w.heap.size ≤ z ∨ C.ok z ∨ C.mu z) := fun j z _ hj hz => by
    rcases hG.mine j z hj hz with q | q
    · exact .inr (.inr q)
    · exact .inr (.inl (hG.frm.new z q))
  have hr := ha.rels (ok' := fun z => (C.ok z ∨ ∃ j, 0 < j ∧ j < m.σ.length ∧ m.φ j = some z) ∧ z ≠ g) hG rfl (fun z hz => ⟨.inl (by rw [← hG.ok0]; exact hz.1), fun e => hz.2 0 (by simp only [hσ, List.length_cons]; omega) (e ▸ hg)⟩) (fun j z h0 hj hz => ⟨.inr ⟨j, h0, hj, hz⟩, hne j z h0 hj hz⟩) _ (rels_eval (a := a) (m := m) xs fun x hx => hH x (by simp [hx]))
  unfold Oper.wp
  rw [execOp_call_go, run_call hfn]
  simp only [Oper.upon]
  have e0 : ((x0 :: xs).toArray.map a.eval) = (.pointer (some ⟨g, 0, none⟩) :: xs.map a.eval).toArray := by simp [ep]
  rw [e0]
  simp only [Array.empty_append, Array.append_empty]
  refine (hf m.w (fun z => C.ok z ∨ ∃ j, 0 < j ∧ j < m.σ.length ∧ m.φ j = some z) g u i h _ (fun z hz => .inl (hG.frm.new z (Nat.le_trans hG.frm.size hz))) (cur_at hG hσ hg) (RV.rel_mono ⟨Nat.le_refl _, fun z _ hz => ⟨⟨.inl hz.1, fun e => hz.2 0 (by simp only [hσ, List.length_cons]; omega) (e ▸ hg)⟩, rfl⟩⟩ _ _ (hu.now hG)) hi hr).mono ?_
  rintro e w' ⟨v, rr, bs, i', h', rfl, hQ, q1, q2, q3, q4, q5, q6⟩
  exact hK rr v w' i' h' bs g hQ ⟨hg, flatR_rel rr v bs (hq rr hQ) q1, q2, q3, q4, q5, q6⟩
theorem draw_wpN {f : FuncId} {fn : Func} {x0 : Operand} {xs : List Operand} {ats : Array TypeId} {args : List RV} {Q : RR → Prop} {d : Option Nat} {gd : Option (Nat × Bool)} [hfn : FN P f fn] (hf : Drw P ct f b args Q) (hc : unpin (ev env x0) = .obj 0 0) (hu : HU C b u) (hi : CurOk b i)
    {m : Mem} {a : Act} (hG : Good C m) (hσ : m.σ = curOb ct u i h :: more) (ha : FitsL (xs.map (ev env)) args) (hH : ∀ x ∈ x0 :: xs, AV.rel m (ev env x) (a.eval x)) {K : Act → World → Prop} {Q' : Exit → Act → World → Prop}
    (hK : ∀ rr v w' i' h' bs g, Q rr → Drawn C ct b u m rr v w' i' h' bs g → K (a.put d v) w') : (⟨d, .call { callee := .value (.func f), args := (x0 :: xs).toArray, argTypes := ats }, ty, pos, after, gd⟩ : Oper).wp P a m.w K Q' := by
  obtain ⟨g, hg⟩ := cur_block hG hσ
  have hp := unpin_rel (hH x0 (by simp))
  rw [hc] at hp
  simp only [AV.rel] at hp
  obtain ⟨_, g', hg', ep⟩ := hp
  rw [hg] at hg'; injection hg' with hg'; subst hg'
  have hl0 : 0 < m.σ.length := by simp only [hσ, List.length_cons]; omega
  have hr := ha.rels (m := m) _ (rels_eval (a := a) (m := m) xs fun x hx => hH x (by simp [hx]))
  unfold Oper.wp
  rw [execOp_call_go, run_call hfn]
  simp only [Oper.upon]
  have e0 : ((x0 :: xs).toArray.map a.eval) = (.pointer (some ⟨g, 0, none⟩) :: xs.map a.eval).toArray := by simp [ep]
  rw [e0]
  simp only [Array.empty_append, Array.append_empty]
  refine (hf m.w (fun z => C.ok z ∧ ∀ j, 0 < j → j < m.σ.length → m.φ j ≠ some z) g u i h _ (fun z hz => ⟨hG.frm.new z (Nat.le_trans hG.frm.size hz), fun j _ hj e => by have := hG.lt hj e; omega⟩) (cur_at hG hσ hg) (RV.rel_mono ⟨Nat.le_refl _, fun z _ hz => ⟨⟨⟨hz.1, fun j _ hj => hz.2 j hj⟩, fun e => hz.2 0 hl0 (e ▸ hg)⟩, rfl⟩⟩ _ _ (hu.now hG)) hi
    (RV.rels_mono ⟨Nat.le_refl _, fun z _ hz => ⟨⟨⟨by rw [← hG.ok0]; exact hz.1, fun j _ hj => hz.2 j hj⟩, fun e => hz.2 0 hl0 (e ▸ hg)⟩, rfl⟩⟩ _ _ hr)).mono ?_
  rintro e w' ⟨v, rr, bs, i', h', rfl, hQ, q1, q2, q3, q4, q5, q6⟩
  refine hK rr v w' i' h' bs g hQ ⟨hg, RR.rel_mono (fun z hz => ⟨⟨hz.1.1.1, fun j hj e => ?_⟩, hz.2⟩) _ _ _ q1, q2, q3, q4, q5, q6⟩
  by_cases h0 : j = 0
  · subst h0; rw [hg] at e; injection e with e; exact hz.1.2 e.symm
  · exact hz.1.1.2 j (by omega) hj e
theorem Drawn.simS {m : Mem} {rr : RR} {r : RV} {v : Value} {w' : World} {i' h' : Int} {bs : List Nat} {g : Nat} (hD : Drawn C ct b u m rr v w' i' h' bs g) (hG : Good C m) (hσ : m.σ = curOb ct u i h :: more) (hu : u.oneCell' = true) (hcl : clnO more = true) (hs : Seals rr r) :
    Good C ⟨w', m.φ, curOb ct u i' h' :: more, C.ok⟩ ∧ (∀ y x, cln y = true → AV.rel m y x → AV.rel ⟨w', m.φ, curOb ct u i' h' :: more, C.ok⟩ y x) ∧ AV.rel ⟨w', m.φ, curOb ct u i' h' :: more, C.ok⟩ (.ro r) v := by
  obtain ⟨w, φ, s, ok0⟩ := m
  have h0 := hG.ok0
  simp only at h0 hσ
  subst h0; subst hσ
  obtain ⟨g1, g2⟩ := draw_good (new := []) (φ' := φ) hG hD.g0 hu hD.at_ hD.bx hcl (fun _ _ => rfl) (fun j hj => by simp at hj) (fun a c x ha => by simp at ha) (fun j o hj => by simp at hj)
  simp only [List.append_nil] at g1 g2
  refine ⟨g1, g2, ?_⟩
  simp only [AV.rel]
  refine seals_rel (ok := fun x => (C.ok x ∧ ∀ j, j < (curOb ct u i h :: more).length → φ j ≠ some x) ∧ x ∉ bs) (fun x hx => ⟨hx.1.1, fun j hj => hx.1.2 j (by simpa using hj)⟩) rr r v bs hs hD.res fun x hx => ⟨hG.frm.new x (Nat.le_trans hG.frm.size (hD.fresh x hx).1), fun j hj e => ?_⟩
  have := hG.lt (by simpa using hj) e
  have := (hD.fresh x hx).1
  simp only at *
  omega
theorem Drawn.simO {m : Mem} {rr : RR} {v : Value} {w' : World} {i' h' : Int} {bs : List Nat} {g : Nat} (hD : Drawn C ct b u m rr v w' i' h' bs g) (hG : Good C m) (hσ : m.σ = curOb ct u i h :: more) (hu : u.oneCell' = true) (hcl : clnO more = true) :
    ∃ φ', Good C ⟨w', φ', (curOb ct u i' h' :: more) ++ obs rr, C.ok⟩ ∧ (∀ y x, cln y = true → AV.rel m y x → AV.rel ⟨w', φ', (curOb ct u i' h' :: more) ++ obs rr, C.ok⟩ y x) ∧ AV.rel ⟨w', φ', (curOb ct u i' h' :: more) ++ obs rr, C.ok⟩ (instA (more.length + 1) rr) v := by
  obtain ⟨w, φ, s, ok0⟩ := m
  have h0 := hG.ok0
  simp only at h0 hσ
  subst h0; subst hσ
  obtain ⟨ps, p1, p2, p3⟩ := inst_rel rr v bs hD.res
  subst p2
  let φ' : Nat → Option Nat := fun i => if i < more.length + 1 then φ i else (ps[i - (more.length + 1)]?).getD none
  have e1 : ∀ i, i < more.length + 1 → φ' i = φ i := fun i hi => if_pos hi
  have e2 : ∀ j, φ' (more.length + 1 + j) = (ps[j]?).getD none := fun j => by show (if more.length + 1 + j < more.length + 1 then _ else _) = _; rw [if_neg (by omega)]; simp
  have e3 : ∀ (j g : Nat), φ' (more.length + 1 + j) = some g → ps[j]? = some (some g) := fun j g hg => by
    rw [e2] at hg
    cases hp : ps[j]? with
    | none => simp [hp] at hg
    | some p => simp [hp] at hg; rw [hg]
  have hnew : ∀ (j g : Nat), φ' (more.length + 1 + j) = some g → g ∈ ps.flatMap Option.toList := fun j g hg => List.mem_flatMap.2 ⟨some g, List.mem_of_getElem? (e3 j g hg), by simp⟩
  have hLie : Lies ⟨w', φ', (curOb ct u i' h' :: more) ++ obs rr, C.ok⟩ (more.length + 1) ps (obs rr) := ⟨fun j p hj => by show φ' (more.length + 1 + j) = p; rw [e2, hj]; rfl, fun j o hj => by show ((curOb ct u i' h' :: more) ++ obs rr)[more.length + 1 + j]? = _; rw [List.getElem?_append_right (by simp), show more.length + 1 + j - (curOb ct u i' h' :: more).length = j by simp]; exact hj⟩
  have hok : ∀ x, ((C.ok x ∧ ∀ j, j < (curOb ct u i h :: more).length → φ j ≠ some x) ∧ x ∉ ps.flatMap Option.toList) → AV.Mem.ok ⟨w', φ', (curOb ct u i' h' :: more) ++ obs rr, C.ok⟩ x := fun x hx => ⟨hx.1.1, fun j hj he => by
    simp only at he
    rcases Nat.lt_or_ge j (more.length + 1) with hlt | hge
    · exact hx.1.2 j (by simpa using hlt) ((e1 j hlt).symm.trans he)
    · exact hx.2 (hnew (j - (more.length + 1)) x (by rwa [show more.length + 1 + (j - (more.length + 1)) = j by omega]))⟩
  obtain ⟨q1, q2⟩ := p3 ⟨w', φ', (curOb ct u i' h' :: more) ++ obs rr, C.ok⟩ (more.length + 1) rfl hok hLie
  obtain ⟨g1, g2⟩ := draw_good (new := obs rr) (φ' := φ') hG hD.g0 hu hD.at_ hD.bx hcl e1 (fun j hj x hx => (hD.fresh x (hnew j x hx)).1) (fun a c x ha hc ea ec => flat_nodup_inj hD.nodup a c x (e3 a x ea) (e3 c x ec)) q2
  exact ⟨φ', g1, g2, q1⟩
theorem HU.one (hu : HU C b u) : u.oneCell' = true := RV.rel_one (bytesR b) u rfl hu
theorem sim_put {S S' : St} {φ : Nat → Option Nat} {w w' : World} {a : Act} {t : Nat} {y : AV} {v : Value} {φ' : Nat → Option Nat} (s1 : a.defers = []) (s2 : a.tmps.size = C.n) (hH : Holds ⟨w, φ, S.σ, C.ok⟩ S.env a) (hG' : Good C ⟨w', φ', S'.σ, C.ok⟩) (he : S'.env = (t, y) :: S.env) (hcl : clnE S.env = true)
    (hk : ∀ y x, cln y = true → AV.rel ⟨w, φ, S.σ, C.ok⟩ y x → AV.rel ⟨w', φ', S'.σ, C.ok⟩ y x) (ht : t < C.n) (hv : AV.rel ⟨w', φ', S'.σ, C.ok⟩ y v) : Sim C S' (a.put (some t) v) w' :=
  ⟨s1, by simp [Act.put, s2], φ', hG', by rw [he]; exact Holds.put (fun s => hk _ _ (clnE.look hcl s) (hH s)) (by rw [s2]; exact ht) hv⟩
theorem op_drawF {f : FuncId} {fn : Func} {x0 : Operand} {xs : List Operand} {ats : Array TypeId} {args : List RV} {Q : RR → Prop} {Q' : RV → Prop} [hfn : FN P f fn] (hf : Drw P ct f b args Q) (hq : ∀ rr, Q rr → flatR rr = true ∧ ∃ r, Seals rr r ∧ Q' r) (hc : unpin (ev env x0) = .obj 0 0) (hu : HU C b u) (hi : CurOk b i) (hσ : σ = curOb ct u i h :: more) (ha : LendsPL C σ (xs.map (ev env)) args)
    (hce : clnE env = true) (hcl : clnO more = true) (ht : t < C.n) (hk : ∀ i' h' r, CurOk b i' → Q' r → RunsL P C ops rest k R ⟨(t, .ro r) :: env, curOb ct u i' h' :: more⟩) :
    RunsL P C ops (⟨some t, .call { callee := .value (.func f), args := (x0 :: xs).toArray, argTypes := ats }, ty, pos, after, none⟩ :: rest) k R ⟨env, σ⟩ := by
  refine ⟨fun a w ⟨s1, s2, φ, hG, hH⟩ => ?_⟩
  refine wpList_plain rfl fun K hK' => ?_
  refine draw_wpF hf (fun rr h => (hq rr h).1) hc hu hi (m := ⟨w, φ, σ, C.ok⟩) hG hσ ha (fun x _ => ev_rel hH x) fun rr v w' i' h' bs g hQ hD => ?_
  obtain ⟨_, r, hs, hr⟩ := hq rr hQ
  obtain ⟨g1, g2, g3⟩ := hD.simS hG hσ hu.one hcl hs
  exact hK' _ _ ((hk i' h' r hD.ok hr).run _ _ (sim_put (S := ⟨env, σ⟩) s1 s2 hH g1 rfl hce g2 ht g3))
theorem op_drawN {f : FuncId} {fn : Func} {x0 : Operand} {xs : List Operand} {ats : Array TypeId} {args : List RV} {Q : RR → Prop} {Q' : RV → Prop} [hfn : FN P f fn] (hf : Drw P ct f b args Q) (hq : ∀ rr, Q rr → ∃ r, Seals rr r ∧ Q' r) (hc : unpin (ev env x0) = .obj 0 0) (hu : HU C b u) (hi : CurOk b i) (hσ : σ = curOb ct u i h :: more) (ha : xs.map (ev env) = args.map .ro)
    (hce : clnE env = true) (hcl : clnO more = true) (ht : t < C.n) (hk : ∀ i' h' r, CurOk b i' → Q' r → RunsL P C ops rest k R ⟨(t, .ro r) :: env, curOb ct u i' h' :: more⟩) :
    RunsL P C ops (⟨some t, .call { callee := .value (.func f), args := (x0 :: xs).toArray, argTypes := ats }, ty, pos, after, none⟩ :: rest) k R ⟨env, σ⟩ := by
  refine ⟨fun a w ⟨s1, s2, φ, hG, hH⟩ => ?_⟩
  refine wpList_plain rfl fun K hK' => ?_
  refine draw_wpN hf hc hu hi (m := ⟨w, φ, σ, C.ok⟩) hG hσ (ha ▸ FitsL.ros args) (fun x _ => ev_rel hH x) fun rr v w' i' h' bs g hQ hD => ?_
  obtain ⟨r, hs, hr⟩ := hq rr hQ
  obtain ⟨g1, g2, g3⟩ := hD.simS hG hσ hu.one hcl hs
  exact hK' _ _ ((hk i' h' r hD.ok hr).run _ _ (sim_put (S := ⟨env, σ⟩) s1 s2 hH g1 rfl hce g2 ht g3))
theorem op_drawO {f : FuncId} {fn : Func} {x0 : Operand} {xs : List Operand} {ats : Array TypeId} {args : List RV} {Q : RR → Prop} [hfn : FN P f fn] (hf : Drw P ct f b args Q) (hc : unpin (ev env x0) = .obj 0 0) (hu : HU C b u) (hi : CurOk b i) (hσ : σ = curOb ct u i h :: more) (ha : xs.map (ev env) = args.map .ro)
    (hce : clnE env = true) (hcl : clnO more = true) (ht : t < C.n) (hk : ∀ i' h' rr, CurOk b i' → Q rr → RunsL P C ops rest k R ⟨(t, instA (more.length + 1) rr) :: env, (curOb ct u i' h' :: more) ++ obs rr⟩) :
    RunsL P C ops (⟨some t, .call { callee := .value (.func f), args := (x0 :: xs).toArray, argTypes := ats }, ty, pos, after, none⟩ :: rest) k R ⟨env, σ⟩ := by
  refine ⟨fun a w ⟨s1, s2, φ, hG, hH⟩ => ?_⟩
  refine wpList_plain rfl fun K hK' => ?_
  refine draw_wpN hf hc hu hi (m := ⟨w, φ, σ, C.ok⟩) hG hσ (ha ▸ FitsL.ros args) (fun x _ => ev_rel hH x) fun rr v w' i' h' bs g hQ hD => ?_
  obtain ⟨φ', g1, g2, g3⟩ := hD.simO hG hσ hu.one hcl
  exact hK' _ _ ((hk i' h' rr hD.ok hQ).run _ _ (sim_put (S := ⟨env, σ⟩) s1 s2 hH g1 rfl hce g2 ht g3))
end
end Go.Proofs.Ytdikinkihnepaaa
