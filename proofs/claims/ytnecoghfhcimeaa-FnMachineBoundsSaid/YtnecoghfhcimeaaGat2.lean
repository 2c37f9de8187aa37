/- Gathered texts. -/
import Derived.Test.YtnecoghfhcimeaaGat0
import Derived.Test.YtnecoghfhcimeaaGat1
import Derived.Laws.Tables
import Derived.Test.YtnecoghfhcimeaaChecked
import Derived.Laws.StructEq
import Derived.Laws.IdiomStrings
/- Regions that draw their order, in which operations that look come late, and draws stand in a chain. Over any program. -/
namespace Go.Proofs.Ytnecoghfhcimeaa
set_option linter.unusedSimpArgs false
set_option linter.unusedVariables false
open Go.RowKit
open AV (Mem Wd)
abbrev IOq := Nat × Oper
abbrev LO := Nat × Oper × Nat × AV
def V9 (o : Oper) : List Nat := o.op.operands.toList.filterMap fun | .tmp t => some t | _ => none
def Ep (o : Oper) (i : Nat) : Bool := o.after.any fun e => Region.binds .any e && Nat.beq e.on i
def Bv (o : Oper) (q : Nat → Bool) : Bool := o.after.all fun e => !Region.binds .any e || q e.on
def memI (H : List IOq) (i : Nat) : Bool := H.any fun p => Nat.beq p.1 i
def Di (H : List IOq) : List Nat := H.flatMap fun p => V9 p.2 ++ p.2.dst.toList
def needB (H : List IOq) (o : Oper) : Bool := H.all fun q => (V9 o).all fun s => (match q.2.dst with | some d => !(Nat.beq d s) | none => true) || Ep o q.1
def Dq : List IOq → Bool
  | [] => true
  | [_] => true
  | p :: q :: r => Ep q.2 p.1 && Dq (q :: r)
def progT (H : List IOq) : List IOq → List IOq → Bool
  | _, [] => true
  | old, p :: r => Bv p.2 (fun j => memI H j || memI old j) && progT H (p :: old) r
def lateB (n : Nat) (H T : List IOq) : Bool :=
  (H.all fun p => needB H p.2 && p.2.guard.isNone && p.2.dst.isSome && Bv p.2 (fun j => Nat.ble (j + 1) p.1 && memI H j)) &&
  (T.all fun p => needB H p.2 && !(memI H p.1) && (match p.2.dst with | some d => !((Di H).contains d) | none => true)) &&
  Dq T && progT H [] T && ((List.range n).all fun i => memI H i || memI T i)
section
variable {P : Program} {C : Ctx} {l : List Oper} {H T : List IOq} {k : List Item} {R : Act → World → Prop} {ct : TypeId} {u : Value} {more : List Ob}
theorem Bg {H : List IOq} {i : Nat} : memI H i = true ↔ ∃ p ∈ H, p.1 = i := by
  simp only [memI, List.any_eq_true]
  constructor
  · rintro ⟨p, hp, e⟩; exact ⟨p, hp, Nat.eq_of_beq_eq_true e⟩
  · rintro ⟨p, hp, rfl⟩; exact ⟨p, hp, Nat.beq_refl _⟩
theorem waitsB_iff {o : Oper} {i : Nat} : Ep o i = true ↔ ∃ e ∈ o.after, Region.binds .any e = true ∧ e.on = i := by
  unfold Ep
  rw [Array.any_eq_true']
  constructor
  · rintro ⟨e, he, h⟩
    rw [Bool.and_eq_true] at h
    exact ⟨e, he, h.1, Nat.eq_of_beq_eq_true h.2⟩
  · rintro ⟨e, he, h, rfl⟩
    exact ⟨e, he, by rw [Bool.and_eq_true]; exact ⟨h, Nat.beq_refl _⟩⟩
theorem edgesIn_iff {o : Oper} {q : Nat → Bool} : Bv o q = true ↔ ∀ e ∈ o.after, Region.binds .any e = true → q e.on = true := by
  unfold Bv
  rw [Array.all_eq_true_iff_forall_mem]
  constructor
  · intro h e he hb
    have := h e he
    simpa [hb] using this
  · intro h e he
    cases hb : Region.binds .any e
    · simp
    · simp [h e he hb]
def PurT (P : Program) (C : Ctx) (ct : TypeId) (u : Value) (more : List Ob) (E : Nat → AV) (p : LO) : Prop :=
  ∀ (a : Act) (m : Mem) (i h : Int), Good C m → m.σ = Yq ct u i h :: more → (∀ s ∈ V9 p.2.1, AV.rel m (E s) (a.tmps.getD s undef)) → ∀ (K : Act → World → Prop) (Q : Exit → Act → World → Prop),
    (∀ x w', Below m.w.heap.size m.w w' → AV.rel { m with w := w' } p.2.2.2 x → K (a.put p.2.1.dst x) w') → p.2.1.wp P a m.w K Q
structure LFact (P : Program) (C : Ctx) (ct : TypeId) (u : Value) (more : List Ob) (E : Nat → AV) (p : LO) : Prop where
  pur : PurT P C ct u more E p
  val : E p.2.2.1 = p.2.2.2
  dst : p.2.1.dst = some p.2.2.1
  lt : p.2.2.1 < C.n
def Jb (pd : List LO) (env : Env) (t : Nat) : AV := if pd.any (fun p => Nat.beq p.2.2.1 t) then .junk else look env t
def SimM (C : Ctx) (E : Nat → AV) (σ : List Ob) (a : Act) (w : World) : Prop :=
  a.defers = [] ∧ a.tmps.size = C.n ∧ ∃ φ, Good C ⟨w, φ, σ, C.ok⟩ ∧ ∀ t, AV.rel ⟨w, φ, σ, C.ok⟩ (E t) (a.tmps.getD t undef)
theorem mem_keys {H : List IOq} {p : IOq} {s : Nat} (hp : p ∈ H) (hs : s ∈ V9 p.2) : s ∈ Di H := List.mem_flatMap.2 ⟨p, hp, List.mem_append_left _ hs⟩
theorem A9 {H : List IOq} {p : IOq} {s : Nat} (hp : p ∈ H) (hs : p.2.dst = some s) : s ∈ Di H := List.mem_flatMap.2 ⟨p, hp, List.mem_append_right _ (by simp [hs])⟩
theorem Hy {o : Oper} {s : Nat} (h : Operand.tmp s ∈ o.op.operands) : s ∈ V9 o := by
  simp only [V9, List.mem_filterMap]
  exact ⟨.tmp s, by simpa using h, rfl⟩
theorem ev_tmps {m : Mem} {env : Env} {o : Oper} {a : Act} (h : ∀ s ∈ V9 o, AV.rel m (look env s) (a.tmps.getD s undef)) : ∀ x ∈ o.op.operands, AV.rel m (ev env x) (a.eval x) := by
  intro x hx
  cases x with
  | tmp t => exact h t (Hy hx)
  | const v =>
    have h := Gz (w := m.w) (ok := m.ok) v
    cases v <;> simpa only [ev, AV.rel, Act.eval, Bz] using h
  | func f => simp only [ev, AV.rel, Act.eval]; exact ⟨#[], #[], rfl, by simp [AV.rels], by simp [AV.rels]⟩
  | global g => simp [ev, AV.rel]
theorem wpOp_at {ops : Array Oper} {Q : Exit → Act → World → Prop} {K : Act → World → Prop} {i : Nat} {o : Oper} {a : Act} {w : World} (hi : ops[i]? = some o) (hg : o.guard = none) (h : o.wp P a w K Q) : wpOp P ops Q i K a w := by
  unfold wpOp
  simp only [hi]
  rw [if_pos (by simp [Region.wanted, hg])]
  exact .inl h
theorem T2 {listed : Array Bool} : ∀ (r : List IOq) (p q : IOq), Dq (p :: r) = true → (∀ x ∈ p :: r, listed.getD x.1 true = false) → (∀ x ∈ p :: r, l[x.1]? = some x.2) → q ∈ r → q.1 ∈ Region.ready .any l.toArray listed → False
  | [], _, _, _, _, _, hq, _ => by cases hq
  | y :: r, p, q, hc, hun, hat, hq, hr => by
    simp only [Dq, Bool.and_eq_true] at hc
    rcases List.mem_cons.1 hq with rfl | hq
    · obtain ⟨e, he, hb, hon⟩ := waitsB_iff.1 hc.1
      obtain ⟨_, o, h2, h3⟩ := mem_ready.1 hr
      have hqo := hat q (by simp)
      rw [show l.toArray[q.1]? = l[q.1]? by simp, hqo] at h2; injection h2 with h2; subst h2
      have := h3 e he hb
      rw [hon, getD_both (hun p (by simp))] at this
      cases this
    · exact T2 r y q hc.2 (fun x hx => hun x (by simp only [List.mem_cons] at hx ⊢; exact .inr hx)) (fun x hx => hat x (by simp only [List.mem_cons] at hx ⊢; exact .inr hx)) hq hr
theorem U3 {listed : Array Bool} {i : Nat} (d : Bool) (h : i < listed.size) : (listed.setIfInBounds i true).getD i d = true := by
  rw [Array.getD_eq_getD_getElem?, Array.getElem?_setIfInBounds_self_of_lt h]; rfl
theorem Ll {listed : Array Bool} {i j : Nat} (d : Bool) (h : i ≠ j) : (listed.setIfInBounds i true).getD j d = listed.getD j d := by
  rw [Array.getD_eq_getD_getElem?, Array.getElem?_setIfInBounds_ne h, Array.getD_eq_getD_getElem?]
theorem Mk {listed : Array Bool} {j : Nat} (hs : j < listed.size) (h : listed.getD j true ≠ false) : listed.getD j false = true := by
  simp only [Array.getD_eq_getD_getElem?, Array.getElem?_eq_getElem hs, Option.getD_some] at h ⊢
  simpa using h
def ClosedL (l : List Oper) (listed : Array Bool) : Prop := ∀ (j : Nat) o, l[j]? = some o → listed.getD j false = true → ∀ e ∈ o.after, Region.binds .any e = true → listed.getD e.on false = true
theorem ClosedL.next {listed : Array Bool} {i : Nat} (h : ClosedL l listed) (hr : i ∈ Region.ready .any l.toArray listed) (hs : listed.size = l.length) : ClosedL l (listed.setIfInBounds i true) := by
  intro j o hj hl e he hb
  have hup : ∀ k, listed.getD k false = true → (listed.setIfInBounds i true).getD k false = true := fun k hk => by
    by_cases e : i = k
    · subst e
      obtain ⟨_, o', h2, _⟩ := mem_ready.1 hr
      exact U3 false (by have := (Array.getElem?_eq_some_iff.1 h2).1; simp at this; omega)
    · rw [Ll false e]; exact hk
  by_cases ei : i = j
  · subst ei
    obtain ⟨_, o', h2, h3⟩ := mem_ready.1 hr
    rw [show l.toArray[i]? = l[i]? by simp, hj] at h2; injection h2 with h2; subst h2
    exact hup _ (h3 e he hb)
  · rw [Ll false ei] at hl
    exact hup _ (h j o hj hl e he hb)
structure LatB (l : List Oper) (H T : List IOq) : Prop where
  hat : ∀ p ∈ H, l[p.1]? = some p.2
  tat : ∀ p ∈ T, l[p.1]? = some p.2
  need : ∀ p, p ∈ H ∨ p ∈ T → ∀ q ∈ H, ∀ s ∈ V9 p.2, q.2.dst = some s → Ep p.2 q.1 = true
  guard : ∀ p ∈ H, p.2.guard = none
  early : ∀ p ∈ H, ∀ e ∈ p.2.after, Region.binds .any e = true → e.on < p.1 ∧ ∃ q ∈ H, q.1 = e.on
  apart : ∀ p ∈ T, ∀ q ∈ H, q.1 ≠ p.1
  fresh : ∀ p ∈ T, ∀ d, p.2.dst = some d → d ∉ Di H
  chain : Dq T = true
  tnd : (T.map (·.1)).Nodup
  prog : ∃ old : List IOq, progT H old T = true ∧ ∀ q ∈ old, q.1 < l.length ∧ ∀ x ∈ T, x.1 ≠ q.1
theorem LatB.prog' (h : LatB l H T) (p : IOq) (r : List IOq) (e' : T = p :: r) : ∀ e ∈ p.2.after, Region.binds .any e = true → ∃ j, e.on = j ∧ j < l.length ∧ ∀ q ∈ T, q.1 ≠ j := by
  intro e he hb
  obtain ⟨old, h1, h2⟩ := h.prog
  subst e'
  simp only [progT, Bool.and_eq_true] at h1
  have h3 := edgesIn_iff.1 h1.1 e he hb
  simp only [Bool.or_eq_true, Bg] at h3
  refine ⟨e.on, rfl, ?_⟩
  rcases h3 with ⟨q, hq, e1⟩ | ⟨q, hq, e1⟩
  · rw [← e1]
    exact ⟨(P8.1 (h.hat q hq)).1, fun x hx => (h.apart x hx q hq).symm⟩
  · rw [← e1]
    exact h2 q hq
theorem LatB.tail {p : IOq} {r : List IOq} (h : LatB l H (p :: r)) : LatB l H r :=
  ⟨h.hat, fun q hq => h.tat q (by simp [hq]), fun q hq => h.need q (hq.imp id fun h => by simp [h]), h.guard, h.early, fun q hq => h.apart q (by simp [hq]), fun q hq => h.fresh q (by simp [hq]), by
    have := h.chain
    cases r with
    | nil => rfl
    | cons y r => simp only [Dq, Bool.and_eq_true] at this; exact this.2, by have := h.tnd; rw [List.map_cons, List.nodup_cons] at this; exact this.2, by
    obtain ⟨old, h1, h2⟩ := h.prog
    simp only [progT, Bool.and_eq_true] at h1
    refine ⟨p :: old, h1.2, fun q hq => ?_⟩
    rcases List.mem_cons.1 hq with rfl | hq
    · refine ⟨(P8.1 (h.tat q (by simp))).1, fun x hx e => ?_⟩
      have := h.tnd
      rw [List.map_cons, List.nodup_cons] at this
      exact this.1 (List.mem_map.2 ⟨x, hx, e⟩)
    · exact ⟨(h2 q hq).1, fun x hx => (h2 q hq).2 x (by simp [hx])⟩⟩
structure RunsP (P : Program) (C : Ctx) (ct : TypeId) (u : Value) (more : List Ob) (l : List Oper) (H T : List IOq) (k : List Item) (R : Act → World → Prop) (i h : Int) (env : Env) : Prop where
  run : LatB l H T → ∀ (late : List LO) (E0 : Nat → AV), (∀ p ∈ late, (p.1, p.2.1) ∈ H) → (∀ p ∈ late, LFact P C ct u more E0 p) → (∀ s ∈ Di H, look env s = E0 s) → ∀ (n : Nat) (pd : List LO) (listed : Array Bool) (a : Act) (w : World), pd.length = n → (∀ p ∈ pd, p ∈ late) → listed.size = l.length → ClosedL l listed →
    (∀ j, j < l.length → (listed.getD j true = false ↔ ((∃ p ∈ pd, p.1 = j) ∨ ∃ p ∈ T, p.1 = j))) → SimM C (Jb pd env) (Yq ct u i h :: more) a w → wpAny P .any l.toArray (nrm (Fin P k R)) (n + T.length) listed a w
theorem Ew (hB : LatB l H T) {i h : Int} {env : Env} {late : List LO} {E0 : Nat → AV} (hlH : ∀ p ∈ late, (p.1, p.2.1) ∈ H) (hF : ∀ p ∈ late, LFact P C ct u more E0 p) (hE0 : ∀ s ∈ Di H, look env s = E0 s)
    (head : ∀ (pd : List LO) (listed : Array Bool) (a : Act) (w : World) (p : IOq) (r : List IOq), T = p :: r → (∀ q ∈ pd, q ∈ late) → listed.size = l.length → ClosedL l listed → (∀ j, j < l.length → (listed.getD j true = false ↔ ((∃ q ∈ pd, q.1 = j) ∨ ∃ q ∈ T, q.1 = j))) → p.1 ∈ Region.ready .any l.toArray listed → SimM C (Jb pd env) (Yq ct u i h :: more) a w →
      (∀ s ∈ V9 p.2, Jb pd env s = look env s) → wpOp P l.toArray (nrm (Fin P k R)) p.1 (wpAny P .any l.toArray (nrm (Fin P k R)) (pd.length + r.length) (listed.setIfInBounds p.1 true)) a w) (hT : T ≠ []) :
    ∀ (n : Nat) (pd : List LO) (listed : Array Bool) (a : Act) (w : World), pd.length = n → (∀ p ∈ pd, p ∈ late) → listed.size = l.length → ClosedL l listed →
    (∀ j, j < l.length → (listed.getD j true = false ↔ ((∃ p ∈ pd, p.1 = j) ∨ ∃ p ∈ T, p.1 = j))) → SimM C (Jb pd env) (Yq ct u i h :: more) a w → wpAny P .any l.toArray (nrm (Fin P k R)) (n + T.length) listed a w := by
  intro n
  induction n using Nat.strongRecOn with
  | _ n ih =>
  intro pd listed a w hn hpd hls hcls hch hS
  obtain ⟨t, r, rfl⟩ : ∃ t r, T = t :: r := by cases T with
    | nil => exact absurd rfl hT
    | cons t r => exact ⟨t, r, rfl⟩
  have hlt : ∀ p : IOq, (p ∈ H ∨ p ∈ t :: r) → p.1 < l.length := fun p hp => by
    rcases hp with hp | hp
    · exact (P8.1 (hB.hat p hp)).1
    · exact (P8.1 (hB.tat p hp)).1
  -- an operation that is ready finds its operands
  have hops : ∀ p : IOq, (p ∈ H ∨ p ∈ t :: r) → p.1 ∈ Region.ready .any l.toArray listed → ∀ s ∈ V9 p.2, Jb pd env s = look env s := fun p hp hr s hs => by
    unfold Jb
    rw [if_neg]
    intro hany
    obtain ⟨q, hq, hb⟩ := List.any_eq_true.1 hany
    have hqs : q.2.2.1 = s := Nat.eq_of_beq_eq_true hb
    have hql := hpd q hq
    have hw := hB.need p hp _ (hlH q hql) s hs (by rw [← hqs]; exact (hF q hql).dst)
    obtain ⟨e, he, hbn, hon⟩ := waitsB_iff.1 hw
    obtain ⟨_, o, h2, h3⟩ := mem_ready.1 hr
    have hpo : l[p.1]? = some p.2 := hp.elim (hB.hat p) (hB.tat p)
    rw [show l.toArray[p.1]? = l[p.1]? by simp, hpo] at h2; injection h2 with h2; subst h2
    have h4 := h3 e he hbn
    have hqlt := hlt (q.1, q.2.1) (.inl (hlH q hql))
    rw [hon, getD_both ((hch q.1 hqlt).2 (.inl ⟨q, hq, rfl⟩))] at h4
    cases h4
  have hnt : n + (t :: r).length = (n + r.length) + 1 := by simp; omega
  rw [hnt]
  refine ⟨fun h0 => ?_, fun j hj => ?_⟩
  · -- some operation is ready
    exfalso
    have hnone : ∀ x, x ∉ Region.ready .any l.toArray listed := fun x hx => by rw [h0] at hx; cases hx
    have hmin : ∀ m, ∀ p ∈ pd, p.1 ≤ m → False := by
      intro m
      induction m using Nat.strongRecOn with
      | _ m im =>
        intro p hp hpm
        have hpH := hlH p (hpd p hp)
        refine hnone p.1 (mem_ready.2 ⟨(hch p.1 (hlt (p.1, p.2.1) (.inl hpH))).2 (.inl ⟨p, hp, rfl⟩), p.2.1, by simpa using hB.hat _ hpH, fun e he hb => ?_⟩)
        obtain ⟨e1, q, hq, e2⟩ := hB.early _ hpH e he hb
        have hel : e.on < l.length := by rw [← e2]; exact hlt q (.inl hq)
        refine Mk (by omega) fun hf => ?_
        rcases (hch e.on hel).1 hf with ⟨q', hq', e3⟩ | ⟨q', hq', e3⟩
        · exact im q'.1 (by simp only at e1; omega) q' hq' (Nat.le_refl _)
        · exact hB.apart q' hq' q hq (e2.trans e3.symm)
    have hpd0 : ∀ p, p ∉ pd := fun p hp => hmin p.1 p hp (Nat.le_refl _)
    refine hnone t.1 (mem_ready.2 ⟨(hch t.1 (hlt t (.inr (by simp)))).2 (.inr ⟨t, by simp, rfl⟩), t.2, by simpa using hB.tat t (by simp), fun e he hb => ?_⟩)
    obtain ⟨j, e1, e2, e3⟩ := hB.prog' t r rfl e he hb
    refine Mk (by omega) fun hf => ?_
    rw [e1] at hf
    rcases (hch j e2).1 hf with ⟨q', hq', _⟩ | ⟨q', hq', e4⟩
    · exact hpd0 q' hq'
    · exact e3 q' hq' e4
  · obtain ⟨hju, o, ho, _⟩ := mem_ready.1 hj
    have hjl : j < l.length := by simpa using (Array.getElem?_eq_some_iff.1 ho).1
    rcases (hch j hjl).1 hju with ⟨p, hp, rfl⟩ | ⟨p, hp, rfl⟩
    · -- a late operation
      have hpl := hpd p hp
      have hpH := hlH p hpl
      have hf := hF p hpl
      have hpo : l.toArray[p.1]? = some p.2.1 := by simpa using hB.hat _ hpH
      refine wpOp_at hpo (hB.guard _ hpH) ?_
      obtain ⟨s1, s2, φ, hG, hE⟩ := hS
      refine hf.pur a ⟨w, φ, Yq ct u i h :: more, C.ok⟩ i h hG rfl (fun s hs => ?_) _ _ fun x w' hb hv => ?_
      · rw [← hE0 s (mem_keys hpH hs), ← hops _ (.inl hpH) hj s hs]
        exact hE s
      · obtain ⟨g1, g2⟩ := Xn hG hb
        have hlen : (pd.filter fun q => !(Nat.beq q.1 p.1)).length < pd.length := by
          refine Nat.lt_of_le_of_ne (List.length_filter_le _ _) fun e => ?_
          have := List.length_filter_eq_length_iff.1 e p hp
          simp at this
        have hmem : ∀ q, q ∈ (pd.filter fun q => !(Nat.beq q.1 p.1)) ↔ q ∈ pd ∧ q.1 ≠ p.1 := fun q => by
          rw [List.mem_filter]
          constructor
          · rintro ⟨h1, h2⟩; exact ⟨h1, fun e => by simp [e] at h2⟩
          · rintro ⟨h1, h2⟩
            refine ⟨h1, ?_⟩
            cases hbq : Nat.beq q.1 p.1
            · rfl
            · exact absurd (Nat.eq_of_beq_eq_true hbq) h2
        have hmono : ∀ (n1 n2 : Nat) (listed : Array Bool) a w, n1 ≤ n2 → wpAny P .any l.toArray (nrm (Fin P k R)) n1 listed a w → wpAny P .any l.toArray (nrm (Fin P k R)) n2 listed a w := by
          intro n1
          induction n1 with
          | zero =>
            intro n2 listed a w _ hw
            cases n2 with
            | zero => exact hw
            | succ n2 => exact ⟨fun _ => hw.2, fun i hi => by rw [hw.1] at hi; cases hi⟩
          | succ n1 im =>
            intro n2 listed a w hle hw
            obtain ⟨n2, rfl⟩ : ∃ m, n2 = m + 1 := ⟨n2 - 1, by omega⟩
            exact ⟨hw.1, fun i hi => wpOp_mono (fun a w => im n2 _ a w (by omega)) (hw.2 i hi)⟩
        refine hmono _ _ _ _ _ (by simp; omega) (ih (pd.filter fun q => !(Nat.beq q.1 p.1)).length (by omega) (pd.filter fun q => !(Nat.beq q.1 p.1)) _ _ w' rfl (fun q hq => hpd q ((hmem q).1 hq).1) (by simpa using hls) (hcls.next hj hls) (fun j hj => ?_) ⟨by rw [hf.dst]; exact s1, by rw [hf.dst]; simp [Act.put, s2], φ, g1, fun s => ?_⟩)
        · by_cases e : p.1 = j
          · subst e
            rw [U3 true (by omega)]
            constructor
            · intro h; cases h
            · rintro (⟨q, hq, e⟩ | ⟨q, hq, e⟩)
              · exact absurd e ((hmem q).1 hq).2
              · exact absurd e.symm (hB.apart q hq _ hpH)
          · rw [Ll true e, hch j hj]
            constructor
            · rintro (⟨q, hq, rfl⟩ | h)
              · exact .inl ⟨q, (hmem q).2 ⟨hq, fun h => e h.symm⟩, rfl⟩
              · exact .inr h
            · rintro (⟨q, hq, rfl⟩ | h)
              · exact .inl ⟨q, ((hmem q).1 hq).1, rfl⟩
              · exact .inr h
        · rw [hf.dst, Xy a _ s x (by rw [s2]; exact hf.lt)]
          split
          · rename_i e
            subst e
            unfold Jb
            split
            · simp [AV.rel]
            · rw [hE0 _ (A9 hpH hf.dst), hf.val]; exact hv
          · rename_i e
            have := AV.rel_keeps g2 _ _ (AV.only_true _) (hE s)
            unfold Jb at this ⊢
            split
            · simp [AV.rel]
            · rename_i hn2
              rw [if_neg] at this
              · exact this
              · intro hany
                obtain ⟨q, hq, hbq⟩ := List.any_eq_true.1 hany
                refine hn2 (List.any_eq_true.2 ⟨q, (hmem q).2 ⟨hq, fun e' => ?_⟩, hbq⟩)
                -- two of one index are the same operation
                have h1 := hB.hat _ (hlH q (hpd q hq))
                have h2 := hB.hat _ hpH
                simp only at h1 h2
                rw [e', h2] at h1
                injection h1 with h1
                have d1 := (hF q (hpd q hq)).dst
                rw [← h1, hf.dst] at d1
                injection d1 with d1
                exact e (d1.trans (Nat.eq_of_beq_eq_true hbq))
    · rcases List.mem_cons.1 hp with rfl | hp
      · have := head pd listed a w p r rfl hpd hls hcls hch hj hS (hops p (.inr (by simp)) hj)
        rwa [hn] at this
      · exact (T2 (l := l) r t p hB.chain (fun x hx => (hch x.1 (hlt x (.inr hx))).2 (.inr ⟨x, hx, rfl⟩)) hB.tat hp hj).elim
theorem maskE_put {pd : List LO} {env : Env} {t : Nat} {v : AV} {s : Nat} (h : s ≠ t) : Jb pd ((t, v) :: env) s = Jb pd env s := by
  unfold Jb
  rw [Y4, if_neg (Ne.symm h)]
theorem cln_mask {pd : List LO} {env : Env} (h : clnE env = true) (t : Nat) : cln (Jb pd env t) = true := by
  unfold Jb
  split
  · rfl
  · exact clnE.look h t
theorem H0 {p : IOq} {r : List IOq} {pd : List LO} {listed : Array Bool} (hB : LatB l H (p :: r)) (hlH : ∀ q ∈ pd, (q.1, q.2.1) ∈ H) (hls : listed.size = l.length) (hch : ∀ j, j < l.length → (listed.getD j true = false ↔ ((∃ q ∈ pd, q.1 = j) ∨ ∃ q ∈ p :: r, q.1 = j))) :
    ∀ j, j < l.length → ((listed.setIfInBounds p.1 true).getD j true = false ↔ ((∃ q ∈ pd, q.1 = j) ∨ ∃ q ∈ r, q.1 = j)) := fun j hj => by
  have hpl := (P8.1 (hB.tat p (by simp))).1
  have hnd := hB.tnd
  rw [List.map_cons, List.nodup_cons] at hnd
  by_cases e : p.1 = j
  · subst e
    rw [U3 true (by omega)]
    constructor
    · intro h; cases h
    · rintro (⟨q, hq, e⟩ | ⟨q, hq, e⟩)
      · exact absurd e (hB.apart p (by simp) _ (hlH q hq))
      · exact absurd (List.mem_map.2 ⟨q, hq, e⟩) hnd.1
  · rw [Ll true e, hch j hj]
    constructor
    · rintro (h | ⟨q, hq, rfl⟩)
      · exact .inl h
      · rcases List.mem_cons.1 hq with rfl | hq
        · exact absurd rfl e
        · exact .inr ⟨q, hq, rfl⟩
    · rintro (h | ⟨q, hq, rfl⟩)
      · exact .inl h
      · exact .inr ⟨q, by simp [hq], rfl⟩
section
variable {i h : Int} {env : Env} {n t : Nat} {ty : TypeId} {pos : String} {after : Array Edge} {b : List UInt8}
theorem T8 {o : Oper} {T' : List IOq} (X : AV → Int → Int → Prop) (hg : o.guard = none) (hd : o.dst = some t) (ht : t < C.n) (hce : clnE env = true)
    (hs : ∀ (a : Act) (m : Mem), Good C m → m.σ = Yq ct u i h :: more → (∀ x ∈ o.op.operands, AV.rel m (ev env x) (a.eval x)) → ∀ (K : Act → World → Prop) (Q : Exit → Act → World → Prop),
      (∀ y i' h' v w', X y i' h' → Good C ⟨w', m.φ, Yq ct u i' h' :: more, C.ok⟩ → (∀ y x, cln y = true → AV.rel m y x → AV.rel ⟨w', m.φ, Yq ct u i' h' :: more, C.ok⟩ y x) → AV.rel ⟨w', m.φ, Yq ct u i' h' :: more, C.ok⟩ y v → K (a.put (some t) v) w') → o.wp P a m.w K Q)
    (hk : ∀ y i' h', X y i' h' → RunsP P C ct u more l H T' k R i' h' ((t, y) :: env)) : RunsP P C ct u more l H ((n, o) :: T') k R i h env := by
  refine ⟨fun hB late E0 hlH hF hE0 => Ew hB hlH hF hE0 (fun pd listed a w p r e hpd hls hcls hch hr hS hops => ?_) (by simp)⟩
  injection e with e1 e2
  subst e1; subst e2
  refine wpOp_at (by simpa using hB.tat (n, o) (by simp)) hg ?_
  obtain ⟨s1, s2, φ, hG, hE⟩ := hS
  refine hs a ⟨w, φ, Yq ct u i h :: more, C.ok⟩ hG rfl (ev_tmps fun s hs => by rw [← hops s hs]; exact hE s) _ _ fun y i' h' v w' hX g1 g2 g3 => ?_
  have hfr := hB.fresh (n, o) (by simp) t hd
  refine (hk y i' h' hX).run hB.tail late E0 hlH hF (fun s hs => ?_) pd.length pd _ _ w' rfl hpd (by simpa using hls) (hcls.next hr hls) (H0 hB (fun q hq => hlH q (hpd q hq)) hls hch) ⟨s1, by simp [Act.put, s2], φ, g1, fun s => ?_⟩
  · rw [Y4, if_neg (fun (e : t = s) => hfr (by rw [e]; exact hs))]; exact hE0 s hs
  · rw [Xy a t s v (by rw [s2]; exact ht)]
    split
    · rename_i e; subst e
      unfold Jb
      split
      · simp [AV.rel]
      · rw [Y4, if_pos rfl]; exact g3
    · rename_i e
      rw [maskE_put (Ne.symm e)]
      exact g2 _ _ (cln_mask hce s) (hE s)
theorem RunsP.pur {o : Oper} {T' : List IOq} {y : AV} (hp : Pur P C o env (Yq ct u i h :: more) y) (hg : o.guard = none) (hd : o.dst = some t) (ht : t < C.n) (hce : clnE env = true) (hk : RunsP P C ct u more l H T' k R i h ((t, y) :: env)) : RunsP P C ct u more l H ((n, o) :: T') k R i h env :=
  T8 (fun y' i' h' => y' = y ∧ i' = i ∧ h' = h) hg hd ht hce (fun a m hG hσ hH K Q hK => hp.run a m hG hσ hH K Q fun v w' hb hv => by
    obtain ⟨w, φ, s, ok0⟩ := m
    have h0 := hG.ok0
    simp only at h0 hσ
    subst h0; subst hσ
    obtain ⟨g1, g2⟩ := Xn hG hb
    rw [hd]
    exact hK y i h v w' ⟨rfl, rfl, rfl⟩ g1 (fun z x _ hz => AV.rel_keeps g2 _ _ (AV.only_true _) hz) hv) (by rintro _ _ _ ⟨rfl, rfl, rfl⟩; exact hk)
theorem Qx {f : FuncId} {fn : Func} {x0 : Operand} {xs : List Operand} {ats : Array TypeId} {args : List RV} {Q : RR → Prop} {Q' : RV → Prop} {T' : List IOq} [hfn : FN P f fn] (hf : Drw P ct f b args Q) (hq : ∀ rr, Q rr → Jy rr = true ∧ ∃ r, Seals rr r ∧ Q' r) (hc : unpin (ev env x0) = .obj 0 0) (hu : HU C b u) (hi : Xv b i) (ha : ∀ h : Int, LendsPL C (Yq ct u i h :: more) (xs.map (ev env)) args)
    (hce : clnE env = true) (hcl : B1 more = true) (ht : t < C.n) (hk : ∀ i' h' r, Xv b i' → Q' r → RunsP P C ct u more l H T' k R i' h' ((t, .ro r) :: env)) :
    RunsP P C ct u more l H ((n, ⟨some t, .call { callee := .value (.func f), args := (x0 :: xs).toArray, argTypes := ats }, ty, pos, after, none⟩) :: T') k R i h env :=
  T8 (fun y i' h' => ∃ r, y = .ro r ∧ Xv b i' ∧ Q' r) rfl rfl ht hce (fun a m hG hσ hH K Q hK =>
    Ol hf (fun rr h => (hq rr h).1) hc hu hi hG hσ (by rw [hσ]; exact ha h) (fun x hx => hH x (by simp [Op.operands, Call.operands] at hx ⊢; exact .inr hx)) fun rr v w' i' h' bs g hQ hD => by
      obtain ⟨_, r, hs, hr⟩ := hq rr hQ
      obtain ⟨g1, g2, g3⟩ := hD.simS hG hσ hu.one hcl hs
      exact hK (.ro r) i' h' v w' ⟨r, rfl, hD.ok, hr⟩ g1 g2 g3) (by rintro _ i' h' ⟨r, rfl, h1, h2⟩; exact hk i' h' r h1 h2)
theorem Vi {f : FuncId} {fn : Func} {x0 : Operand} {xs : List Operand} {ats : Array TypeId} {args : List RV} {Q : RR → Prop} {Q' : RV → Prop} {T' : List IOq} [hfn : FN P f fn] (hf : Drw P ct f b args Q) (hq : ∀ rr, Q rr → ∃ r, Seals rr r ∧ Q' r) (hc : unpin (ev env x0) = .obj 0 0) (hu : HU C b u) (hi : Xv b i) (ha : xs.map (ev env) = args.map .ro)
    (hce : clnE env = true) (hcl : B1 more = true) (ht : t < C.n) (hk : ∀ i' h' r, Xv b i' → Q' r → RunsP P C ct u more l H T' k R i' h' ((t, .ro r) :: env)) :
    RunsP P C ct u more l H ((n, ⟨some t, .call { callee := .value (.func f), args := (x0 :: xs).toArray, argTypes := ats }, ty, pos, after, none⟩) :: T') k R i h env :=
  T8 (fun y i' h' => ∃ r, y = .ro r ∧ Xv b i' ∧ Q' r) rfl rfl ht hce (fun a m hG hσ hH K Q hK =>
    Bw hf hc hu hi hG hσ (ha ▸ Vs args) (fun x hx => hH x (by simp [Op.operands, Call.operands] at hx ⊢; exact .inr hx)) fun rr v w' i' h' bs g hQ hD => by
      obtain ⟨r, hs, hr⟩ := hq rr hQ
      obtain ⟨g1, g2, g3⟩ := hD.simS hG hσ hu.one hcl hs
      exact hK (.ro r) i' h' v w' ⟨r, rfl, hD.ok, hr⟩ g1 g2 g3) (by rintro _ i' h' ⟨r, rfl, h1, h2⟩; exact hk i' h' r h1 h2)
theorem Xr (m : Nat) (hm : (T.map (·.1)) = (List.range' m (l.length - m))) (hml : m < l.length) (hw : Region.sinkB .any l.toArray m = true) (hsq : Region.seqB .any l.toArray (l.length - m) m (Array.replicate m true ++ Array.replicate (l.length - m) false) = true)
    (hk : RunsL P C l.toArray (l.drop m) k R ⟨env, Yq ct u i h :: more⟩) : RunsP P C ct u more l H T k R i h env := by
  refine ⟨fun hB late E0 hlH hF hE0 => ?_⟩
  have hT : T ≠ [] := by
    rintro rfl
    have := congrArg List.length hm
    simp at this; omega
  have hin : ∀ j, (∃ p ∈ T, p.1 = j) ↔ m ≤ j ∧ j < l.length := fun j => by
    have : (∃ p ∈ T, p.1 = j) ↔ j ∈ T.map (·.1) := by simp only [List.mem_map]
    rw [this, hm, List.mem_range'_1]
    omega
  refine Ew hB hlH hF hE0 (fun pd listed a w p r e hpd hls hcls hch hr hS hops => ?_) hT
  subst e
  have hp1 : p.1 = m := by
    have := congrArg List.head? hm
    rw [show l.length - m = (l.length - m - 1) + 1 by omega, List.range'_succ] at this
    simpa using this
  -- nothing is pending
  have hall : ∀ n i, m - i ≤ n → i < m → listed.getD i false = true := by
    intro n
    induction n with
    | zero => intro i h1 h2; omega
    | succ n ih =>
      intro i h1 h2
      have hsk := List.all_eq_true.1 hw i (List.mem_range.2 h2)
      obtain ⟨j, hj, hb⟩ := List.any_eq_true.1 hsk
      rw [List.mem_range] at hj
      rw [Bool.and_eq_true] at hb
      obtain ⟨oj, hoj, e, he, hbn, hon⟩ := Region.waitsFor_spec hb.2
      have hij := of_decide_eq_true hb.1
      rw [← hon]
      by_cases ejm : j = m
      · subst ejm
        obtain ⟨_, o, h3, h4⟩ := mem_ready.1 hr
        rw [hp1] at h3
        rw [h3] at hoj; injection hoj with hoj; subst hoj
        exact h4 e he hbn
      · exact hcls j oj (by simpa using hoj) (ih j (by omega) (by omega)) e he hbn
  have hpd0 : pd = [] := by
    rw [List.eq_nil_iff_forall_not_mem]
    intro q hq
    have hql := (P8.1 (hB.hat _ (hlH q (hpd q hq)))).1
    have hqm : q.1 < m := by
      rcases Nat.lt_or_ge q.1 m with h | h
      · exact h
      · obtain ⟨x, hx, e⟩ := (hin q.1).2 ⟨h, hql⟩
        exact absurd e.symm (hB.apart x hx _ (hlH q (hpd q hq)))
    have h4 := hall (m - q.1) q.1 (Nat.le_refl _) hqm
    rw [getD_both ((hch q.1 hql).2 (.inl ⟨q, hq, rfl⟩))] at h4
    cases h4
  subst hpd0
  have hlst : listed = Array.replicate m true ++ Array.replicate (l.length - m) false := by
    refine Array.ext (by simp; omega) fun j h1 h2 => ?_
    have hjl : j < l.length := by omega
    have hx := hch j hjl
    simp only [List.not_mem_nil, false_and, exists_false, false_or] at hx
    rw [hin j, Array.getD_eq_getD_getElem?, Array.getElem?_eq_getElem h1, Option.getD_some] at hx
    rw [Array.getElem_append]
    split
    · rename_i h3
      simp only [Array.size_replicate] at h3
      rw [Array.getElem_replicate]
      cases hb : listed[j]
      · have := hx.1 hb; omega
      · rfl
    · rename_i h3
      simp only [Array.size_replicate] at h3
      rw [Array.getElem_replicate]
      exact hx.2 ⟨by omega, hjl⟩
  obtain ⟨s1, s2, φ, hG, hE⟩ := hS
  have hlen : r.length + 1 = l.length - m := by
    have := congrArg List.length hm
    simpa using this
  have hrun := hk.run a w ⟨s1, s2, φ, hG, fun s => by have := hE s; simpa [Jb] using this⟩
  have := wpAny_of_seq (md := .any) (Q' := nrm (Fin P k R)) (l.drop m) m listed a w (fun j => by simp [List.getElem?_drop]) (by rw [List.length_drop, hlst]; exact hsq) hrun
  rw [List.length_drop, ← hlen] at this
  rw [Rc, Nat.zero_add]
  exact this.2 p.1 hr
end
structure RunsH (P : Program) (C : Ctx) (ct : TypeId) (u : Value) (more : List Ob) (l : List Oper) (H T : List IOq) (k : List Item) (R : Act → World → Prop) (i h : Int) (keys : List Nat) (rest : List IOq) (env : Env) : Prop where
  run : ∃ (late : List LO) (env' : Env), late.length = rest.length ∧ (∀ p ∈ late, (p.1, p.2.1) ∈ rest) ∧ (∀ p ∈ rest, ∃ q ∈ late, q.1 = p.1 ∧ q.2.1 = p.2) ∧ (∀ s ∈ keys, look env' s = look env s) ∧ (∀ s, (∀ p ∈ late, p.2.2.1 ≠ s) → look env' s = look env s) ∧ (∀ p ∈ late, LFact P C ct u more (look env') p) ∧ RunsP P C ct u more l H T k R i h env'
variable {i h : Int} {env : Env} {n t : Nat} {keys : List Nat} {rest : List IOq}
theorem RunsH.nil (hk : RunsP P C ct u more l H T k R i h env) : RunsH P C ct u more l H T k R i h keys [] env := ⟨⟨[], env, rfl, by simp, by simp, fun _ _ => rfl, fun _ _ => rfl, by simp, hk⟩⟩
theorem RunsH.pur {o : Oper} {v : AV} (hp : ∀ i h : Int, Pur P C o env (Yq ct u i h :: more) v) (hd : o.dst = some t) (ht : t < C.n) (hf : (keys ++ V9 o).contains t = false)
    (hk : RunsH P C ct u more l H T k R i h (keys ++ V9 o ++ [t]) rest ((t, v) :: env)) : RunsH P C ct u more l H T k R i h keys ((n, o) :: rest) env := by
  obtain ⟨late, env', h0, h1, h2, h3, h4, h5, h6⟩ := hk.run
  have hfr : ∀ s ∈ keys ++ V9 o, s ≠ t := fun s hs e => by
    subst e
    have : (keys ++ V9 o).contains s = true := List.contains_iff_mem.2 hs
    rw [hf] at this; cases this
  refine ⟨⟨(n, o, t, v) :: late, env', by simp [h0], fun p hp => ?_, fun p hp => ?_, fun s hs => ?_, fun s hs => ?_, fun p hp' => ?_, h6⟩⟩
  · rcases List.mem_cons.1 hp with rfl | hp
    · simp
    · exact List.mem_cons_of_mem _ (h1 p hp)
  · rcases List.mem_cons.1 hp with rfl | hp
    · exact ⟨_, List.mem_cons_self, rfl, rfl⟩
    · obtain ⟨q, hq, e⟩ := h2 p hp
      exact ⟨q, List.mem_cons_of_mem _ hq, e⟩
  · rw [h3 s (by simp [hs]), Y4, if_neg (Ne.symm (hfr s (by simp [hs])))]
  · rw [h4 s (fun p hp => hs p (List.mem_cons_of_mem _ hp)), Y4, if_neg (hs (n, o, t, v) List.mem_cons_self)]
  · rcases List.mem_cons.1 hp' with rfl | hp'
    · refine ⟨fun a m i h hG hσ hH K Q hK => ?_, ?_, hd, ht⟩
      · exact (hp i h).run a m hG hσ (ev_tmps fun s hs => by
          have := hH s hs
          rwa [h3 s (by simp [hs]), Y4, if_neg (Ne.symm (hfr s (by simp [hs])))] at this) K Q hK
      · show look env' t = v
        rw [h3 t (by simp), Y4, if_pos rfl]
    · exact h5 p hp'
def A7 : List Nat → Bool
  | [] => true
  | x :: xs => !(xs.contains x) && A7 xs
theorem Dc : ∀ {l : List Nat}, A7 l = true → l.Nodup
  | [], _ => List.nodup_nil
  | x :: xs, h => by
    simp only [A7, Bool.and_eq_true, Bool.not_eq_true'] at h
    rw [List.nodup_cons]
    exact ⟨fun hm => by rw [List.contains_iff_mem.2 hm] at h; simp at h, Dc h.2⟩
theorem latB_of {hs ts : List Nat} (hB : lateB l.length (pick l hs) (pick l ts) = true) (hnd : A7 ((pick l ts).map (·.1)) = true) : LatB l (pick l hs) (pick l ts) := by
  unfold lateB at hB
  simp only [Bool.and_eq_true] at hB
  obtain ⟨⟨⟨⟨b1, b2⟩, b3⟩, b4⟩, b5⟩ := hB
  rw [List.all_eq_true] at b1 b2
  have needs : ∀ (o : Oper), needB (pick l hs) o = true → ∀ q ∈ pick l hs, ∀ s ∈ V9 o, q.2.dst = some s → Ep o q.1 = true := fun o ho q hq s hs' hd => by
    have := List.all_eq_true.1 (List.all_eq_true.1 ho q hq) s hs'
    simpa [hd] using this
  refine ⟨fun p hp => Qs hp, fun p hp => Qs hp, fun p hp => ?_, fun p hp => ?_, fun p hp e he hb => ?_, fun p hp q hq e => ?_, fun p hp d hd hm => ?_, b3, Dc hnd, ⟨[], b4, by simp⟩⟩
  · rcases hp with hp | hp
    · have := b1 p hp
      simp only [Bool.and_eq_true] at this
      exact needs p.2 this.1.1.1
    · have := b2 p hp
      simp only [Bool.and_eq_true] at this
      exact needs p.2 this.1.1
  · have := b1 p hp
    simp only [Bool.and_eq_true] at this
    simpa using this.1.1.2
  · have := b1 p hp
    simp only [Bool.and_eq_true] at this
    have := edgesIn_iff.1 this.2 e he hb
    simp only [Bool.and_eq_true] at this
    exact ⟨nbT this.1, Bg.1 this.2⟩
  · have := b2 p hp
    simp only [Bool.and_eq_true] at this
    have h1 := this.1.2
    rw [Bg.2 ⟨q, hq, e⟩] at h1
    simp at h1
  · have := b2 p hp
    simp only [Bool.and_eq_true, hd] at this
    have h1 := this.2
    rw [List.contains_iff_mem.2 hm] at h1
    simp at h1
theorem Xf {id : Nat} {k0 : List Item} {σ : List Ob} (m : Nat) (hs ts : List Nat) (hf : P.follows .mixedOrders = true) (hσ : σ = Yq ct u i h :: more) (hc : Proofs.Ytnecoghfhcimeaa.ctls m k0 = .code (.region id l.toArray true) :: k) (hB : lateB l.length (pick l hs) (pick l ts) = true) (hnd : A7 ((pick l ts).map (·.1)) = true) (hle : Nat.ble ((pick l hs).length + (pick l ts).length) l.length = true)
    (hk : RunsH P C ct u more l (pick l hs) (pick l ts) k R i h [] (pick l hs) env) : Runs P C k0 R ⟨env, σ⟩ := by
  subst hσ
  refine Rj m hc ⟨fun a w hs' => Qp (wp_region_any hf ?_)⟩
  obtain ⟨s1, s2, φ, hG, hE⟩ := hs'
  have hb : Below w.heap.size w { w with drawn := w.drawn + 1 } := ⟨rfl, rfl, rfl, Nat.le_refl _, fun _ _ => rfl⟩
  obtain ⟨g1, g2⟩ := Xn hG hb
  obtain ⟨late, env', h0, h1, h2, _, h4, h5, h6⟩ := hk.run
  have hL := latB_of hB hnd
  have hall : ∀ j, j < l.length → (∃ p ∈ late, p.1 = j) ∨ ∃ p ∈ pick l ts, p.1 = j := fun j hj => by
    unfold lateB at hB
    simp only [Bool.and_eq_true] at hB
    have := List.all_eq_true.1 hB.2 j (List.mem_range.2 hj)
    rw [Bool.or_eq_true, Bg, Bg] at this
    rcases this with ⟨p, hp, e⟩ | h
    · obtain ⟨q, hq, e1, _⟩ := h2 p hp
      exact .inl ⟨q, hq, e1.trans e⟩
    · exact .inr h
  have hrun := h6.run hL late (look env') h1 h5 (fun _ _ => rfl) late.length late (Array.replicate l.length false) a { w with drawn := w.drawn + 1 } rfl (fun _ h => h) (by simp) (fun j o _ hl => by rw [getD_replicate_false] at hl; cases hl) (fun j hj => ⟨fun _ => hall j hj, fun _ => getD_in (by simpa using hj) (getD_replicate_false _ _)⟩) ⟨s1, s2, φ, g1, fun s => ?_⟩
  · have hmono : ∀ (n1 n2 : Nat) (listed : Array Bool) a w, n1 = n2 → wpAny P .any l.toArray (nrm (Fin P k R)) n1 listed a w → wpAny P .any l.toArray (nrm (Fin P k R)) n2 listed a w := fun _ _ _ _ _ e h => e ▸ h
    have hup : ∀ (n1 n2 : Nat) (listed : Array Bool) a w, n1 ≤ n2 → wpAny P .any l.toArray (nrm (Fin P k R)) n1 listed a w → wpAny P .any l.toArray (nrm (Fin P k R)) n2 listed a w := by
      intro n1
      induction n1 with
      | zero =>
        intro n2 listed a w _ hw
        cases n2 with
        | zero => exact hw
        | succ n2 => exact ⟨fun _ => hw.2, fun i hi => by rw [hw.1] at hi; cases hi⟩
      | succ n1 im =>
        intro n2 listed a w hle hw
        obtain ⟨n2, rfl⟩ : ∃ m, n2 = m + 1 := ⟨n2 - 1, by omega⟩
        exact ⟨hw.1, fun i hi => wpOp_mono (fun a w => im n2 _ a w (by omega)) (hw.2 i hi)⟩
    have hle' := nbT hle
    have := hup _ l.toArray.size _ _ _ (by simp; omega) hrun
    simpa using this
  · unfold Jb
    split
    · simp [AV.rel]
    · rename_i hn
      rw [h4 s fun p hp e => hn (List.any_eq_true.2 ⟨p, hp, by rw [e]; exact Nat.beq_refl _⟩)]
      exact AV.rel_keeps g2 _ _ (AV.only_true _) (hE s)
end
def ANewU (P : Program) (ct : TypeId) (f : FuncId) (b : List UInt8) : Prop :=
  ∀ (w : World) (ok : Nat → Prop) (u : Value), (∀ x, w.heap.size ≤ x → ok x) → RV.rel w ok (Yz b) u →
    Calls P f #[u] w fun e w' => ∃ g h, e = .returned (.pointer (some ⟨g, 0, none⟩)) ∧ w.heap.size ≤ g ∧ He ct w' g u 0 h ∧ Below w.heap.size w w'
def EndsNU (P : Program) (C : Ctx) (fn : Func) (ct : TypeId) (u : Value) (a : Act) (w : World) : Prop :=
  a.defers = [] ∧ ∃ g h, (results fn a.tmps).run P w = .ok (.pointer (some ⟨g, 0, none⟩)) w ∧ C.w0.heap.size ≤ g ∧ He ct w g u 0 h ∧ Below C.w0.heap.size C.w0 w
theorem Er {ok : Nat → Prop} {b : List UInt8} {args : List RV} {n : Nat} {u : Value} {us : List Value} {w : World} (h0 : ∀ x, w.heap.size ≤ x → ok x) (hu : RV.rel w ok (Yz b) u) (hus : RV.rels w ok args us) (hl : args.length + 1 ≤ n) :
    Sim ⟨w, ok, fun _ => False, n⟩ ⟨(0, .ro (.c u)) :: Wt 1 args, []⟩ { tmps := (u :: us).toArray ++ Array.replicate (n - (u :: us).toArray.size) undef, defers := [] } w := by
  have hlen := RV.rels_len args _ hus
  refine ⟨rfl, by simp; omega, fun _ => none, ⟨rfl, fun i j g hi => by simp at hi, fun i o hi => by simp at hi, fun i g hi => by simp at hi, ⟨rfl, rfl, rfl, Nat.le_refl _, fun _ _ _ => rfl, h0⟩⟩, fun t => ?_⟩
  rw [Y4]
  split
  · rename_i e; subst e
    simp only [AV.rel, RV.rel]
    rw [Array.getD_eq_getD_getElem?, Array.getElem?_append_left (by simp)]
    simp
  · rename_i e
    rw [Kx]
    by_cases h1 : 1 ≤ t
    · rw [if_pos h1]
      cases hr : args[t - 1]? with
      | none => simp [AV.rel]
      | some r =>
        obtain ⟨x, e1, e2⟩ := RV.rels_at args _ hus (t - 1) r hr
        have ht : t - 1 < us.length := (P8.1 e1).1
        simp only [AV.rel]
        have : ((u :: us).toArray ++ Array.replicate (n - (u :: us).toArray.size) undef).getD t undef = x := by
          rw [Array.getD_eq_getD_getElem?, Array.getElem?_append_left (by simp; omega)]
          obtain ⟨t', rfl⟩ : ∃ t', t = t' + 1 := ⟨t - 1, by omega⟩
          simp at e1 ⊢
          simp [e1]
        rw [this]
        exact RV.rel_mono ⟨Nat.le_refl _, fun x _ hx => ⟨⟨hx, fun j hj => by simp at hj⟩, rfl⟩⟩ r x e2
    · omega
theorem Il {P : Program} {ct : TypeId} {f : FuncId} {fn : Func} {c : Code} {b : List UInt8} (hf : P.funcs[f]? = some fn) (hb : fn.body = some c) (n : Nat) (hn : fn.ntmps = n) (hl : 1 ≤ n)
    (h : ∀ (C : Ctx) (u : Value), C.n = n → (∀ x, ¬ C.mu x) → HU C b u → Runs P C [.code c] (EndsNU P C fn ct u) ⟨[(0, .ro (.c u))], []⟩) : ANewU P ct f b := by
  intro w ok u h0 hu
  refine Wl hf hb ?_
  have hs := Er (args := []) (us := []) (n := n) h0 hu (by simp [RV.rels]) (by simpa using hl)
  have hr := (h ⟨w, ok, fun _ => False, n⟩ u rfl (fun _ h => h) (RV.rel_mono ⟨Nat.le_refl _, fun x _ hx => ⟨⟨hx, id⟩, rfl⟩⟩ _ _ hu)).run _ w (by simpa [Wt] using hs)
  intro bb cc
  obtain ⟨a', w', todo, ⟨hd, g, hh, hv, q1, q2, q3⟩, hst⟩ := hr bb cc
  exact ⟨a', w', todo, ⟨hd, _, hv, g, hh, rfl, q1, q2, q3⟩, by simpa [hn] using hst⟩
theorem endsNU {P : Program} {C : Ctx} {fn : Func} {ct : TypeId} {u : Value} {S : St} {t j : Nat} {h : Int} (hm : ∀ x, ¬ C.mu x) (hr : fn.results = #[.tmp t]) (h1 : look S.env t = .obj j 0) (h2 : S.σ[j]? = some (Yq ct u 0 h)) : ∀ a w, Sim C S a w → EndsNU P C fn ct u a w := by
  rintro a w ⟨s1, s2, φ, hG, hH⟩
  have hu := hH t
  rw [h1] at hu
  simp only [AV.rel] at hu
  obtain ⟨hj, g, hg, eu⟩ := hu
  have hob := hG.ob j _ h2
  rw [show (⟨w, φ, S.σ, C.ok⟩ : Mem).φ j = some g from hg] at hob
  obtain ⟨us, q1, q2, q3⟩ := hob
  obtain ⟨x0, e0, _, r0⟩ := q3 0 (.ro (.c u)) rfl
  obtain ⟨x1, e1, _, r1⟩ := q3 1 (.int 0) rfl
  obtain ⟨x2, e2, _, r2⟩ := q3 2 (.int h) rfl
  simp only [AV.rel, RV.rel] at r0 r1 r2
  subst r0; subst r1; subst r2
  exact ⟨s1, g, h, by rw [Wy, hr]; simp [Nu, eu], (hG.mine j g hj hg).resolve_left (hm g), ⟨us, q1, e0, e1, e2⟩, hG.frm.below0 hm⟩
theorem acu_enter {P : Program} {f : FuncId} {fn : Func} {c : Code} {b : List UInt8} {args : List RV} {R : RR → Prop} (hf : P.funcs[f]? = some fn) (hb : fn.body = some c) (n : Nat) (hn : fn.ntmps = n) (hl : args.length + 1 ≤ n)
    (h : ∀ (C : Ctx) (u : Value), C.n = n → (∀ x, ¬ C.mu x) → HU C b u → Runs P C [.code c] (P6 P C fn R) ⟨(0, .ro (.c u)) :: Wt 1 args, []⟩) : AC P f (Yz b :: args) R := by
  intro w ok us h0 hu
  simp only [RV.rels] at hu
  obtain ⟨u, us', e, hu1, hu2⟩ := hu
  refine Wl hf hb ?_
  have hs := Er (n := n) h0 hu1 hu2 hl
  have hr := (h ⟨w, ok, fun _ => False, n⟩ u rfl (fun _ h => h) (RV.rel_mono ⟨Nat.le_refl _, fun x _ hx => ⟨⟨hx, id⟩, rfl⟩⟩ _ _ hu1)).run _ w hs
  intro bb cc
  obtain ⟨a', w', todo, ⟨hd, v, hv, rr, bs, h1, h2, h3, h4, h5⟩, hst⟩ := hr bb cc
  have e' : us = (u :: us').toArray := by rw [← e]
  subst e'
  exact ⟨a', w', todo, ⟨hd, v, hv, v, rr, bs, rfl, h1, h2, h3, h4, h5⟩, by rw [hn]; exact hst⟩
theorem Lends.know {C : Ctx} {σ : List Ob} {b : List UInt8} {u : Value} (hu : HU C b u) : Lends C σ (.ro (.c u)) (Yz b) := fun m x ok' hG _ h1 _ hx => by
  simp only [AV.rel, RV.rel] at hx
  subst hx
  exact RV.rel_mono ⟨Nat.le_refl _, fun z _ hz => ⟨h1 z hz, rfl⟩⟩ _ _ (hu.ok hG)
def Ed (n i : Nat) : Nat := match Nat.beq i n with
  | true => 0
  | false => i + 1
def renE (r : Nat → Nat) : Env → Env
  | [] => []
  | (t, v) :: e => (t, v.ren r) :: renE r e
theorem Gf (r : Nat → Nat) : ∀ (e : Env) (t : Nat), look (renE r e) t = (look e t).ren r
  | [], t => by simp [renE, look, AV.ren]
  | (s, v) :: e, t => by
    rw [renE, Y4, Y4]
    split
    · rfl
    · exact Gf r e t
theorem L2 (n : Nat) : Ed n n = 0 := by unfold Ed; rw [Nat.beq_refl]
theorem Q8 {n i : Nat} (h : i ≠ n) : Ed n i = i + 1 := by
  unfold Ed
  cases hb : Nat.beq i n with
  | true => exact absurd (Nat.eq_of_beq_eq_true hb) h
  | false => rfl
section
variable {P : Program} {C : Ctx} {ops : Array Oper} {rest : List Oper} {k : List Item} {R : Act → World → Prop} {env : Env} {σ : List Ob} {t : Nat} {ty : TypeId} {pos : String} {after : Array Edge} {ct : TypeId} {b : List UInt8} {u : Value}
theorem sim_rot {o : Ob} {a : Act} {w : World} (hs : Sim C ⟨env, σ ++ [o]⟩ a w) : Sim C ⟨renE (Ed σ.length) env, (o :: σ).map (Ob.ren (Ed σ.length))⟩ a w := by
  obtain ⟨s1, s2, φ, hG, hH⟩ := hs
  let φ' : Nat → Option Nat := fun i => match i with
    | 0 => φ σ.length
    | i + 1 => φ i
  have hφ : ∀ i, i < σ.length + 1 → φ' (Ed σ.length i) = φ i := fun i hi => by
    by_cases e : i = σ.length
    · subst e; rw [L2]
    · rw [Q8 e]
  have hlen : ((o :: σ).map (Ob.ren (Ed σ.length))).length = σ.length + 1 := by simp
  have hat : ∀ (i : Nat) (x : Ob), (σ ++ [o])[i]? = some x → ((o :: σ).map (Ob.ren (Ed σ.length)))[Ed σ.length i]? = some (x.ren (Ed σ.length)) := fun i x hi => by
    have hil : i < σ.length + 1 := by have := (P8.1 hi).1; simpa using this
    rw [List.getElem?_map]
    by_cases e : i = σ.length
    · subst e
      rw [L2]
      simp at hi ⊢
      rw [hi]
    · rw [Q8 e, List.getElem?_cons_succ]
      rw [Rg (by omega)] at hi
      rw [hi]; rfl
  have hinv : ∀ j, j < σ.length + 1 → ∃ i, i < σ.length + 1 ∧ Ed σ.length i = j := fun j hj => by
    cases j with
    | zero => exact ⟨σ.length, by omega, L2 _⟩
    | succ j => exact ⟨j, by omega, Q8 (by omega)⟩
  have hrinj : ∀ i j, i < σ.length + 1 → j < σ.length + 1 → Ed σ.length i = Ed σ.length j → i = j := fun i j hi hj e => by
    by_cases e1 : i = σ.length <;> by_cases e2 : j = σ.length
    · omega
    · subst e1; rw [L2, Q8 e2] at e; omega
    · subst e2; rw [L2, Q8 e1] at e; omega
    · rw [Q8 e1, Q8 e2] at e; omega
  have key : ∀ v x, AV.rel ⟨w, φ, σ ++ [o], C.ok⟩ v x → AV.rel ⟨w, φ', (o :: σ).map (Ob.ren (Ed σ.length)), C.ok⟩ (v.ren (Ed σ.length)) x :=
    Hl (m := ⟨w, φ, σ ++ [o], C.ok⟩) (m' := ⟨w, φ', (o :: σ).map (Ob.ren (Ed σ.length)), C.ok⟩) (n := σ.length + 1) rfl (fun x hx => ⟨hx.1, fun j hj e => by
      simp only [hlen] at hj
      obtain ⟨i, hi, rfl⟩ := hinv j hj
      exact hx.2 i (by simpa using hi) ((hφ i hi).symm.trans e)⟩) (fun i hi => hφ i hi) (fun i hi => by
      simp only [hlen]
      by_cases e : i = σ.length
      · subst e; rw [L2]; omega
      · rw [Q8 e]; omega) (by simp) (fun i x hx => ⟨Y0 (Ed σ.length) x.cs, hat i x hx, Uu _ _⟩)
  refine ⟨s1, s2, φ', ⟨rfl, fun i j g hi hj e1 e2 => ?_, fun j x hj => ?_, fun j g hj hg => ?_, hG.frm⟩, fun s => by rw [show look (⟨renE _ env, _⟩ : St).env s = _ from Gf _ _ _]; exact key _ _ (hH s)⟩
  · simp only [hlen] at hi hj
    obtain ⟨i', hi', rfl⟩ := hinv i hi
    obtain ⟨j', hj', rfl⟩ := hinv j hj
    rw [hG.inj i' j' g (by simpa using hi') (by simpa using hj') ((hφ i' hi').symm.trans e1) ((hφ j' hj').symm.trans e2)]
  · have hjl : j < σ.length + 1 := by have := (P8.1 hj).1; rwa [hlen] at this
    obtain ⟨i, hi, rfl⟩ := hinv j hjl
    obtain ⟨oo, hx⟩ : ∃ oo, (σ ++ [o])[i]? = some oo := ⟨_, P9 (by simpa using hi)⟩
    simp only at hj
    rw [hat i _ hx] at hj
    injection hj with hj; subst hj
    have h0 := hG.ob i _ hx
    show ObRel _ _ (φ' (Ed σ.length i))
    rw [hφ i hi]
    simp only at h0
    cases hg : φ i with
    | none => rw [hg] at h0; simp only [ObRel, Ob.ren] at h0 ⊢; rw [h0]; rfl
    | some g =>
      rw [hg] at h0
      obtain ⟨us, q1, q2, q3⟩ := h0
      refine ⟨us, q1, by simp only [Ob.ren, Uu]; exact q2, fun p v hp => ?_⟩
      simp only [Ob.ren, D8] at hp
      obtain ⟨v0, hv0, rfl⟩ := Option.map_eq_some_iff.1 hp
      obtain ⟨y, k1, k2, k3⟩ := q3 p v0 hv0
      exact ⟨y, k1, k2, key v0 y k3⟩
  · simp only [hlen] at hj
    obtain ⟨i, hi, rfl⟩ := hinv j hj
    exact hG.mine i g (by simpa using hi) ((hφ i hi).symm.trans hg)
theorem op_newU {f : FuncId} {fn : Func} {x : Operand} {ats : Array TypeId} [hfn : FN P f fn] (hf : ANewU P ct f b) (hx : ev env x = .ro (.c u)) (hu : HU C b u) (ht : t < C.n)
    (hk : ∀ h : Int, Xv b 0 → RunsL P C ops rest k R ⟨renE (Ed σ.length) ((t, .obj σ.length 0) :: env), (Yq ct u 0 h :: σ).map (Ob.ren (Ed σ.length))⟩) :
    RunsL P C ops (⟨some t, .call { callee := .value (.func f), args := #[x], argTypes := ats }, ty, pos, after, none⟩ :: rest) k R ⟨env, σ⟩ := by
  refine ⟨fun a w ⟨s1, s2, φ, hG, hH⟩ => ?_⟩
  refine wpList_plain rfl fun K hK' => ?_
  have hxx := Tv (Xu hH x) hx
  unfold Oper.wp
  rw [execOp_call_go, Wb hfn]
  simp only [Oper.upon]
  have e0 : (#[x].map a.eval) = #[u] := by simp [hxx]
  rw [e0]
  simp only [Array.empty_append, Array.append_empty]
  refine (hf w (AV.Mem.ok ⟨w, φ, σ, C.ok⟩) u (Js hG) (hu.ok hG)).mono ?_
  rintro ee w' ⟨g, h, rfl, h1, ⟨us, q0, q1, q2, q3⟩, h5⟩
  obtain ⟨g1, g2⟩ := Um (φ' := upd φ σ.length (some g)) (new := [Yq ct u 0 h]) hG h5 (fun i hi => Y7 (show i ≠ σ.length from Nat.ne_of_lt hi)) (fun j hj b hb => by
      simp at hj; subst hj; simp [Y9] at hb; subst hb; exact h1) (fun i j b hi hj _ _ => by simp at hi hj; omega) (fun j o hj => by
      cases j with
      | succ j => simp at hj
      | zero =>
        simp at hj; subst hj
        simp only [Nat.add_zero, Y9, ObRel]
        refine ⟨us, q0, ?_, fun p v hp => ?_⟩
        · have := (Array.getElem?_eq_some_iff.1 q3).1
          simp [Yq]; omega
        · simp only [Yq] at hp
          match p, hp with
          | 0, hp => simp at hp; subst hp; exact ⟨u, q1, hu.one, by simp [AV.rel, RV.rel]⟩
          | 1, hp => simp at hp; subst hp; exact ⟨_, q2, rfl, by simp [AV.rel, RV.rel]⟩
          | 2, hp => simp at hp; subst hp; exact ⟨_, q3, rfl, by simp [AV.rel, RV.rel]⟩
          | p + 3, hp => simp at hp)
  refine hK' _ _ ((hk h ⟨Int.le_refl _, by omega⟩).run _ _ (sim_rot (o := Yq ct u 0 h) ⟨s1, by simp [Act.put, s2], _, g1, (hH.keeps g2).put (by rw [s2]; exact ht) ?_⟩))
  simp only [AV.rel]
  exact ⟨by simp, g, Y9, rfl⟩
theorem op_callQ {f : FuncId} {fn : Func} {xs : Array Operand} {ats : Array TypeId} {args : List RV} {Rr : RR → Prop} {Q : RV → Prop} [hfn : FN P f fn] (hf : AC P f args Rr) (hs : ∀ rr, Rr rr → ∃ r, Seals rr r ∧ Q r) (ha : xs.toList.map (ev env) = args.map .ro) (ht : t < C.n)
    (hk : ∀ r, Q r → RunsL P C ops rest k R ⟨(t, .ro r) :: env, σ⟩) :
    RunsL P C ops (⟨some t, .call { callee := .value (.func f), args := xs, argTypes := ats }, ty, pos, after, none⟩ :: rest) k R ⟨env, σ⟩ := by
  refine ⟨fun a w ⟨s1, s2, φ, hG, hH⟩ => ?_⟩
  refine wpList_plain rfl fun K hK' => ?_
  have hr := FitsL.rels (ha ▸ Vs args) _ (Xs (a := a) (m := ⟨w, φ, σ, C.ok⟩) xs.toList fun x hx => Xu hH x)
  unfold Oper.wp
  rw [execOp_call_go, Wb hfn]
  simp only [Oper.upon]
  refine (hf w _ _ (Js hG) (by simpa using hr)).mono ?_
  rintro e w' ⟨v, rr, bs, rfl, hR, h1, _, h3, h4⟩
  obtain ⟨r, hs', hQ⟩ := hs rr hR
  obtain ⟨g1, g2⟩ := Xn hG h4
  refine hK' _ _ ((hk r hQ).run _ _ ⟨s1, by simp [Act.put, s2], φ, g1, (hH.keeps g2).put (by rw [s2]; exact ht) ?_⟩)
  simp only [AV.rel]
  refine seals_rel (ok := fun x => AV.Mem.ok ⟨w, φ, σ, C.ok⟩ x ∧ x ∉ bs) (fun x hx => hx.1) rr r v bs hs' h1 fun x hx => Js hG x (h3 x hx).1
end
class TB (P : Program) (t : TypeId) (pl : outParam (List (Nat × Nat))) (zs : outParam (List Value)) : Prop where
  h : ∃ it fields z, P.info? t = some it ∧ P.underlying t = some (.struct fields) ∧ it.zero = some z ∧ z.cells = zs.toArray ∧ fields.toList.mapM (fun f => (P.info? f.type).map fun i => (f.offset, i.size)) = some pl ∧ ∀ x ∈ zs, x.oneCell' = true
def fillA (pl : List (Nat × Nat)) (env : Env) : List AV → List (Nat × Operand) → Option (List AV)
  | cells, [] => some cells
  | cells, (i, x) :: l => match pl[i]? with
    | some (off, size) => match cells? (ev env x) with
      | some cs => match Nat.beq cs.length size, Nat.ble (off + size) cells.length with
        | true, true => fillA pl env (Wx cells off cs) l
        | _, _ => none
      | none => none
    | none => none
def aggOf (vs : List AV) : AV := match Im vs with
  | some rs => .ro (.agg rs)
  | none => .agg vs
theorem Lw {m : Mem} : ∀ (us : List Value) (k : Nat) (cells : Array Value) (off : Nat) (cs vs : List AV), us.length = cs.length → (∀ (j : Nat) x, cs[j]? = some x → ∃ y, us[j]? = some y ∧ y.oneCell' = true ∧ AV.rel m x y) →
    off + k + cs.length ≤ vs.length → cells.size = vs.length → (∀ (j : Nat) x, vs[j]? = some x → ∃ y, cells[j]? = some y ∧ y.oneCell' = true ∧ AV.rel m x y) →
    ((us.zipIdx k).foldl (fun cs (c, j) => cs.setIfInBounds (off + j) c) cells).size = vs.length ∧ ∀ (j : Nat) x, (Wx vs (off + k) cs)[j]? = some x → ∃ y, ((us.zipIdx k).foldl (fun cs (c, j) => cs.setIfInBounds (off + j) c) cells)[j]? = some y ∧ y.oneCell' = true ∧ AV.rel m x y
  | [], k, cells, off, cs, vs, hl, hc, hle, hs, hv => by
    have : cs = [] := List.eq_nil_of_length_eq_zero (by simpa using hl.symm)
    subst this
    exact ⟨hs, hv⟩
  | u :: us, k, cells, off, [], vs, hl, hc, hle, hs, hv => by simp at hl
  | u :: us, k, cells, off, c :: cs, vs, hl, hc, hle, hs, hv => by
    simp only [Rb] at hl hle
    rw [List.zipIdx_cons, List.foldl_cons, Wx]
    have := Lw us (k + 1) (cells.setIfInBounds (off + k) u) off cs (vs.set (off + k) c) (by omega) (fun j x hj => hc (j + 1) x (by simpa using hj)) (by simp; omega) (by simpa using hs) (fun j x hj => by
      rw [List.getElem?_set] at hj
      split at hj
      · rename_i e
        subst e
        split at hj
        · injection hj with hj; subst hj
          obtain ⟨y, e1, e2, e3⟩ := hc 0 c (by simp)
          simp only [List.getElem?_cons_zero, Option.some.injEq] at e1
          subst e1
          exact ⟨u, Array.getElem?_setIfInBounds_self_of_lt (by omega), e2, e3⟩
        · cases hj
      · rename_i e
        obtain ⟨y, e1, e2, e3⟩ := hv j x hj
        exact ⟨y, by rw [Array.getElem?_setIfInBounds_ne e]; exact e1, e2, e3⟩)
    rw [List.length_set] at this
    rwa [show off + (k + 1) = off + k + 1 by omega] at this
theorem Oi {m : Mem} {env : Env} {a : Act} {pl : List (Nat × Nat)} : ∀ (l : List (Nat × Operand)) (vs vs' : List AV) (cells : Array Value), (∀ p ∈ l, AV.rel m (ev env p.2) (a.eval p.2)) → cells.size = vs.length → (∀ (j : Nat) x, vs[j]? = some x → ∃ y, cells[j]? = some y ∧ y.oneCell' = true ∧ AV.rel m x y) →
    fillA pl env vs l = some vs' → ∃ cells', Instr.fill (pl.toArray[·]?) cells (l.map fun p => (p.1, a.eval p.2)) = some cells' ∧ cells'.size = vs'.length ∧ ∀ (j : Nat) x, vs'[j]? = some x → ∃ y, cells'[j]? = some y ∧ y.oneCell' = true ∧ AV.rel m x y
  | [], vs, vs', cells, _, hs, hv, h => by
    simp only [fillA, Option.some.injEq] at h
    subst h
    exact ⟨cells, rfl, hs, hv⟩
  | (i, x) :: l, vs, vs', cells, hH, hs, hv, h => by
    unfold fillA at h
    split at h
    · rename_i off size hp
      split at h
      · rename_i cs hc
        split at h
        · rename_i hb1 hb2
          have e1 := Nat.eq_of_beq_eq_true hb1
          have e2 := nbT hb2
          obtain ⟨c1, c2⟩ := Kk (hH (i, x) (by simp)) hc
          obtain ⟨k1, k2⟩ := Lw (m := m) (a.eval x).cells.toList 0 cells off cs vs (by simpa using c1) (fun j y hj => by simpa using c2 j y hj) (by omega) hs hv
          rw [Nat.add_zero] at k2
          obtain ⟨cells', q1, q2⟩ := Oi l _ vs' _ (fun p hp => hH p (by simp [hp])) (by rw [Lx]; exact k1) k2 h
          refine ⟨cells', ?_, q2⟩
          simp only [List.map_cons, Instr.fill]
          have : pl.toArray[i]? = some (off, size) := by simpa using hp
          rw [this]
          simp only
          have c1' : (a.eval x).cells.size = cs.length := c1
          rw [if_neg (by rw [c1']; simp; omega), ← q1]
          congr 1
          rw [← Array.foldl_toList, Array.toList_zipIdx]
        · cases h
      · cases h
    · cases h
section
variable {P : Program} {C : Ctx} {env : Env} {σ : List Ob} {t : Nat} {ty : TypeId} {pos : String} {after : Array Edge} {gd : Option (Nat × Bool)}
theorem Yj {tt : TypeId} {parts : Array (Nat × Operand)} {pl : List (Nat × Nat)} {zs : List Value} {vs : List AV} [hb : TB P tt pl zs] (h : fillA pl env (zs.map fun v => .ro (.c v)) parts.toList = some vs) :
    Pur P C ⟨some t, .build tt parts, ty, pos, after, gd⟩ env σ (aggOf vs) :=
  Xh (fun a m hG hσ hH => by
    obtain ⟨it, fields, z, h1, h2, h3, h4, h5, h6⟩ := hb.h
    obtain ⟨cells', q1, q2, q3⟩ := Oi (m := m) (a := a) parts.toList _ vs zs.toArray (fun p hp => hH p.2 (by simp [Op.operands]; exact ⟨p.1, by simpa using hp⟩)) (by simp) (fun j x hj => by
      rw [List.getElem?_map, Option.map_eq_some_iff] at hj
      obtain ⟨y, hy, rfl⟩ := hj
      exact ⟨y, by simpa using hy, h6 y (Re hy), by simp [AV.rel, RV.rel]⟩) h
    have hbt : P.built tt (parts.map fun p => (p.1, a.eval p.2)).toList = some cells' := by
      unfold Program.built
      simp only [h1, h2, h3, h5, h4]
      rw [Array.toList_map]
      exact q1
    refine ⟨.agg cells', by simp only [execOp]; exact by simp [run_build m.w tt _ _ hbt], ?_⟩
    have hrel : AV.rels m vs cells'.toList := AV.rels_of _ _ (by simpa using q2) fun j r u hj hu => by
      obtain ⟨y, e1, _, e3⟩ := q3 j r hj
      have : y = u := by simpa [e1] using hu
      rwa [this] at e3
    unfold aggOf
    split
    · rename_i rs hrs
      rw [K9 hrs] at hrel
      simp only [AV.rel, RV.rel]
      exact ⟨_, rfl, Jq _ _ hrel⟩
    · simp only [AV.rel]
      exact ⟨_, rfl, hrel⟩)
end
set_option maxRecDepth 100000
instance : T1 Try.prog 2 := ⟨by kernel_rfl⟩
instance : TI Try.prog 2 .i64 := ⟨Try.underlying2⟩
instance : TZ Try.prog 2 [(.int .i64 0)] := ⟨_, _, rfl, rfl, rfl, by decide⟩
instance : T1 Try.prog 3 := ⟨by kernel_rfl⟩
instance : TI Try.prog 3 .i64 := ⟨Try.underlying3⟩
instance : TZ Try.prog 3 [(.int .i64 0)] := ⟨_, _, rfl, rfl, rfl, by decide⟩
instance : T1 Try.prog 4 := ⟨by kernel_rfl⟩
instance : TZ Try.prog 4 [(.bool false)] := ⟨_, _, rfl, rfl, rfl, by decide⟩
instance : T1 Try.prog 5 := ⟨by kernel_rfl⟩
instance : TI Try.prog 5 .u8 := ⟨Try.underlying5⟩
instance : TZ Try.prog 5 [(.int .u8 0)] := ⟨_, _, rfl, rfl, rfl, by decide⟩
instance : T1 Try.prog 6 := ⟨by kernel_rfl⟩
instance : TI Try.prog 6 .u8 := ⟨Try.underlying6⟩
instance : TZ Try.prog 6 [(.int .u8 0)] := ⟨_, _, rfl, rfl, rfl, by decide⟩
instance : FA Try.prog 7 0 0 := ⟨by kernel_rfl⟩
instance : FA Try.prog 7 1 1 := ⟨by kernel_rfl⟩
instance : FA Try.prog 7 2 2 := ⟨by kernel_rfl⟩
instance : FA Try.prog 7 3 3 := ⟨by kernel_rfl⟩
instance : TN Try.prog 7 4 := ⟨by kernel_rfl⟩
instance : TZ Try.prog 7 [(.int .i64 0), (.int .i64 0), (.bool false), (.int .u8 0)] := ⟨_, _, rfl, rfl, rfl, by decide⟩
instance : FA Try.prog 8 0 0 := ⟨by kernel_rfl⟩
instance : FA Try.prog 8 1 1 := ⟨by kernel_rfl⟩
instance : FA Try.prog 8 2 2 := ⟨by kernel_rfl⟩
instance : FA Try.prog 8 3 3 := ⟨by kernel_rfl⟩
instance : TN Try.prog 8 4 := ⟨by kernel_rfl⟩
instance : TZ Try.prog 8 [(.int .i64 0), (.int .i64 0), (.bool false), (.int .u8 0)] := ⟨_, _, rfl, rfl, rfl, by decide⟩
instance : T1 Try.prog 9 := ⟨by kernel_rfl⟩
instance : TS Try.prog 9 := ⟨Try.underlying9⟩
instance : TZ Try.prog 9 [(.string ⟨#[]⟩)] := ⟨_, _, rfl, rfl, rfl, by decide⟩
instance : T1 Try.prog 10 := ⟨by kernel_rfl⟩
instance : TS Try.prog 10 := ⟨Try.underlying10⟩
instance : TZ Try.prog 10 [(.string ⟨#[]⟩)] := ⟨_, _, rfl, rfl, rfl, by decide⟩
instance : T1 Try.prog 11 := ⟨by kernel_rfl⟩
instance : TS Try.prog 11 := ⟨Try.underlying11⟩
instance : TZ Try.prog 11 [(.string ⟨#[]⟩)] := ⟨_, _, rfl, rfl, rfl, by decide⟩
instance : T1 Try.prog 12 := ⟨by kernel_rfl⟩
instance : TI Try.prog 12 .u64 := ⟨Try.underlying12⟩
instance : TZ Try.prog 12 [(.int .u64 0)] := ⟨_, _, rfl, rfl, rfl, by decide⟩
instance : FA Try.prog 13 0 0 := ⟨by kernel_rfl⟩
instance : FA Try.prog 13 1 1 := ⟨by kernel_rfl⟩
instance : TN Try.prog 13 2 := ⟨by kernel_rfl⟩
instance : TZ Try.prog 13 [(.string ⟨#[]⟩), (.int .u64 0)] := ⟨_, _, rfl, rfl, rfl, by decide⟩
instance : FA Try.prog 14 0 0 := ⟨by kernel_rfl⟩
instance : FA Try.prog 14 1 1 := ⟨by kernel_rfl⟩
instance : TN Try.prog 14 2 := ⟨by kernel_rfl⟩
instance : TZ Try.prog 14 [(.string ⟨#[]⟩), (.int .u64 0)] := ⟨_, _, rfl, rfl, rfl, by decide⟩
instance : T1 Try.prog 15 := ⟨by kernel_rfl⟩
instance : TZ Try.prog 15 [(.pointer none)] := ⟨_, _, rfl, rfl, rfl, by decide⟩
instance : T1 Try.prog 16 := ⟨by kernel_rfl⟩
instance : TZ Try.prog 16 [(.pointer none)] := ⟨_, _, rfl, rfl, rfl, by decide⟩
instance : T1 Try.prog 17 := ⟨by kernel_rfl⟩
instance : TZ Try.prog 17 [(.pointer none)] := ⟨_, _, rfl, rfl, rfl, by decide⟩
instance : FA Try.prog 18 0 0 := ⟨by kernel_rfl⟩
instance : TN Try.prog 18 1 := ⟨by kernel_rfl⟩
instance : TZ Try.prog 18 [(.pointer none)] := ⟨_, _, rfl, rfl, rfl, by decide⟩
instance : FA Try.prog 19 0 0 := ⟨by kernel_rfl⟩
instance : TN Try.prog 19 1 := ⟨by kernel_rfl⟩
instance : TZ Try.prog 19 [(.pointer none)] := ⟨_, _, rfl, rfl, rfl, by decide⟩
instance : T1 Try.prog 21 := ⟨by kernel_rfl⟩
instance : TI Try.prog 21 .i32 := ⟨Try.underlying21⟩
instance : TZ Try.prog 21 [(.int .i32 0)] := ⟨_, _, rfl, rfl, rfl, by decide⟩
instance : T1 Try.prog 22 := ⟨by kernel_rfl⟩
instance : TZ Try.prog 22 [(.slice none 0 0)] := ⟨_, _, rfl, rfl, rfl, by decide⟩
instance : SL Try.prog 22 5 ((.int .u8 0)) 1 1 := ⟨U0 Try.underlying22 (by kernel_rfl) rfl (by decide)⟩
instance : T1 Try.prog 23 := ⟨by kernel_rfl⟩
instance : TZ Try.prog 23 [(.slice none 0 0)] := ⟨_, _, rfl, rfl, rfl, by decide⟩
instance : SL Try.prog 23 25 (.agg #[(.int .i64 0), (.slice none 0 0), (.slice none 0 0)]) 3 56 := ⟨U0 Try.underlying23 (by kernel_rfl) rfl (by decide)⟩
instance : FA Try.prog 24 0 0 := ⟨by kernel_rfl⟩
instance : FA Try.prog 24 1 1 := ⟨by kernel_rfl⟩
instance : FA Try.prog 24 2 2 := ⟨by kernel_rfl⟩
instance : TN Try.prog 24 3 := ⟨by kernel_rfl⟩
instance : TZ Try.prog 24 [(.int .i64 0), (.slice none 0 0), (.slice none 0 0)] := ⟨_, _, rfl, rfl, rfl, by decide⟩
instance : FA Try.prog 25 0 0 := ⟨by kernel_rfl⟩
instance : FA Try.prog 25 1 1 := ⟨by kernel_rfl⟩
instance : FA Try.prog 25 2 2 := ⟨by kernel_rfl⟩
instance : TN Try.prog 25 3 := ⟨by kernel_rfl⟩
instance : TZ Try.prog 25 [(.int .i64 0), (.slice none 0 0), (.slice none 0 0)] := ⟨_, _, rfl, rfl, rfl, by decide⟩
instance : T1 Try.prog 27 := ⟨by kernel_rfl⟩
instance : TZ Try.prog 27 [(.slice none 0 0)] := ⟨_, _, rfl, rfl, rfl, by decide⟩
instance : SL Try.prog 27 29 (.agg #[(.int .i64 0), (.slice none 0 0), (.slice none 0 0)]) 3 56 := ⟨U0 Try.underlying27 (by kernel_rfl) rfl (by decide)⟩
instance : FA Try.prog 28 0 0 := ⟨by kernel_rfl⟩
instance : FA Try.prog 28 1 1 := ⟨by kernel_rfl⟩
instance : FA Try.prog 28 2 2 := ⟨by kernel_rfl⟩
instance : TN Try.prog 28 3 := ⟨by kernel_rfl⟩
instance : TZ Try.prog 28 [(.int .i64 0), (.slice none 0 0), (.slice none 0 0)] := ⟨_, _, rfl, rfl, rfl, by decide⟩
instance : FA Try.prog 29 0 0 := ⟨by kernel_rfl⟩
instance : FA Try.prog 29 1 1 := ⟨by kernel_rfl⟩
instance : FA Try.prog 29 2 2 := ⟨by kernel_rfl⟩
instance : TN Try.prog 29 3 := ⟨by kernel_rfl⟩
instance : TZ Try.prog 29 [(.int .i64 0), (.slice none 0 0), (.slice none 0 0)] := ⟨_, _, rfl, rfl, rfl, by decide⟩
instance : T1 Try.prog 36 := ⟨by kernel_rfl⟩
instance : TZ Try.prog 36 [(.slice none 0 0)] := ⟨_, _, rfl, rfl, rfl, by decide⟩
instance : SL Try.prog 36 52 (.agg #[(.string ⟨#[]⟩), (.int .i64 0), (.int .i64 0), (.bool false), (.slice none 0 0), (.slice none 0 0), (.slice none 0 0), (.slice none 0 0)]) 8 136 := ⟨U0 Try.underlying36 (by kernel_rfl) rfl (by decide)⟩
instance : FA Try.prog 37 0 0 := ⟨by kernel_rfl⟩
instance : TN Try.prog 37 1 := ⟨by kernel_rfl⟩
instance : TZ Try.prog 37 [(.slice none 0 0)] := ⟨_, _, rfl, rfl, rfl, by decide⟩
instance : FA Try.prog 38 0 0 := ⟨by kernel_rfl⟩
instance : TN Try.prog 38 1 := ⟨by kernel_rfl⟩
instance : TZ Try.prog 38 [(.slice none 0 0)] := ⟨_, _, rfl, rfl, rfl, by decide⟩
instance : T1 Try.prog 49 := ⟨by kernel_rfl⟩
instance : TZ Try.prog 49 [(.slice none 0 0)] := ⟨_, _, rfl, rfl, rfl, by decide⟩
instance : SL Try.prog 49 9 ((.string ⟨#[]⟩)) 1 16 := ⟨U0 Try.underlying49 (by kernel_rfl) rfl (by decide)⟩
instance : T1 Try.prog 50 := ⟨by kernel_rfl⟩
instance : TZ Try.prog 50 [(.slice none 0 0)] := ⟨_, _, rfl, rfl, rfl, by decide⟩
instance : SL Try.prog 50 3 ((.int .i64 0)) 1 8 := ⟨U0 Try.underlying50 (by kernel_rfl) rfl (by decide)⟩
instance : FA Try.prog 51 0 0 := ⟨by kernel_rfl⟩
instance : FA Try.prog 51 1 1 := ⟨by kernel_rfl⟩
instance : FA Try.prog 51 2 2 := ⟨by kernel_rfl⟩
instance : FA Try.prog 51 3 3 := ⟨by kernel_rfl⟩
instance : FA Try.prog 51 4 4 := ⟨by kernel_rfl⟩
instance : FA Try.prog 51 5 5 := ⟨by kernel_rfl⟩
instance : FA Try.prog 51 6 6 := ⟨by kernel_rfl⟩
instance : FA Try.prog 51 7 7 := ⟨by kernel_rfl⟩
instance : TN Try.prog 51 8 := ⟨by kernel_rfl⟩
instance : TZ Try.prog 51 [(.string ⟨#[]⟩), (.int .i64 0), (.int .i64 0), (.bool false), (.slice none 0 0), (.slice none 0 0), (.slice none 0 0), (.slice none 0 0)] := ⟨_, _, rfl, rfl, rfl, by decide⟩
instance : FA Try.prog 52 0 0 := ⟨by kernel_rfl⟩
instance : FA Try.prog 52 1 1 := ⟨by kernel_rfl⟩
instance : FA Try.prog 52 2 2 := ⟨by kernel_rfl⟩
instance : FA Try.prog 52 3 3 := ⟨by kernel_rfl⟩
instance : FA Try.prog 52 4 4 := ⟨by kernel_rfl⟩
instance : FA Try.prog 52 5 5 := ⟨by kernel_rfl⟩
instance : FA Try.prog 52 6 6 := ⟨by kernel_rfl⟩
instance : FA Try.prog 52 7 7 := ⟨by kernel_rfl⟩
instance : TN Try.prog 52 8 := ⟨by kernel_rfl⟩
instance : TZ Try.prog 52 [(.string ⟨#[]⟩), (.int .i64 0), (.int .i64 0), (.bool false), (.slice none 0 0), (.slice none 0 0), (.slice none 0 0), (.slice none 0 0)] := ⟨_, _, rfl, rfl, rfl, by decide⟩
instance : T1 Try.prog 56 := ⟨by kernel_rfl⟩
instance : TZ Try.prog 56 [(.slice none 0 0)] := ⟨_, _, rfl, rfl, rfl, by decide⟩
instance : SL Try.prog 56 59 (.agg #[(.int .i64 0), (.int .i64 0), (.int .i64 0)]) 3 24 := ⟨U0 Try.underlying56 (by kernel_rfl) rfl (by decide)⟩
instance : FA Try.prog 58 0 0 := ⟨by kernel_rfl⟩
instance : FA Try.prog 58 1 1 := ⟨by kernel_rfl⟩
instance : FA Try.prog 58 2 2 := ⟨by kernel_rfl⟩
instance : TN Try.prog 58 3 := ⟨by kernel_rfl⟩
instance : TZ Try.prog 58 [(.int .i64 0), (.int .i64 0), (.int .i64 0)] := ⟨_, _, rfl, rfl, rfl, by decide⟩
instance : FA Try.prog 59 0 0 := ⟨by kernel_rfl⟩
instance : FA Try.prog 59 1 1 := ⟨by kernel_rfl⟩
instance : FA Try.prog 59 2 2 := ⟨by kernel_rfl⟩
instance : TN Try.prog 59 3 := ⟨by kernel_rfl⟩
instance : TZ Try.prog 59 [(.int .i64 0), (.int .i64 0), (.int .i64 0)] := ⟨_, _, rfl, rfl, rfl, by decide⟩
instance : FA Try.prog 61 0 0 := ⟨by kernel_rfl⟩
instance : FA Try.prog 61 1 1 := ⟨by kernel_rfl⟩
instance : TN Try.prog 61 2 := ⟨by kernel_rfl⟩
instance : TZ Try.prog 61 [(.slice none 0 0), (.slice none 0 0)] := ⟨_, _, rfl, rfl, rfl, by decide⟩
instance : FA Try.prog 62 0 0 := ⟨by kernel_rfl⟩
instance : FA Try.prog 62 1 1 := ⟨by kernel_rfl⟩
instance : TN Try.prog 62 2 := ⟨by kernel_rfl⟩
instance : TZ Try.prog 62 [(.slice none 0 0), (.slice none 0 0)] := ⟨_, _, rfl, rfl, rfl, by decide⟩
instance : FA Try.prog 73 0 0 := ⟨by kernel_rfl⟩
instance : FA Try.prog 73 1 1 := ⟨by kernel_rfl⟩
instance : FA Try.prog 73 2 2 := ⟨by kernel_rfl⟩
instance : FA Try.prog 73 3 3 := ⟨by kernel_rfl⟩
instance : FA Try.prog 73 4 4 := ⟨by kernel_rfl⟩
instance : FA Try.prog 73 5 5 := ⟨by kernel_rfl⟩
instance : FA Try.prog 73 6 6 := ⟨by kernel_rfl⟩
instance : FA Try.prog 73 7 7 := ⟨by kernel_rfl⟩
instance : FA Try.prog 73 8 8 := ⟨by kernel_rfl⟩
instance : FA Try.prog 73 9 9 := ⟨by kernel_rfl⟩
instance : TN Try.prog 73 10 := ⟨by kernel_rfl⟩
instance : TZ Try.prog 73 [(.int .i64 0), (.int .i64 0), (.slice none 0 0), (.slice none 0 0), (.int .i64 0), (.bool false), (.bool false), (.int .i64 0), (.int .i64 0), (.int .i64 0)] := ⟨_, _, rfl, rfl, rfl, by decide⟩
instance : FA Try.prog 74 0 0 := ⟨by kernel_rfl⟩
instance : FA Try.prog 74 1 1 := ⟨by kernel_rfl⟩
instance : FA Try.prog 74 2 2 := ⟨by kernel_rfl⟩
instance : FA Try.prog 74 3 3 := ⟨by kernel_rfl⟩
instance : FA Try.prog 74 4 4 := ⟨by kernel_rfl⟩
instance : FA Try.prog 74 5 5 := ⟨by kernel_rfl⟩
instance : FA Try.prog 74 6 6 := ⟨by kernel_rfl⟩
instance : FA Try.prog 74 7 7 := ⟨by kernel_rfl⟩
instance : FA Try.prog 74 8 8 := ⟨by kernel_rfl⟩
instance : FA Try.prog 74 9 9 := ⟨by kernel_rfl⟩
instance : TN Try.prog 74 10 := ⟨by kernel_rfl⟩
instance : TZ Try.prog 74 [(.int .i64 0), (.int .i64 0), (.slice none 0 0), (.slice none 0 0), (.int .i64 0), (.bool false), (.bool false), (.int .i64 0), (.int .i64 0), (.int .i64 0)] := ⟨_, _, rfl, rfl, rfl, by decide⟩
instance : T1 Try.prog 87 := ⟨by kernel_rfl⟩
instance : TZ Try.prog 87 [(.pointer none)] := ⟨_, _, rfl, rfl, rfl, by decide⟩
instance : T1 Try.prog 93 := ⟨by kernel_rfl⟩
instance : TZ Try.prog 93 [(.pointer none)] := ⟨_, _, rfl, rfl, rfl, by decide⟩
instance : TN Try.prog 99 256 := ⟨by kernel_rfl⟩
instance : AR Try.prog 99 256 1 := ⟨by kernel_rfl⟩
set_option maxRecDepth 100000 in
instance : TZ Try.prog 99 (List.replicate 256 (.bool false)) := ⟨_, _, rfl, rfl, rfl, fun x hx => by rw [List.eq_of_mem_replicate hx]; rfl⟩
instance : TN Try.prog 100 256 := ⟨by kernel_rfl⟩
instance : AR Try.prog 100 256 1 := ⟨by kernel_rfl⟩
set_option maxRecDepth 100000 in
instance : TZ Try.prog 100 (List.replicate 256 (.bool false)) := ⟨_, _, rfl, rfl, rfl, fun x hx => by rw [List.eq_of_mem_replicate hx]; rfl⟩
instance : T1 Try.prog 104 := ⟨by kernel_rfl⟩
instance : TZ Try.prog 104 [(.pointer none)] := ⟨_, _, rfl, rfl, rfl, by decide⟩
instance : T1 Try.prog 105 := ⟨by kernel_rfl⟩
instance : TZ Try.prog 105 [(.slice none 0 0)] := ⟨_, _, rfl, rfl, rfl, by decide⟩
instance : FA Try.prog 106 0 0 := ⟨by kernel_rfl⟩
instance : FA Try.prog 106 1 1 := ⟨by kernel_rfl⟩
instance : FA Try.prog 106 2 2 := ⟨by kernel_rfl⟩
instance : FA Try.prog 106 3 3 := ⟨by kernel_rfl⟩
instance : TN Try.prog 106 4 := ⟨by kernel_rfl⟩
instance : TZ Try.prog 106 [(.slice none 0 0), (.int .i64 0), (.slice none 0 0), (.slice none 0 0)] := ⟨_, _, rfl, rfl, rfl, by decide⟩
instance : FA Try.prog 107 0 0 := ⟨by kernel_rfl⟩
instance : FA Try.prog 107 1 1 := ⟨by kernel_rfl⟩
instance : FA Try.prog 107 2 2 := ⟨by kernel_rfl⟩
instance : FA Try.prog 107 3 3 := ⟨by kernel_rfl⟩
instance : TN Try.prog 107 4 := ⟨by kernel_rfl⟩
instance : TZ Try.prog 107 [(.slice none 0 0), (.int .i64 0), (.slice none 0 0), (.slice none 0 0)] := ⟨_, _, rfl, rfl, rfl, by decide⟩
instance : FA Try.prog 122 0 0 := ⟨by kernel_rfl⟩
instance : FA Try.prog 122 1 1 := ⟨by kernel_rfl⟩
instance : FA Try.prog 122 2 2 := ⟨by kernel_rfl⟩
instance : TN Try.prog 122 3 := ⟨by kernel_rfl⟩
instance : TZ Try.prog 122 [(.slice none 0 0), (.int .i64 0), (.int .i64 0)] := ⟨_, _, rfl, rfl, rfl, by decide⟩
instance : FA Try.prog 123 0 0 := ⟨by kernel_rfl⟩
instance : FA Try.prog 123 1 1 := ⟨by kernel_rfl⟩
instance : FA Try.prog 123 2 2 := ⟨by kernel_rfl⟩
instance : TN Try.prog 123 3 := ⟨by kernel_rfl⟩
instance : TZ Try.prog 123 [(.slice none 0 0), (.int .i64 0), (.int .i64 0)] := ⟨_, _, rfl, rfl, rfl, by decide⟩
instance : T1 Try.prog 128 := ⟨by kernel_rfl⟩
instance : TZ Try.prog 128 [(.pointer none)] := ⟨_, _, rfl, rfl, rfl, by decide⟩
instance : T1 Try.prog 140 := ⟨by kernel_rfl⟩
instance : TZ Try.prog 140 [(.pointer none)] := ⟨_, _, rfl, rfl, rfl, by decide⟩
instance : T1 Try.prog 150 := ⟨by kernel_rfl⟩
instance : TI Try.prog 150 .u64 := ⟨Try.underlying150⟩
instance : TZ Try.prog 150 [(.int .u64 0)] := ⟨_, _, rfl, rfl, rfl, by decide⟩
instance : TN Try.prog 158 18 := ⟨by kernel_rfl⟩
instance : AR Try.prog 158 18 1 := ⟨by kernel_rfl⟩
instance : T1 Try.prog 165 := ⟨by kernel_rfl⟩
instance : TZ Try.prog 165 [(.pointer none)] := ⟨_, _, rfl, rfl, rfl, by decide⟩
instance : FA Try.prog 169 0 0 := ⟨by kernel_rfl⟩
instance : FA Try.prog 169 1 1 := ⟨by kernel_rfl⟩
instance : FA Try.prog 169 2 2 := ⟨by kernel_rfl⟩
instance : FA Try.prog 169 3 3 := ⟨by kernel_rfl⟩
instance : TN Try.prog 169 4 := ⟨by kernel_rfl⟩
instance : TZ Try.prog 169 [(.pointer none), (.pointer none), (.pointer none), (.string ⟨#[]⟩)] := ⟨_, _, rfl, rfl, rfl, by decide⟩
instance : FA Try.prog 170 0 0 := ⟨by kernel_rfl⟩
instance : FA Try.prog 170 1 1 := ⟨by kernel_rfl⟩
instance : FA Try.prog 170 2 2 := ⟨by kernel_rfl⟩
instance : FA Try.prog 170 3 3 := ⟨by kernel_rfl⟩
instance : TN Try.prog 170 4 := ⟨by kernel_rfl⟩
instance : TZ Try.prog 170 [(.pointer none), (.pointer none), (.pointer none), (.string ⟨#[]⟩)] := ⟨_, _, rfl, rfl, rfl, by decide⟩
instance : TN Try.prog 171 0 := ⟨by kernel_rfl⟩
instance : AR Try.prog 171 0 1 := ⟨by kernel_rfl⟩
instance : T1 Try.prog 174 := ⟨by kernel_rfl⟩
instance : TI Try.prog 174 .u32 := ⟨Try.underlying174⟩
instance : TZ Try.prog 174 [(.int .u32 0)] := ⟨_, _, rfl, rfl, rfl, by decide⟩
instance : T1 Try.prog 175 := ⟨by kernel_rfl⟩
instance : TI Try.prog 175 .u8 := ⟨Try.underlying175⟩
instance : TZ Try.prog 175 [(.int .u8 0)] := ⟨_, _, rfl, rfl, rfl, by decide⟩
instance : T1 Try.prog 176 := ⟨by kernel_rfl⟩
instance : TI Try.prog 176 .u8 := ⟨Try.underlying176⟩
instance : TZ Try.prog 176 [(.int .u8 0)] := ⟨_, _, rfl, rfl, rfl, by decide⟩
instance : T1 Try.prog 178 := ⟨by kernel_rfl⟩
instance : TZ Try.prog 178 [(.pointer none)] := ⟨_, _, rfl, rfl, rfl, by decide⟩
instance : T1 Try.prog 179 := ⟨by kernel_rfl⟩
instance : TI Try.prog 179 .i32 := ⟨Try.underlying179⟩
instance : TZ Try.prog 179 [(.int .i32 0)] := ⟨_, _, rfl, rfl, rfl, by decide⟩
instance : T1 Try.prog 180 := ⟨by kernel_rfl⟩
instance : TI Try.prog 180 .i32 := ⟨Try.underlying180⟩
instance : TZ Try.prog 180 [(.int .i32 0)] := ⟨_, _, rfl, rfl, rfl, by decide⟩
instance : FA Try.prog 181 0 0 := ⟨by kernel_rfl⟩
instance : FA Try.prog 181 1 1 := ⟨by kernel_rfl⟩
instance : FA Try.prog 181 2 2 := ⟨by kernel_rfl⟩
instance : FA Try.prog 181 3 3 := ⟨by kernel_rfl⟩
instance : FA Try.prog 181 4 4 := ⟨by kernel_rfl⟩
instance : FA Try.prog 181 5 5 := ⟨by kernel_rfl⟩
instance : FA Try.prog 181 6 6 := ⟨by kernel_rfl⟩
instance : FA Try.prog 181 8 8 := ⟨by kernel_rfl⟩
instance : FA Try.prog 181 9 9 := ⟨by kernel_rfl⟩
instance : FA Try.prog 181 10 10 := ⟨by kernel_rfl⟩
instance : TN Try.prog 181 11 := ⟨by kernel_rfl⟩
instance : TZ Try.prog 181 [(.int .u64 0), (.int .u64 0), (.int .u32 0), (.int .u8 0), (.int .u8 0), (.int .u8 0), (.int .u8 0), .nilFunc, (.pointer none), (.int .i32 0), (.int .i32 0)] := ⟨_, _, rfl, rfl, rfl, by decide⟩
instance : FA Try.prog 182 0 0 := ⟨by kernel_rfl⟩
instance : FA Try.prog 182 1 1 := ⟨by kernel_rfl⟩
instance : FA Try.prog 182 2 2 := ⟨by kernel_rfl⟩
instance : FA Try.prog 182 3 3 := ⟨by kernel_rfl⟩
instance : FA Try.prog 182 4 4 := ⟨by kernel_rfl⟩
instance : FA Try.prog 182 5 5 := ⟨by kernel_rfl⟩
instance : FA Try.prog 182 6 6 := ⟨by kernel_rfl⟩
instance : FA Try.prog 182 8 8 := ⟨by kernel_rfl⟩
instance : FA Try.prog 182 9 9 := ⟨by kernel_rfl⟩
instance : FA Try.prog 182 10 10 := ⟨by kernel_rfl⟩
instance : TN Try.prog 182 11 := ⟨by kernel_rfl⟩
instance : TZ Try.prog 182 [(.int .u64 0), (.int .u64 0), (.int .u32 0), (.int .u8 0), (.int .u8 0), (.int .u8 0), (.int .u8 0), .nilFunc, (.pointer none), (.int .i32 0), (.int .i32 0)] := ⟨_, _, rfl, rfl, rfl, by decide⟩
instance : FN Try.prog 3 Try.f3 := ⟨Try.func3, by kernel_rfl, by kernel_rfl⟩
instance : FN Try.prog 4 Try.f4 := ⟨Try.func4, by kernel_rfl, by kernel_rfl⟩
instance : FN Try.prog 5 Try.f5 := ⟨Try.func5, by kernel_rfl, by kernel_rfl⟩
instance : FN Try.prog 6 Try.f6 := ⟨Try.func6, by kernel_rfl, by kernel_rfl⟩
instance : FN Try.prog 7 Try.f7 := ⟨Try.func7, by kernel_rfl, by kernel_rfl⟩
instance : FN Try.prog 8 Try.f8 := ⟨Try.func8, by kernel_rfl, by kernel_rfl⟩
instance : FN Try.prog 9 Try.f9 := ⟨Try.func9, by kernel_rfl, by kernel_rfl⟩
instance : FN Try.prog 10 Try.f10 := ⟨Try.func10, by kernel_rfl, by kernel_rfl⟩
instance : FN Try.prog 11 Try.f11 := ⟨Try.func11, by kernel_rfl, by kernel_rfl⟩
instance : FN Try.prog 12 Try.f12 := ⟨Try.func12, by kernel_rfl, by kernel_rfl⟩
instance : FN Try.prog 13 Try.f13 := ⟨Try.func13, by kernel_rfl, by kernel_rfl⟩
instance : FN Try.prog 14 Try.f14 := ⟨Try.func14, by kernel_rfl, by kernel_rfl⟩
instance : FN Try.prog 15 Try.f15 := ⟨Try.func15, by kernel_rfl, by kernel_rfl⟩
instance : FN Try.prog 16 Try.f16 := ⟨Try.func16, by kernel_rfl, by kernel_rfl⟩
instance : FN Try.prog 17 Try.f17 := ⟨Try.func17, by kernel_rfl, by kernel_rfl⟩
instance : FN Try.prog 18 Try.f18 := ⟨Try.func18, by kernel_rfl, by kernel_rfl⟩
instance : FN Try.prog 19 Try.f19 := ⟨Try.func19, by kernel_rfl, by kernel_rfl⟩
instance : FN Try.prog 20 Try.f20 := ⟨Try.func20, by kernel_rfl, by kernel_rfl⟩
instance : FN Try.prog 21 Try.f21 := ⟨Try.func21, by kernel_rfl, by kernel_rfl⟩
instance : FN Try.prog 22 Try.f22 := ⟨Try.func22, by kernel_rfl, by kernel_rfl⟩
instance : FN Try.prog 23 Try.f23 := ⟨Try.func23, by kernel_rfl, by kernel_rfl⟩
instance : FN Try.prog 24 Try.f24 := ⟨Try.func24, by kernel_rfl, by kernel_rfl⟩
instance : FN Try.prog 25 Try.f25 := ⟨Try.func25, by kernel_rfl, by kernel_rfl⟩
instance : FN Try.prog 26 Try.f26 := ⟨Try.func26, by kernel_rfl, by kernel_rfl⟩
instance : FN Try.prog 27 Try.f27 := ⟨Try.func27, by kernel_rfl, by kernel_rfl⟩
instance : FN Try.prog 28 Try.f28 := ⟨Try.func28, by kernel_rfl, by kernel_rfl⟩
instance : FN Try.prog 29 Try.f29 := ⟨Try.func29, by kernel_rfl, by kernel_rfl⟩
instance : FN Try.prog 30 Try.f30 := ⟨Try.func30, by kernel_rfl, by kernel_rfl⟩
instance : FN Try.prog 31 Try.f31 := ⟨Try.func31, by kernel_rfl, by kernel_rfl⟩
instance : FN Try.prog 32 Try.f32 := ⟨Try.func32, by kernel_rfl, by kernel_rfl⟩
instance : FN Try.prog 33 Try.f33 := ⟨Try.func33, by kernel_rfl, by kernel_rfl⟩
instance : FN Try.prog 34 Try.f34 := ⟨Try.func34, by kernel_rfl, by kernel_rfl⟩
instance : FN Try.prog 35 Try.f35 := ⟨Try.func35, by kernel_rfl, by kernel_rfl⟩
instance : FN Try.prog 36 Try.f36 := ⟨Try.func36, by kernel_rfl, by kernel_rfl⟩
instance : FN Try.prog 37 Try.f37 := ⟨Try.func37, by kernel_rfl, by kernel_rfl⟩
instance : FN Try.prog 38 Try.f38 := ⟨Try.func38, by kernel_rfl, by kernel_rfl⟩
instance : FN Try.prog 39 Try.f39 := ⟨Try.func39, by kernel_rfl, by kernel_rfl⟩
instance : FN Try.prog 40 Try.f40 := ⟨Try.func40, by kernel_rfl, by kernel_rfl⟩
instance : FN Try.prog 41 Try.f41 := ⟨Try.func41, by kernel_rfl, by kernel_rfl⟩
instance : FN Try.prog 42 Try.f42 := ⟨Try.func42, by kernel_rfl, by kernel_rfl⟩
instance : FN Try.prog 43 Try.f43 := ⟨Try.func43, by kernel_rfl, by kernel_rfl⟩
instance : FN Try.prog 44 Try.f44 := ⟨Try.func44, by kernel_rfl, by kernel_rfl⟩
instance : FN Try.prog 45 Try.f45 := ⟨Try.func45, by kernel_rfl, by kernel_rfl⟩
instance : FN Try.prog 46 Try.f46 := ⟨Try.func46, by kernel_rfl, by kernel_rfl⟩
instance : FN Try.prog 47 Try.f47 := ⟨Try.func47, by kernel_rfl, by kernel_rfl⟩
instance : FN Try.prog 48 Try.f48 := ⟨Try.func48, by kernel_rfl, by kernel_rfl⟩
instance : FN Try.prog 49 Try.f49 := ⟨Try.func49, by kernel_rfl, by kernel_rfl⟩
instance : FN Try.prog 50 Try.f50 := ⟨Try.func50, by kernel_rfl, by kernel_rfl⟩
instance : FN Try.prog 51 Try.f51 := ⟨Try.func51, by kernel_rfl, by kernel_rfl⟩
instance : FN Try.prog 52 Try.f52 := ⟨Try.func52, by kernel_rfl, by kernel_rfl⟩
instance : FN Try.prog 53 Try.f53 := ⟨Try.func53, by kernel_rfl, by kernel_rfl⟩
instance : FN Try.prog 54 Try.f54 := ⟨Try.func54, by kernel_rfl, by kernel_rfl⟩
instance : FN Try.prog 55 Try.f55 := ⟨Try.func55, by kernel_rfl, by kernel_rfl⟩
instance : FN Try.prog 56 Try.f56 := ⟨Try.func56, by kernel_rfl, by kernel_rfl⟩
instance : FN Try.prog 57 Try.f57 := ⟨Try.func57, by kernel_rfl, by kernel_rfl⟩
instance : FN Try.prog 58 Try.f58 := ⟨Try.func58, by kernel_rfl, by kernel_rfl⟩
instance : FN Try.prog 59 Try.f59 := ⟨Try.func59, by kernel_rfl, by kernel_rfl⟩
instance : FN Try.prog 60 Try.f60 := ⟨Try.func60, by kernel_rfl, by kernel_rfl⟩
instance : FN Try.prog 61 Try.f61 := ⟨Try.func61, by kernel_rfl, by kernel_rfl⟩
instance : FN Try.prog 62 Try.f62 := ⟨Try.func62, by kernel_rfl, by kernel_rfl⟩
instance : FN Try.prog 63 Try.f63 := ⟨Try.func63, by kernel_rfl, by kernel_rfl⟩
instance : FN Try.prog 64 Try.f64 := ⟨Try.func64, by kernel_rfl, by kernel_rfl⟩
instance : FN Try.prog 65 Try.f65 := ⟨Try.func65, by kernel_rfl, by kernel_rfl⟩
instance : FN Try.prog 66 Try.f66 := ⟨Try.func66, by kernel_rfl, by kernel_rfl⟩
instance : FN Try.prog 67 Try.f67 := ⟨Try.func67, by kernel_rfl, by kernel_rfl⟩
instance : FN Try.prog 68 Try.f68 := ⟨Try.func68, by kernel_rfl, by kernel_rfl⟩
instance : FN Try.prog 69 Try.f69 := ⟨Try.func69, by kernel_rfl, by kernel_rfl⟩
instance : FN Try.prog 70 Try.f70 := ⟨Try.func70, by kernel_rfl, by kernel_rfl⟩
instance : FN Try.prog 71 Try.f71 := ⟨Try.func71, by kernel_rfl, by kernel_rfl⟩
instance : FN Try.prog 72 Try.f72 := ⟨Try.func72, by kernel_rfl, by kernel_rfl⟩
instance : FN Try.prog 73 Try.f73 := ⟨Try.func73, by kernel_rfl, by kernel_rfl⟩
instance : FN Try.prog 74 Try.f74 := ⟨Try.func74, by kernel_rfl, by kernel_rfl⟩
instance : FN Try.prog 75 Try.f75 := ⟨Try.func75, by kernel_rfl, by kernel_rfl⟩
instance : FN Try.prog 76 Try.f76 := ⟨Try.func76, by kernel_rfl, by kernel_rfl⟩
instance : FN Try.prog 77 Try.f77 := ⟨Try.func77, by kernel_rfl, by kernel_rfl⟩
instance : FN Try.prog 78 Try.f78 := ⟨Try.func78, by kernel_rfl, by kernel_rfl⟩
instance : FN Try.prog 79 Try.f79 := ⟨Try.func79, by kernel_rfl, by kernel_rfl⟩
instance : FN Try.prog 80 Try.f80 := ⟨Try.func80, by kernel_rfl, by kernel_rfl⟩
instance : FN Try.prog 81 Try.f81 := ⟨Try.func81, by kernel_rfl, by kernel_rfl⟩
instance : FN Try.prog 82 Try.f82 := ⟨Try.func82, by kernel_rfl, by kernel_rfl⟩
instance : FN Try.prog 83 Try.f83 := ⟨Try.func83, by kernel_rfl, by kernel_rfl⟩
instance : FN Try.prog 84 Try.f84 := ⟨Try.func84, by kernel_rfl, by kernel_rfl⟩
instance : FN Try.prog 85 Try.f85 := ⟨Try.func85, by kernel_rfl, by kernel_rfl⟩
instance : FN Try.prog 86 Try.f86 := ⟨Try.func86, by kernel_rfl, by kernel_rfl⟩
instance : FN Try.prog 87 Try.f87 := ⟨Try.func87, by kernel_rfl, by kernel_rfl⟩
instance : FN Try.prog 88 Try.f88 := ⟨Try.func88, by kernel_rfl, by kernel_rfl⟩
instance : FN Try.prog 89 Try.f89 := ⟨Try.func89, by kernel_rfl, by kernel_rfl⟩
instance : FN Try.prog 90 Try.f90 := ⟨Try.func90, by kernel_rfl, by kernel_rfl⟩
instance : FN Try.prog 91 Try.f91 := ⟨Try.func91, by kernel_rfl, by kernel_rfl⟩
instance : FN Try.prog 92 Try.f92 := ⟨Try.func92, by kernel_rfl, by kernel_rfl⟩
instance : FN Try.prog 93 Try.f93 := ⟨Try.func93, by kernel_rfl, by kernel_rfl⟩
instance : FN Try.prog 94 Try.f94 := ⟨Try.func94, by kernel_rfl, by kernel_rfl⟩
instance : FN Try.prog 95 Try.f95 := ⟨Try.func95, by kernel_rfl, by kernel_rfl⟩
instance : FN Try.prog 96 Try.f96 := ⟨Try.func96, by kernel_rfl, by kernel_rfl⟩
instance : FN Try.prog 97 Try.f97 := ⟨Try.func97, by kernel_rfl, by kernel_rfl⟩
instance : FN Try.prog 98 Try.f98 := ⟨Try.func98, by kernel_rfl, by kernel_rfl⟩
instance : FN Try.prog 99 Try.f99 := ⟨Try.func99, by kernel_rfl, by kernel_rfl⟩
instance : FN Try.prog 100 Try.f100 := ⟨Try.func100, by kernel_rfl, by kernel_rfl⟩
instance : FN Try.prog 101 Try.f101 := ⟨Try.func101, by kernel_rfl, by kernel_rfl⟩
instance : FN Try.prog 102 Try.f102 := ⟨Try.func102, by kernel_rfl, by kernel_rfl⟩
instance : FN Try.prog 103 Try.f103 := ⟨Try.func103, by kernel_rfl, by kernel_rfl⟩
instance : FN Try.prog 104 Try.f104 := ⟨Try.func104, by kernel_rfl, by kernel_rfl⟩
instance : FN Try.prog 105 Try.f105 := ⟨Try.func105, by kernel_rfl, by kernel_rfl⟩
instance : FN Try.prog 106 Try.f106 := ⟨Try.func106, by kernel_rfl, by kernel_rfl⟩
instance : FN Try.prog 107 Try.f107 := ⟨Try.func107, by kernel_rfl, by kernel_rfl⟩
instance : FN Try.prog 108 Try.f108 := ⟨Try.func108, by kernel_rfl, by kernel_rfl⟩
instance : FN Try.prog 109 Try.f109 := ⟨Try.func109, by kernel_rfl, by kernel_rfl⟩
instance : FN Try.prog 110 Try.f110 := ⟨Try.func110, by kernel_rfl, by kernel_rfl⟩
instance : FN Try.prog 111 Try.f111 := ⟨Try.func111, by kernel_rfl, by kernel_rfl⟩
instance : FN Try.prog 112 Try.f112 := ⟨Try.func112, by kernel_rfl, by kernel_rfl⟩
instance : FN Try.prog 113 Try.f113 := ⟨Try.func113, by kernel_rfl, by kernel_rfl⟩
instance : FN Try.prog 114 Try.f114 := ⟨Try.func114, by kernel_rfl, by kernel_rfl⟩
instance : FN Try.prog 115 Try.f115 := ⟨Try.func115, by kernel_rfl, by kernel_rfl⟩
instance : FN Try.prog 116 Try.f116 := ⟨Try.func116, by kernel_rfl, by kernel_rfl⟩
instance : FN Try.prog 117 Try.f117 := ⟨Try.func117, by kernel_rfl, by kernel_rfl⟩
instance : FN Try.prog 118 Try.f118 := ⟨Try.func118, by kernel_rfl, by kernel_rfl⟩
instance : FN Try.prog 119 Try.f119 := ⟨Try.func119, by kernel_rfl, by kernel_rfl⟩
instance : FN Try.prog 120 Try.f120 := ⟨Try.func120, by kernel_rfl, by kernel_rfl⟩
instance : FN Try.prog 121 Try.f121 := ⟨Try.func121, by kernel_rfl, by kernel_rfl⟩
instance : FN Try.prog 122 Try.f122 := ⟨Try.func122, by kernel_rfl, by kernel_rfl⟩
instance : FN Try.prog 123 Try.f123 := ⟨Try.func123, by kernel_rfl, by kernel_rfl⟩
instance : FN Try.prog 124 Try.f124 := ⟨Try.func124, by kernel_rfl, by kernel_rfl⟩
instance : FN Try.prog 125 Try.f125 := ⟨Try.func125, by kernel_rfl, by kernel_rfl⟩
instance : FN Try.prog 126 Try.f126 := ⟨Try.func126, by kernel_rfl, by kernel_rfl⟩
instance : FN Try.prog 127 Try.f127 := ⟨Try.func127, by kernel_rfl, by kernel_rfl⟩
instance : FN Try.prog 128 Try.f128 := ⟨Try.func128, by kernel_rfl, by kernel_rfl⟩
instance : FN Try.prog 129 Try.f129 := ⟨Try.func129, by kernel_rfl, by kernel_rfl⟩
instance : FN Try.prog 130 Try.f130 := ⟨Try.func130, by kernel_rfl, by kernel_rfl⟩
instance : FN Try.prog 131 Try.f131 := ⟨Try.func131, by kernel_rfl, by kernel_rfl⟩
instance : FN Try.prog 132 Try.f132 := ⟨Try.func132, by kernel_rfl, by kernel_rfl⟩
instance : FN Try.prog 133 Try.f133 := ⟨Try.func133, by kernel_rfl, by kernel_rfl⟩
instance : FN Try.prog 134 Try.f134 := ⟨Try.func134, by kernel_rfl, by kernel_rfl⟩
instance : FN Try.prog 135 Try.f135 := ⟨Try.func135, by kernel_rfl, by kernel_rfl⟩
instance : FN Try.prog 136 Try.f136 := ⟨Try.func136, by kernel_rfl, by kernel_rfl⟩
instance : FN Try.prog 137 Try.f137 := ⟨Try.func137, by kernel_rfl, by kernel_rfl⟩
instance : FN Try.prog 138 Try.f138 := ⟨Try.func138, by kernel_rfl, by kernel_rfl⟩
instance : FN Try.prog 139 Try.f139 := ⟨Try.func139, by kernel_rfl, by kernel_rfl⟩
instance : FN Try.prog 140 Try.f140 := ⟨Try.func140, by kernel_rfl, by kernel_rfl⟩
instance : FN Try.prog 141 Try.f141 := ⟨Try.func141, by kernel_rfl, by kernel_rfl⟩
instance : FN Try.prog 142 Try.f142 := ⟨Try.func142, by kernel_rfl, by kernel_rfl⟩
instance : FN Try.prog 143 Try.f143 := ⟨Try.func143, by kernel_rfl, by kernel_rfl⟩
instance : FN Try.prog 144 Try.f144 := ⟨Try.func144, by kernel_rfl, by kernel_rfl⟩
instance : FN Try.prog 145 Try.f145 := ⟨Try.func145, by kernel_rfl, by kernel_rfl⟩
instance : FN Try.prog 146 Try.f146 := ⟨Try.func146, by kernel_rfl, by kernel_rfl⟩
instance : FN Try.prog 147 Try.f147 := ⟨Try.func147, by kernel_rfl, by kernel_rfl⟩
instance : FN Try.prog 148 Try.f148 := ⟨Try.func148, by kernel_rfl, by kernel_rfl⟩
instance : FN Try.prog 149 Try.f149 := ⟨Try.func149, by kernel_rfl, by kernel_rfl⟩
instance : FN Try.prog 150 Try.f150 := ⟨Try.func150, by kernel_rfl, by kernel_rfl⟩
instance : FN Try.prog 151 Try.f151 := ⟨Try.func151, by kernel_rfl, by kernel_rfl⟩
instance : FN Try.prog 152 Try.f152 := ⟨Try.func152, by kernel_rfl, by kernel_rfl⟩
instance : FN Try.prog 153 Try.f153 := ⟨Try.func153, by kernel_rfl, by kernel_rfl⟩
instance : FN Try.prog 154 Try.f154 := ⟨Try.func154, by kernel_rfl, by kernel_rfl⟩
instance : FN Try.prog 155 Try.f155 := ⟨Try.func155, by kernel_rfl, by kernel_rfl⟩
instance : FN Try.prog 156 Try.f156 := ⟨Try.func156, by kernel_rfl, by kernel_rfl⟩
instance : FN Try.prog 157 Try.f157 := ⟨Try.func157, by kernel_rfl, by kernel_rfl⟩
instance : FN Try.prog 158 Try.f158 := ⟨Try.func158, by kernel_rfl, by kernel_rfl⟩
instance : FN Try.prog 159 Try.f159 := ⟨Try.func159, by kernel_rfl, by kernel_rfl⟩
instance : FN Try.prog 160 Try.f160 := ⟨Try.func160, by kernel_rfl, by kernel_rfl⟩
instance : FN Try.prog 161 Try.f161 := ⟨Try.func161, by kernel_rfl, by kernel_rfl⟩
instance : FN Try.prog 162 Try.f162 := ⟨Try.func162, by kernel_rfl, by kernel_rfl⟩
instance : FN Try.prog 163 Try.f163 := ⟨Try.func163, by kernel_rfl, by kernel_rfl⟩
instance : FN Try.prog 164 Try.f164 := ⟨Try.func164, by kernel_rfl, by kernel_rfl⟩
instance : FN Try.prog 165 Try.f165 := ⟨Try.func165, by kernel_rfl, by kernel_rfl⟩
instance : FN Try.prog 166 Try.f166 := ⟨Try.func166, by kernel_rfl, by kernel_rfl⟩
instance : FN Try.prog 167 Try.f167 := ⟨Try.func167, by kernel_rfl, by kernel_rfl⟩
instance : FN Try.prog 168 Try.f168 := ⟨Try.func168, by kernel_rfl, by kernel_rfl⟩
instance : FN Try.prog 169 Try.f169 := ⟨Try.func169, by kernel_rfl, by kernel_rfl⟩
instance : FN Try.prog 170 Try.f170 := ⟨Try.func170, by kernel_rfl, by kernel_rfl⟩
instance : FN Try.prog 171 Try.f171 := ⟨Try.func171, by kernel_rfl, by kernel_rfl⟩
instance : FN Try.prog 172 Try.f172 := ⟨Try.func172, by kernel_rfl, by kernel_rfl⟩
instance : FN Try.prog 173 Try.f173 := ⟨Try.func173, by kernel_rfl, by kernel_rfl⟩
instance : FN Try.prog 174 Try.f174 := ⟨Try.func174, by kernel_rfl, by kernel_rfl⟩
instance : FN Try.prog 175 Try.f175 := ⟨Try.func175, by kernel_rfl, by kernel_rfl⟩
instance : FN Try.prog 176 Try.f176 := ⟨Try.func176, by kernel_rfl, by kernel_rfl⟩
instance : FN Try.prog 177 Try.f177 := ⟨Try.func177, by kernel_rfl, by kernel_rfl⟩
instance : FN Try.prog 178 Try.f178 := ⟨Try.func178, by kernel_rfl, by kernel_rfl⟩
instance : FN Try.prog 179 Try.f179 := ⟨Try.func179, by kernel_rfl, by kernel_rfl⟩
instance : FN Try.prog 180 Try.f180 := ⟨Try.func180, by kernel_rfl, by kernel_rfl⟩
instance : FN Try.prog 181 Try.f181 := ⟨Try.func181, by kernel_rfl, by kernel_rfl⟩
instance : FN Try.prog 182 Try.f182 := ⟨Try.func182, by kernel_rfl, by kernel_rfl⟩
instance : FN Try.prog 183 Try.f183 := ⟨Try.func183, by kernel_rfl, by kernel_rfl⟩
instance : FN Try.prog 184 Try.f184 := ⟨Try.func184, by kernel_rfl, by kernel_rfl⟩
instance : FN Try.prog 185 Try.f185 := ⟨Try.func185, by kernel_rfl, by kernel_rfl⟩
instance : FN Try.prog 186 Try.f186 := ⟨Try.func186, by kernel_rfl, by kernel_rfl⟩
instance : FN Try.prog 187 Try.f187 := ⟨Try.func187, by kernel_rfl, by kernel_rfl⟩
instance : FN Try.prog 188 Try.f188 := ⟨Try.func188, by kernel_rfl, by kernel_rfl⟩
instance : FN Try.prog 189 Try.f189 := ⟨Try.func189, by kernel_rfl, by kernel_rfl⟩
instance : FN Try.prog 190 Try.f190 := ⟨Try.func190, by kernel_rfl, by kernel_rfl⟩
instance : FN Try.prog 191 Try.f191 := ⟨Try.func191, by kernel_rfl, by kernel_rfl⟩
instance : FN Try.prog 192 Try.f192 := ⟨Try.func192, by kernel_rfl, by kernel_rfl⟩
instance : FN Try.prog 193 Try.f193 := ⟨Try.func193, by kernel_rfl, by kernel_rfl⟩
instance : FN Try.prog 194 Try.f194 := ⟨Try.func194, by kernel_rfl, by kernel_rfl⟩
instance : FN Try.prog 195 Try.f195 := ⟨Try.func195, by kernel_rfl, by kernel_rfl⟩
instance : FN Try.prog 196 Try.f196 := ⟨Try.func196, by kernel_rfl, by kernel_rfl⟩
instance : FN Try.prog 197 Try.f197 := ⟨Try.func197, by kernel_rfl, by kernel_rfl⟩
def tab : Tab := ⟨[(25, [0, 1, 2]), (29, [0, 1, 2]), (38, [0]), (52, [0, 1, 2, 3, 4, 5, 6, 7]), (59, [0, 1, 2]), (62, [0, 1]), (74, [0, 1, 2, 3, 4, 5, 6, 7, 8, 9]), (107, [0, 1, 2, 3]), (123, [0, 1, 2])], [2, 3, 4, 5, 9, 21, 22, 23, 27, 36, 49, 50, 56, 87, 93, 104, 105, 128, 140, 150, 165, 174, 178], [(25, 3), (29, 3), (38, 1), (52, 8), (59, 3), (62, 2), (74, 10), (99, 256), (100, 256), (107, 4), (123, 3), (158, 18), (171, 0)], [22, 23, 27, 36, 49, 50, 56, 105], [9], [4]⟩
theorem Zu : TabOk Try.prog tab := ⟨by kernel_rfl, by kernel_rfl, by kernel_rfl, by kernel_rfl, by kernel_rfl, by kernel_rfl⟩
theorem Ym : Try.prog.follows .mixedOrders = true := by kernel_rfl
def plains : List Nat := [2, 3, 4, 5, 6, 7, 9, 12, 13, 21, 22, 23, 24, 25, 27, 28, 29, 36, 37, 38, 49, 50, 51, 52, 56, 58, 59, 61, 62, 73, 74, 106, 107, 122, 123, 150, 174]
theorem plainsOk : (plains.all (typB Try.prog plains)) = true := by kernel_rfl
theorem Eu (e : TypeId) (l : List Int) : Seals (.row e 1 (l.map RV.int)) (Xc l) := by
  have h := Ly e (l.map RV.int)
  rwa [List.map_map] at h
structure Ins where
  op : Int
  a : Int
  b : Int
structure Prg where
  code : List Ins
  entries : List Int
def Vr (i : Ins) : List RV := [.int i.op, .int i.a, .int i.b]
def Ul (l : List Ins) : RV := .seq 3 (l.map Vr)
def E8 (p : Prg) : RV := .agg [Ul p.code, Xc p.entries]
theorem insR_len (i : Ins) : (Vr i).length = 3 := rfl
def InsOk (i : Ins) : Prop := I64 i.op ∧ I64 i.a ∧ I64 i.b
structure PrgOk (p : Prg) : Prop where
  code : ∀ i ∈ p.code, InsOk i
  entries : ∀ e ∈ p.entries, I64 e
  clen : p.code.length ≤ maxLen
  elen : p.entries.length ≤ maxLen
deriving instance DecidableEq for Ins
deriving instance DecidableEq for Prg
section
variable {α : Type} {a b : List α} {j : Nat} {x y : α}
end
def insV (i : Ins) : List Value := [.int .i64 i.op, .int .i64 i.a, .int .i64 i.b]
section
variable {P : Program} {C : Ctx} {env : Env} {σ : List Ob} {t : Nat} {ty : TypeId} {pos : String} {after : Array Edge} {gd : Option (Nat × Bool)}
theorem pu_string {src dst e : TypeId} {x : Operand} {l : List UInt8} (hs : P.underlying src = some (.slice e)) (he : P.underlying e = some (.int .u8)) (hd : P.underlying dst = some .string) (hx : ev env x = .ro (Yz l)) :
    Pur P C ⟨some t, .convert src dst x, ty, pos, after, gd⟩ env σ (.str ⟨l.toArray⟩) :=
  Xh (fun a m hG hσ hH => by
    have h := hH x (by simp [Op.operands])
    rw [hx] at h
    simp only [AV.rel, Yz, RV.rel] at h
    obtain ⟨A, n, c, e1, hn, hc, _, hA⟩ := h
    rw [lmT] at hn
    refine ⟨.string ⟨l.toArray⟩, ?_, by simp [AV.rel, RV.rel]⟩
    have key : (convert src dst (a.eval x)).run P m.w = .ok (.string ⟨l.toArray⟩) m.w := by
      rw [e1]
      cases hl : l with
      | nil =>
        subst hl
        have : n = 0 := by simpa using hn
        subst this
        cases A with
        | none => rw [run_convert_bytes_string m.w src dst e none 0 c hs he hd]; rfl
        | some a => exact run_convert_bytes_back m.w src dst e a c [] hs he hd (fun j hj => absurd hj (by simp))
      | cons y ys =>
        obtain ⟨b, o, eA, hb, _, hE⟩ := hA (by rw [hn, hl]; simp)
        rw [eA, hn, ← hl]
        refine run_convert_bytes_back m.w src dst e ⟨b, o, none⟩ c l hs he hd fun j hj => ?_
        have h1 := RV.relE_at _ o 1 hE j [.u8 l[j]] (by rw [List.getElem?_map, P9 hj]; rfl)
        obtain ⟨_, h2⟩ := h1
        simp only [RV.relAt] at h2
        obtain ⟨⟨u, k1, _, k3⟩, _⟩ := h2
        simp only [RV.rel] at k3
        rw [add_lit, ← k3, ← k1, Nat.mul_one]
    simp only [execOp, Sem.run_bind, key, Result.andThen]
    rfl)
end
theorem Ua (e : TypeId) (l : List UInt8) : Seals (.row e 1 (l.map RV.u8)) (Yz l) := by
  have h := Ly e (l.map RV.u8)
  rwa [List.map_map] at h
theorem u8_ext {x y : UInt8} (h : (x.toNat : Int) = (y.toNat : Int)) : x = y := UInt8.toNat_inj.1 (Int.ofNat_inj.1 h)
section
variable {α : Type} (f : α → Nat)
theorem D2 {l : List α} {j : Nat} {x : α} (hx : l[j]? = some x) : ((l.take (j + 1)).map f).sum = ((l.take j).map f).sum + f x := by
  obtain ⟨hj, rfl⟩ := P8.1 hx
  rw [List.take_succ_eq_append_getElem hj]; simp only [List.map_append, List.map_cons, List.map_nil, List.sum_append, List.sum_cons, List.sum_nil, Nat.add_zero]
theorem Hh (l : List α) (j : Nat) : ((l.take j).map f).sum ≤ (l.map f).sum := by
  have h := congrArg (fun l => (l.map f).sum) (List.take_append_drop j l)
  simp only [List.map_append, List.sum_append] at h
  omega
theorem U5 {l : List α} {x : α} (h : x ∈ l) : f x ≤ (l.map f).sum := by
  induction l with
  | nil => cases h
  | cons y l ih =>
    rw [List.map_cons, List.sum_cons]
    rcases List.mem_cons.1 h with e | e
    · rw [e]; omega
    · have := ih e; omega
end
theorem Ko {a b : Int} (h : a = b) : AV.int a = AV.int b := by rw [h]
structure Rul where
  name : ByteArray
  kind : Int
  size : Int
  little : Bool
  bytes : List UInt8
  names : List ByteArray
  tags : List Int
  kids : List Int
abbrev Des := List Rul
def Ws (r : Rul) : List RV := [.str r.name, .int r.kind, .int r.size, .bool r.little, Yz r.bytes, U1 r.names, Xc r.tags, Xc r.kids]
def X4 (d : Des) : RV := .seq 8 (d.map Ws)
def W1 (d : Des) : RV := .agg [X4 d]
namespace Rul
def total (r : Rul) : Nat := r.name.size + r.bytes.length + (r.names.length + (r.names.map ByteArray.size).sum) + r.tags.length + r.kids.length
structure Ok (r : Rul) : Prop where
  kind : I64 r.kind
  size : I64 r.size
  tags : ∀ z ∈ r.tags, I64 z
  kids : ∀ z ∈ r.kids, I64 z
  lens : r.name.size ≤ maxLen ∧ r.bytes.length ≤ maxLen ∧ r.names.length ≤ maxLen ∧ (∀ s ∈ r.names, s.size ≤ maxLen) ∧ r.tags.length ≤ maxLen ∧ r.kids.length ≤ maxLen ∧ True
end Rul
def W0 (d : Des) : Nat := d.length + (d.map Rul.total).sum
structure P5 (d : Des) : Prop where
  rules : ∀ r ∈ d, r.Ok
  len : d.length ≤ maxLen
section
variable {P : Program} {C : Ctx} {env : Env} {σ : List Ob} {t : Nat} {ty : TypeId} {pos : String} {after : Array Edge} {gd : Option (Nat × Bool)}
end
abbrev InR (x lo hi : Int) : Prop := lo ≤ x ∧ x ≤ hi
theorem Yx (x lo hi : Int) : ACv Try.prog 80 [.int x, .int lo, .int hi] (.bool (decide (InR x lo hi))) := by
  refine Yh Try.func80 rfl _ Try.ntmps80 (by simp) fun C hn hm => ?_
  repeat' (first
 | refine Rk Zu hn rfl ?_
 | refine Rl ?_
 | refine Zc 30 rfl ?_
 | (refine Rj 30 rfl ?_; first | ((first | refine Zd rfl ?_ ?_ | refine Ze rfl ?_ ?_); · first | omega | rfl | assumption | (simp only [lmT]; omega)) | ((first | refine Zf rfl ?_ ?_ | refine Za rfl ?_ ?_); · first | omega | rfl | assumption | (simp only [lmT]; omega)) | refine Ri (Zt hm rfl rfl ?_) | exact Ri (Zj hm rfl rfl rfl (nbT rfl) rfl rfl))
 | ((first | refine Zi rfl rfl rfl ?_ ?_ | refine Zh rfl rfl rfl ?_ ?_ | refine Zk rfl rfl rfl ?_ ?_ | refine Zl rfl rfl rfl ?_ ?_) <;> intro h <;> try (exfalso; first | omega | contradiction | (simp only [lmT] at h; omega))))
  all_goals exact Yf (by rw [Bool.eq_iff_iff]; simp only [decide_eq_true_eq, Bool.not_eq_true', decide_eq_false_iff_not, Bool.false_eq_true, true_iff, false_iff, Bool.and_eq_true, Bool.or_eq_true, Bool.not_eq_eq_eq_not, Bool.not_true, Bool.not_false, reduceCtorEq, eq_self, iff_true, iff_false, ne_eq]; simp only [InR] at *; omega)
theorem H2 (x lo hi : Int) : ACv Try.prog 78 [.int x, .int lo, .int hi] (.bool (decide (InR x lo hi))) := by
  refine Yh Try.func78 rfl _ Try.ntmps78 (by simp) fun C hn hm => ?_
  repeat' (first
 | refine Rk Zu hn rfl ?_
 | refine Rl ?_
 | refine Zc 30 rfl ?_
 | (refine Rj 30 rfl ?_; first | ((first | refine Zd rfl ?_ ?_ | refine Ze rfl ?_ ?_); · first | omega | rfl | assumption | (simp only [lmT]; omega)) | ((first | refine Zf rfl ?_ ?_ | refine Za rfl ?_ ?_); · first | omega | rfl | assumption | (simp only [lmT]; omega)) | refine Ri (Zt hm rfl rfl ?_) | exact Ri (Zj hm rfl rfl rfl (nbT rfl) rfl rfl))
 | ((first | refine Zi rfl rfl rfl ?_ ?_ | refine Zh rfl rfl rfl ?_ ?_ | refine Zk rfl rfl rfl ?_ ?_ | refine Zl rfl rfl rfl ?_ ?_) <;> intro h <;> try (exfalso; first | omega | contradiction | (simp only [lmT] at h; omega))))
  all_goals exact Yf (by rw [Bool.eq_iff_iff]; simp only [decide_eq_true_eq, Bool.not_eq_true', decide_eq_false_iff_not, Bool.false_eq_true, true_iff, false_iff, Bool.and_eq_true, Bool.or_eq_true, Bool.not_eq_eq_eq_not, Bool.not_true, Bool.not_false, reduceCtorEq, eq_self, iff_true, iff_false, ne_eq]; simp only [InR] at *; omega)
abbrev Idx (p : Prg) (i : Int) : Prop := 0 ≤ i ∧ i < p.code.length
theorem X8 (p : Prg) (i : Int) : ACv Try.prog 115 [E8 p, .int i] (.bool (decide (Idx p i))) := by
  have hl : (p.code.map Vr).length = p.code.length := lmT ..
  refine Yh Try.func115 rfl _ Try.ntmps115 (by simp) fun C hn hm => ?_
  repeat' (first
 | refine Rk Zu hn rfl ?_
 | refine Rl ?_
 | refine Zc 30 rfl ?_
 | (refine Rj 30 rfl ?_; first | ((first | refine Zd rfl ?_ ?_ | refine Ze rfl ?_ ?_); · first | omega | rfl | assumption | (simp only [lmT]; omega)) | ((first | refine Zf rfl ?_ ?_ | refine Za rfl ?_ ?_); · first | omega | rfl | assumption | (simp only [lmT]; omega)) | refine Ri (Zt hm rfl rfl ?_) | exact Ri (Zj hm rfl rfl rfl (nbT rfl) rfl rfl))
 | refine Z1 rfl (tl hn rfl) ?_
 | ((first | refine Zi rfl rfl rfl ?_ ?_ | refine Zh rfl rfl rfl ?_ ?_ | refine Zk rfl rfl rfl ?_ ?_ | refine Zl rfl rfl rfl ?_ ?_) <;> intro h <;> try (exfalso; first | omega | contradiction | (simp only [lmT] at h; omega))))
  all_goals exact Yf (by rw [Bool.eq_iff_iff]; simp only [decide_eq_true_eq, Bool.not_eq_true', decide_eq_false_iff_not, Bool.false_eq_true, true_iff, false_iff, Bool.and_eq_true, Bool.or_eq_true, Bool.not_eq_eq_eq_not, Bool.not_true, Bool.not_false, reduceCtorEq, eq_self, iff_true, iff_false, ne_eq]; simp only [Idx] at *; omega)
abbrev Goes (op : Int) : Prop := op ≠ 8 ∧ op ≠ 10 ∧ op ≠ 12 ∧ op ≠ 17
theorem Gn (op : Int) : ACv Try.prog 116 [.int op] (.bool (decide (Goes op))) := by
  refine Yh Try.func116 rfl _ Try.ntmps116 (by simp) fun C hn hm => ?_
  repeat' (first
 | refine Rk Zu hn rfl ?_
 | refine Rl ?_
 | refine Zc 30 rfl ?_
 | (refine Rj 30 rfl ?_; first | ((first | refine Zd rfl ?_ ?_ | refine Ze rfl ?_ ?_); · first | omega | rfl | assumption | (simp only [lmT]; omega)) | ((first | refine Zf rfl ?_ ?_ | refine Za rfl ?_ ?_); · first | omega | rfl | assumption | (simp only [lmT]; omega)) | refine Ri (Zt hm rfl rfl ?_) | exact Ri (Zj hm rfl rfl rfl (nbT rfl) rfl rfl))
 | ((first | refine Zi rfl rfl rfl ?_ ?_ | refine Zh rfl rfl rfl ?_ ?_ | refine Zk rfl rfl rfl ?_ ?_ | refine Zl rfl rfl rfl ?_ ?_) <;> intro h <;> try (exfalso; first | omega | contradiction | (simp only [lmT] at h; omega))))
  all_goals exact Yf (by rw [Bool.eq_iff_iff]; simp only [decide_eq_true_eq, Bool.not_eq_true', decide_eq_false_iff_not, Bool.false_eq_true, true_iff, false_iff, Bool.and_eq_true, Bool.or_eq_true, Bool.not_eq_eq_eq_not, Bool.not_true, Bool.not_false, reduceCtorEq, eq_self, iff_true, iff_false, ne_eq]; simp only [Goes] at *; omega)
def Mq (x : Ins) : Prop := (x.op = 1 → InR x.a 1 4 ∧ InR x.b 0 1) ∧ (x.op = 2 ∨ x.op = 16 → InR x.a 0 255) ∧ (x.op = 3 ∨ x.op = 5 → InR x.a 0 400) ∧ (x.op = 11 → 0 ≤ x.a) ∧ (x.op = 12 → InR x.a 1 8) ∧ InR x.op 1 17
instance (x : Ins) : Decidable (Mq x) := by unfold Mq; infer_instance
def SafeX (n i : Int) (x : Ins) : Prop := Mq x ∧ (x.op = 7 ∨ x.op = 8 ∨ x.op = 9 ∨ x.op = 13 → 0 ≤ x.a ∧ x.a < n) ∧ (x.op = 11 → 0 ≤ x.b ∧ x.b < n) ∧ (Goes x.op → i + 1 < n)
instance (n i : Int) (x : Ins) : Decidable (SafeX n i x) := by unfold SafeX; infer_instance
def T7 (p : Prg) (i : Int) : Prop := match p.code[i.toNat]? with
  | some x => 0 ≤ i ∧ SafeX p.code.length i x
  | none => False
instance (p : Prg) (i : Int) : Decidable (T7 p i) := by unfold T7; split <;> infer_instance
theorem V6 {p : Prg} {i : Int} {x : Ins} (h : p.code[i.toNat]? = some x) : T7 p i ↔ 0 ≤ i ∧ SafeX p.code.length i x := by unfold T7; rw [h]
theorem safeI_out {p : Prg} {i : Int} (h : ¬ Idx p i) : T7 p i ↔ False := by
  unfold T7
  split
  · rename_i x hx
    have := (P8.1 hx).1
    unfold Idx at h
    exact ⟨fun h' => h (by omega), False.elim⟩
  · exact Iff.rfl
noncomputable instance (s : ByteArray) (l : List ByteArray) : Decidable (s ∈ l) := Classical.propDecidable _
theorem str_lt {s : ByteArray} {i : Nat} {c : UInt8} (h : s[i]? = some c) : i < s.size := by
  by_cases hi : i < s.size
  · exact hi
  · rw [getElem?_neg s i hi] at h; cases h
section
variable {P : Program} {C : Ctx} {env : Env} {σ : List Ob} {t : Nat} {ty : TypeId} {pos : String} {after : Array Edge} {gd : Option (Nat × Bool)}
theorem E5 {xt yt : TypeId} {x y : Operand} {s : ByteArray} (hx : ev env x = .str s) (hy : ev env y = .str s) : Pur P C ⟨some t, .binOp .eql xt x y yt, ty, pos, after, gd⟩ env σ (.bool true) := by
  have h := Hs (P := P) (C := C) (σ := σ) (t := t) (ty := ty) (pos := pos) (after := after) (gd := gd) (xt := xt) (yt := yt) hx hy
  have e : (s.toList == s.toList) = true := by simp
  rwa [e] at h
theorem E6 {xt yt : TypeId} {x y : Operand} {s u : ByteArray} (hx : ev env x = .str s) (hy : ev env y = .str u) (hn : ¬ s = u) : Pur P C ⟨some t, .binOp .eql xt x y yt, ty, pos, after, gd⟩ env σ (.bool false) := by
  have h := Hs (P := P) (C := C) (σ := σ) (t := t) (ty := ty) (pos := pos) (after := after) (gd := gd) (xt := xt) (yt := yt) hx hy
  have e : (s.toList == u.toList) = false := by
    rw [Bool.eq_false_iff]
    simpa [ByteArray.toList_eq, ← ByteArray.ext_iff] using hn
  rwa [e] at h
end
def NameC (c : UInt8) (i : Nat) : Prop := (97 ≤ c.toNat ∧ c.toNat ≤ 122) ∨ (48 ≤ c.toNat ∧ c.toNat ≤ 57 ∧ i ≠ 0)
def IsNm (s : ByteArray) : Prop := 1 ≤ s.size ∧ s.size ≤ 12 ∧ ∀ (i : Nat) c, s[i]? = some c → NameC c i
noncomputable instance (s : ByteArray) : Decidable (IsNm s) := Classical.propDecidable _
theorem Ma (l : List ByteArray) (s : ByteArray) (hl : l.length ≤ maxLen) : ACv Try.prog 195 [U1 l, .str s] (.bool (decide (s ∈ l))) := by
  have hlm : (l.map fun z => [RV.str z]).length = l.length := lmT ..
  unfold maxLen at hl
  refine Yh Try.func195 rfl _ Try.ntmps195 (by simp) fun C hn hm => ?_
  repeat' (first
 | refine Rk Zu hn rfl ?_
 | refine Rl ?_
 | refine Zc 30 rfl ?_
 | (refine Rj 30 rfl ?_; first | refine Zp rfl ?_ | refine Zz rfl ?_ | ((first | refine Zd rfl ?_ ?_ | refine Ze rfl ?_ ?_); · first | omega | rfl | assumption | (simp only [lmT]; omega)) | ((first | refine Zf rfl ?_ ?_ | refine Za rfl ?_ ?_); · first | omega | rfl | assumption | (simp only [lmT]; omega)) | refine Ri (Zt hm rfl rfl ?_) | exact Ri (Zj hm rfl rfl rfl (nbT rfl) rfl rfl))
 | (refine Zg hn rfl rfl rfl ?_; first
 | refine ⟨_, Zx rfl rfl (by omega), ?_⟩
 | refine ⟨_, Zb rfl rfl (by omega) (by assumption), ?_⟩
      ))
  refine Yw 30 rfl (fun j => [(7, .ro (U1 l)), (8, .int (l.length : Int)), (1, .str s), (9, .int (j : Int))]) (fun _ => []) (fun j => s ∉ l.take j) l.length 0 (Nat.zero_le _) (by simp) ⟨rfl, by simp [look], rfl, rfl, trivial⟩ rfl fun j hj hQ next => ?_
  by_cases hlt : j < l.length
  · obtain ⟨x, hx⟩ : ∃ x, l[(j : Int).toNat]? = some x := ⟨_, P9 hlt⟩
    have hx' : l[j]? = some x := hx
    by_cases hxs : x = s
    · subst hxs
      repeat' (first
 | (refine Zg hn rfl rfl rfl ?_; first
 | refine ⟨_, E5 rfl rfl, ?_⟩)
 | refine Rk Zu hn rfl ?_
 | refine Rl ?_
 | refine Zc 30 rfl ?_
 | (refine Rj 30 rfl ?_; first | refine Zp rfl ?_ | refine Zz rfl ?_ | ((first | refine Zd rfl ?_ ?_ | refine Ze rfl ?_ ?_); · first | omega | rfl | assumption | (simp only [lmT]; omega)) | ((first | refine Zf rfl ?_ ?_ | refine Za rfl ?_ ?_); · first | omega | rfl | assumption | (simp only [lmT]; omega)) | refine Ri (Zt hm rfl rfl ?_) | exact Ri (Zj hm rfl rfl rfl (nbT rfl) rfl rfl))
 | (refine Zg hn rfl rfl rfl ?_; first
 | refine ⟨_, Zx rfl rfl (by omega), ?_⟩
 | refine ⟨_, Zb rfl rfl (by omega) (by assumption), ?_⟩
          ))
      exact Yf (decide_eq_true (Re hx')).symm
    · repeat' (first
 | (refine Zg hn rfl rfl rfl ?_; first
 | refine ⟨_, E6 rfl rfl (by assumption), ?_⟩)
 | refine Rk Zu hn rfl ?_
 | refine Rl ?_
 | refine Zc 30 rfl ?_
 | (refine Rj 30 rfl ?_; first | refine Zp rfl ?_ | refine Zz rfl ?_ | ((first | refine Zd rfl ?_ ?_ | refine Ze rfl ?_ ?_); · first | omega | rfl | assumption | (simp only [lmT]; omega)) | ((first | refine Zf rfl ?_ ?_ | refine Za rfl ?_ ?_); · first | omega | rfl | assumption | (simp only [lmT]; omega)) | refine Ri (Zt hm rfl rfl ?_) | exact Ri (Zj hm rfl rfl rfl (nbT rfl) rfl rfl))
 | (refine Zg hn rfl rfl rfl ?_; first
 | refine ⟨_, Zx rfl rfl (by omega), ?_⟩
 | refine ⟨_, Zb rfl rfl (by omega) (by assumption), ?_⟩
        ))
      refine next _ _ ⟨rfl, rfl, rfl, rfl, trivial⟩ hlt ?_ rfl
      rw [List.take_succ_eq_append_getElem hlt, List.mem_append]
      rintro (hm' | hm')
      · exact hQ hm'
      · rw [P9 hlt] at hx'; injection hx' with hx'
        simp only [List.mem_singleton] at hm'
        exact hxs (by rw [hm', hx'])
  · repeat' (first
 | refine Rk Zu hn rfl ?_
 | refine Rl ?_
 | refine Zc 30 rfl ?_
 | (refine Rj 30 rfl ?_; first | refine Zp rfl ?_ | refine Zz rfl ?_ | ((first | refine Zd rfl ?_ ?_ | refine Ze rfl ?_ ?_); · first | omega | rfl | assumption | (simp only [lmT]; omega)) | ((first | refine Zf rfl ?_ ?_ | refine Za rfl ?_ ?_); · first | omega | rfl | assumption | (simp only [lmT]; omega)) | refine Ri (Zt hm rfl rfl ?_) | exact Ri (Zj hm rfl rfl rfl (nbT rfl) rfl rfl))
 | (refine Zg hn rfl rfl rfl ?_; first
 | refine ⟨_, Zx rfl rfl (by omega), ?_⟩
 | refine ⟨_, Zb rfl rfl (by omega) (by assumption), ?_⟩
      ))
    rw [show j = l.length by omega, List.take_length] at hQ
    exact Yf (decide_eq_false hQ).symm
def Ef (s : Int) : Int := if s = 1 then 256 else if s = 2 then 65536 else if s = 3 then 16777216 else 4294967296
theorem N1 {s : Int} : 256 ≤ Ef s ∧ Ef s ≤ 4294967296 := by unfold Ef; split; omega; split; omega; split <;> omega
section
variable {P : Program} {C : Ctx} {env : Env} {σ : List Ob} {t : Nat} {ty : TypeId} {pos : String} {after : Array Edge} {gd : Option (Nat × Bool)}
theorem pu_pow {xt yt : TypeId} {x y : Operand} {s : Int} (hx : ev env x = .ro (.c (.int .i64 1))) (hy : ev env y = .ro (.c (.int .i64 (8 * s)))) (h : 1 ≤ s ∧ s ≤ 4) : Pur P C ⟨some t, .binOp .shl xt x y yt, ty, pos, after, gd⟩ env σ (.int (Ef s)) := by
  have hs : s = 1 ∨ s = 2 ∨ s = 3 ∨ s = 4 := by omega
  rcases hs with rfl | rfl | rfl | rfl
  · exact Xt hx hy (fun w => by simp [go_sem, Ef]; rfl)
  · exact Xt hx hy (fun w => by simp [go_sem, Ef]; rfl)
  · exact Xt hx hy (fun w => by simp [go_sem, Ef]; rfl)
  · exact Xt hx hy (fun w => by simp [go_sem, Ef]; rfl)
end
theorem L9 (s : Int) (h : 1 ≤ s ∧ s ≤ 4) : ACv Try.prog 119 [.int s] (.int (Ef s)) := by
  refine Yh Try.func119 rfl _ Try.ntmps119 (by simp) fun C hn hm => ?_
  repeat' (first
 | refine Rk Zu hn rfl ?_
 | refine Rl ?_
 | refine Zc 30 rfl ?_
 | (refine Zg hn rfl rfl rfl ?_; first
 | refine ⟨_, pu_pow rfl rfl h, ?_⟩)
 | (refine Rj 30 rfl ?_; first | ((first | refine Zd rfl ?_ ?_ | refine Ze rfl ?_ ?_); · first | omega | rfl | assumption | (simp only [lmT]; omega)) | ((first | refine Zf rfl ?_ ?_ | refine Za rfl ?_ ?_); · first | omega | rfl | assumption | (simp only [lmT]; omega)) | refine Ri (Zt hm rfl rfl ?_) | exact Ri (Zj hm rfl rfl rfl (nbT rfl) rfl rfl))
 | (refine Zg hn rfl rfl rfl ?_; first
 | refine ⟨_, Z7 rfl rfl (by omega), ?_⟩
      ))
  exact Xx rfl
def lim (d : Des) (i : Int) : Int := match d[i.toNat]? with
  | some r => if 0 ≤ i ∧ r.kind = 1 ∧ 1 ≤ r.size ∧ r.size ≤ 4 then Ef r.size - 1 else -1
  | none => -1
theorem H1 {d : Des} {i : Int} {r : Rul} (h : d[i.toNat]? = some r) (h0 : 0 ≤ i ∧ r.kind = 1 ∧ 1 ≤ r.size ∧ r.size ≤ 4) : lim d i = Ef r.size - 1 := by unfold lim; rw [h]; exact if_pos h0
theorem lim_no {d : Des} {i : Int} {r : Rul} (h : d[i.toNat]? = some r) (h0 : ¬ (0 ≤ i ∧ r.kind = 1 ∧ 1 ≤ r.size ∧ r.size ≤ 4)) : lim d i = -1 := by unfold lim; rw [h]; exact if_neg h0
theorem lim_out {d : Des} {i : Int} (h : ¬ (0 ≤ i ∧ i < d.length)) : lim d i = -1 := by
  unfold lim
  split
  · rename_i r hr
    have := (P8.1 hr).1
    exact if_neg (by omega)
  · rfl
abbrev HasR (d : Des) (i : Int) : Prop := 0 ≤ i ∧ i < d.length
theorem V8 (d : Des) (i : Int) : ACv Try.prog 98 [W1 d, .int i] (.bool (decide (HasR d i))) := by
  have hl : (d.map Ws).length = d.length := lmT ..
  refine Yh Try.func98 rfl _ Try.ntmps98 (by simp) fun C hn hm => ?_
  repeat' (first
 | refine Rk Zu hn rfl ?_
 | refine Rl ?_
 | refine Zc 30 rfl ?_
 | (refine Rj 30 rfl ?_; first | ((first | refine Zd rfl ?_ ?_ | refine Ze rfl ?_ ?_); · first | omega | rfl | assumption | (simp only [lmT]; omega)) | ((first | refine Zf rfl ?_ ?_ | refine Za rfl ?_ ?_); · first | omega | rfl | assumption | (simp only [lmT]; omega)) | refine Ri (Zt hm rfl rfl ?_) | exact Ri (Zj hm rfl rfl rfl (nbT rfl) rfl rfl))
 | refine Z1 rfl (tl hn rfl) ?_
 | ((first | refine Zi rfl rfl rfl ?_ ?_ | refine Zh rfl rfl rfl ?_ ?_ | refine Zk rfl rfl rfl ?_ ?_ | refine Zl rfl rfl rfl ?_ ?_) <;> intro h <;> try (exfalso; first | omega | contradiction | (simp only [lmT] at h; omega))))
  all_goals exact Yf (by rw [Bool.eq_iff_iff]; simp only [decide_eq_true_eq, Bool.not_eq_true', decide_eq_false_iff_not, Bool.false_eq_true, true_iff, false_iff, Bool.and_eq_true, Bool.or_eq_true, Bool.not_eq_eq_eq_not, Bool.not_true, Bool.not_false, reduceCtorEq, eq_self, iff_true, iff_false, ne_eq]; simp only [HasR] at *; omega)
theorem Qh (d : Des) (i : Int) (hl : d.length ≤ maxLen) : ACv Try.prog 158 [W1 d, .int i] (.int (lim d i)) := by
  unfold maxLen at hl
  refine Yh Try.func158 rfl _ Try.ntmps158 (by simp) fun C hn hm => ?_
  by_cases hx : HasR d i
  · obtain ⟨r, hr⟩ : ∃ r, d[i.toNat]? = some r := ⟨_, P9 (by omega)⟩
    have hb := N1 (s := r.size)
    by_cases hk : 0 ≤ i ∧ r.kind = 1 ∧ 1 ≤ r.size ∧ r.size ≤ 4
    · rw [H1 hr hk]
      repeat' (first
 | refine Rk Zu hn rfl ?_
 | refine Rl ?_
 | refine Zc 30 rfl ?_
 | (refine Zg hn rfl rfl rfl ?_; first
 | refine ⟨_, Zw (V8 _ _) rfl, ?_⟩
 | refine ⟨_, Zw (Yx _ _ _) rfl, ?_⟩
 | refine ⟨_, pu_pow rfl rfl (by omega), ?_⟩)
 | (refine Rj 30 rfl ?_; first | refine Zp rfl ?_ | ((first | refine Zd rfl ?_ ?_ | refine Ze rfl ?_ ?_); · first | omega | rfl | assumption | (simp only [lmT]; omega)) | ((first | refine Zf rfl ?_ ?_ | refine Za rfl ?_ ?_); · first | omega | rfl | assumption | (simp only [lmT]; omega)) | refine Ri (Zt hm rfl rfl ?_) | exact Ri (Zj hm rfl rfl rfl (nbT rfl) rfl rfl))
 | refine Z1 rfl (tl hn rfl) ?_
 | (refine Zg hn rfl rfl rfl ?_; first
 | refine ⟨_, Zb rfl rfl (by omega) (by assumption), ?_⟩
 | refine ⟨_, Z4 rfl rfl (by omega), ?_⟩
 | refine ⟨_, Z7 rfl rfl (by omega), ?_⟩
          )
 | ((first | refine Zi rfl rfl rfl ?_ ?_ | refine Zh rfl rfl rfl ?_ ?_ | refine Zk rfl rfl rfl ?_ ?_ | refine Zl rfl rfl rfl ?_ ?_) <;> intro h <;> try (exfalso; first | omega | contradiction | (simp only [lmT] at h; omega))))
      exact Xx rfl
    · rw [lim_no hr hk]
      repeat' (first
 | refine Rk Zu hn rfl ?_
 | refine Rl ?_
 | refine Zc 30 rfl ?_
 | (refine Zg hn rfl rfl rfl ?_; first
 | refine ⟨_, Zw (V8 _ _) rfl, ?_⟩
 | refine ⟨_, Zw (Yx _ _ _) rfl, ?_⟩
 | refine ⟨_, pu_pow rfl rfl (by omega), ?_⟩)
 | (refine Rj 30 rfl ?_; first | refine Zp rfl ?_ | ((first | refine Zd rfl ?_ ?_ | refine Ze rfl ?_ ?_); · first | omega | rfl | assumption | (simp only [lmT]; omega)) | ((first | refine Zf rfl ?_ ?_ | refine Za rfl ?_ ?_); · first | omega | rfl | assumption | (simp only [lmT]; omega)) | refine Ri (Zt hm rfl rfl ?_) | exact Ri (Zj hm rfl rfl rfl (nbT rfl) rfl rfl))
 | refine Z1 rfl (tl hn rfl) ?_
 | (refine Zg hn rfl rfl rfl ?_; first
 | refine ⟨_, Zb rfl rfl (by omega) (by assumption), ?_⟩
 | refine ⟨_, Z4 rfl rfl (by omega), ?_⟩
 | refine ⟨_, Z7 rfl rfl (by omega), ?_⟩
          )
 | ((first | refine Zi rfl rfl rfl ?_ ?_ | refine Zh rfl rfl rfl ?_ ?_ | refine Zk rfl rfl rfl ?_ ?_ | refine Zl rfl rfl rfl ?_ ?_) <;> intro h <;> try (exfalso; first | omega | contradiction | (simp only [lmT] at h; omega))))
      all_goals exact Xx rfl
  · rw [lim_out hx]
    repeat' (first
 | refine Rk Zu hn rfl ?_
 | refine Rl ?_
 | refine Zc 30 rfl ?_
 | (refine Zg hn rfl rfl rfl ?_; first
 | refine ⟨_, Zw (V8 _ _) rfl, ?_⟩)
 | (refine Rj 30 rfl ?_; first | refine Zp rfl ?_ | ((first | refine Zd rfl ?_ ?_ | refine Ze rfl ?_ ?_); · first | omega | rfl | assumption | (simp only [lmT]; omega)) | ((first | refine Zf rfl ?_ ?_ | refine Za rfl ?_ ?_); · first | omega | rfl | assumption | (simp only [lmT]; omega)) | refine Ri (Zt hm rfl rfl ?_) | exact Ri (Zj hm rfl rfl rfl (nbT rfl) rfl rfl))
 | refine Z1 rfl (tl hn rfl) ?_
 | (refine Zg hn rfl rfl rfl ?_; first
 | refine ⟨_, Zb rfl rfl (by omega) (by assumption), ?_⟩
 | refine ⟨_, Z4 rfl rfl (by omega), ?_⟩
 | refine ⟨_, Z7 rfl rfl (by omega), ?_⟩
        )
 | ((first | refine Zi rfl rfl rfl ?_ ?_ | refine Zh rfl rfl rfl ?_ ?_ | refine Zk rfl rfl rfl ?_ ?_ | refine Zl rfl rfl rfl ?_ ?_) <;> intro h <;> try (exfalso; first | omega | contradiction | (simp only [lmT] at h; omega))))
    all_goals exact Xx rfl
def Plain (r : Rul) (a b c d : Bool) (k : Int) : Prop := (a = true ∨ r.size = 0) ∧ (b = true ∨ r.bytes.length = 0) ∧ (c = true ∨ r.names.length = 0) ∧ (d = true ∨ r.tags.length = 0) ∧ (k < 0 ∨ (r.kids.length : Int) = k)
def Shape (r : Rul) (a b c d : Bool) (k : Int) : Prop := Plain r a b c d k ∧ (r.little = false ∨ r.kind = 1)
noncomputable instance (r : Rul) (a b c d : Bool) (k : Int) : Decidable (Plain r a b c d k) := Classical.propDecidable _
noncomputable instance (r : Rul) (a b c d : Bool) (k : Int) : Decidable (Shape r a b c d k) := Classical.propDecidable _
set_option maxHeartbeats 4000000 in
theorem Ld (r : Rul) (k : Int) : ACv Try.prog 182 [.agg (Ws r), .bool true, .bool false, .bool false, .bool false, .int k] (.bool (decide (Plain r true false false false k))) := by
  refine Yh Try.func182 rfl _ Try.ntmps182 (by simp) fun C hn hm => ?_
  repeat' (first
 | refine Rk Zu hn rfl ?_
 | refine Rl ?_
 | refine Zc 30 rfl ?_
 | (refine Rj 30 rfl ?_; first | ((first | refine Zd rfl ?_ ?_ | refine Ze rfl ?_ ?_); · first | omega | rfl | assumption | (simp only [lmT]; omega)) | ((first | refine Zf rfl ?_ ?_ | refine Za rfl ?_ ?_); · first | omega | rfl | assumption | (simp only [lmT]; omega)) | refine Ri (Zt hm rfl rfl ?_) | exact Ri (Zj hm rfl rfl rfl (nbT rfl) rfl rfl))
 | refine Z1 rfl (tl hn rfl) ?_
 | ((first | refine Zi rfl rfl rfl ?_ ?_ | refine Zh rfl rfl rfl ?_ ?_ | refine Zk rfl rfl rfl ?_ ?_ | refine Zl rfl rfl rfl ?_ ?_) <;> intro h <;> try (exfalso; first | omega | contradiction | (simp only [lmT] at h; omega))))
  all_goals exact Yf (by rw [Bool.eq_iff_iff]; simp only [decide_eq_true_eq, Bool.not_eq_true', decide_eq_false_iff_not, Bool.false_eq_true, true_iff, false_iff, Bool.and_eq_true, Bool.or_eq_true, Bool.not_eq_eq_eq_not, Bool.not_true, Bool.not_false, reduceCtorEq, eq_self, iff_true, iff_false, ne_eq]; simp only [Plain, lmT, true_or, false_or, true_and, reduceCtorEq, Bool.false_eq_true, Bool.true_eq_false] at *; first | (simp [*]; done) | (simp [*]; omega) | omega)
set_option maxHeartbeats 4000000 in
theorem Qr (r : Rul) (k : Int) : ACv Try.prog 182 [.agg (Ws r), .bool false, .bool true, .bool false, .bool false, .int k] (.bool (decide (Plain r false true false false k))) := by
  refine Yh Try.func182 rfl _ Try.ntmps182 (by simp) fun C hn hm => ?_
  repeat' (first
 | refine Rk Zu hn rfl ?_
 | refine Rl ?_
 | refine Zc 30 rfl ?_
 | (refine Rj 30 rfl ?_; first | ((first | refine Zd rfl ?_ ?_ | refine Ze rfl ?_ ?_); · first | omega | rfl | assumption | (simp only [lmT]; omega)) | ((first | refine Zf rfl ?_ ?_ | refine Za rfl ?_ ?_); · first | omega | rfl | assumption | (simp only [lmT]; omega)) | refine Ri (Zt hm rfl rfl ?_) | exact Ri (Zj hm rfl rfl rfl (nbT rfl) rfl rfl))
 | refine Z1 rfl (tl hn rfl) ?_
 | ((first | refine Zi rfl rfl rfl ?_ ?_ | refine Zh rfl rfl rfl ?_ ?_ | refine Zk rfl rfl rfl ?_ ?_ | refine Zl rfl rfl rfl ?_ ?_) <;> intro h <;> try (exfalso; first | omega | contradiction | (simp only [lmT] at h; omega))))
  all_goals exact Yf (by rw [Bool.eq_iff_iff]; simp only [decide_eq_true_eq, Bool.not_eq_true', decide_eq_false_iff_not, Bool.false_eq_true, true_iff, false_iff, Bool.and_eq_true, Bool.or_eq_true, Bool.not_eq_eq_eq_not, Bool.not_true, Bool.not_false, reduceCtorEq, eq_self, iff_true, iff_false, ne_eq]; simp only [Plain, lmT, true_or, false_or, true_and, reduceCtorEq, Bool.false_eq_true, Bool.true_eq_false] at *; first | (simp [*]; done) | (simp [*]; omega) | omega)
set_option maxHeartbeats 4000000 in
theorem Bd (r : Rul) (k : Int) : ACv Try.prog 182 [.agg (Ws r), .bool false, .bool false, .bool true, .bool false, .int k] (.bool (decide (Plain r false false true false k))) := by
  refine Yh Try.func182 rfl _ Try.ntmps182 (by simp) fun C hn hm => ?_
  repeat' (first
 | refine Rk Zu hn rfl ?_
 | refine Rl ?_
 | refine Zc 30 rfl ?_
 | (refine Rj 30 rfl ?_; first | ((first | refine Zd rfl ?_ ?_ | refine Ze rfl ?_ ?_); · first | omega | rfl | assumption | (simp only [lmT]; omega)) | ((first | refine Zf rfl ?_ ?_ | refine Za rfl ?_ ?_); · first | omega | rfl | assumption | (simp only [lmT]; omega)) | refine Ri (Zt hm rfl rfl ?_) | exact Ri (Zj hm rfl rfl rfl (nbT rfl) rfl rfl))
 | refine Z1 rfl (tl hn rfl) ?_
 | ((first | refine Zi rfl rfl rfl ?_ ?_ | refine Zh rfl rfl rfl ?_ ?_ | refine Zk rfl rfl rfl ?_ ?_ | refine Zl rfl rfl rfl ?_ ?_) <;> intro h <;> try (exfalso; first | omega | contradiction | (simp only [lmT] at h; omega))))
  all_goals exact Yf (by rw [Bool.eq_iff_iff]; simp only [decide_eq_true_eq, Bool.not_eq_true', decide_eq_false_iff_not, Bool.false_eq_true, true_iff, false_iff, Bool.and_eq_true, Bool.or_eq_true, Bool.not_eq_eq_eq_not, Bool.not_true, Bool.not_false, reduceCtorEq, eq_self, iff_true, iff_false, ne_eq]; simp only [Plain, lmT, true_or, false_or, true_and, reduceCtorEq, Bool.false_eq_true, Bool.true_eq_false] at *; first | (simp [*]; done) | (simp [*]; omega) | omega)
set_option maxHeartbeats 4000000 in
theorem Bc (r : Rul) (k : Int) : ACv Try.prog 182 [.agg (Ws r), .bool false, .bool false, .bool false, .bool true, .int k] (.bool (decide (Plain r false false false true k))) := by
  refine Yh Try.func182 rfl _ Try.ntmps182 (by simp) fun C hn hm => ?_
  repeat' (first
 | refine Rk Zu hn rfl ?_
 | refine Rl ?_
 | refine Zc 30 rfl ?_
 | (refine Rj 30 rfl ?_; first | ((first | refine Zd rfl ?_ ?_ | refine Ze rfl ?_ ?_); · first | omega | rfl | assumption | (simp only [lmT]; omega)) | ((first | refine Zf rfl ?_ ?_ | refine Za rfl ?_ ?_); · first | omega | rfl | assumption | (simp only [lmT]; omega)) | refine Ri (Zt hm rfl rfl ?_) | exact Ri (Zj hm rfl rfl rfl (nbT rfl) rfl rfl))
 | refine Z1 rfl (tl hn rfl) ?_
 | ((first | refine Zi rfl rfl rfl ?_ ?_ | refine Zh rfl rfl rfl ?_ ?_ | refine Zk rfl rfl rfl ?_ ?_ | refine Zl rfl rfl rfl ?_ ?_) <;> intro h <;> try (exfalso; first | omega | contradiction | (simp only [lmT] at h; omega))))
  all_goals exact Yf (by rw [Bool.eq_iff_iff]; simp only [decide_eq_true_eq, Bool.not_eq_true', decide_eq_false_iff_not, Bool.false_eq_true, true_iff, false_iff, Bool.and_eq_true, Bool.or_eq_true, Bool.not_eq_eq_eq_not, Bool.not_true, Bool.not_false, reduceCtorEq, eq_self, iff_true, iff_false, ne_eq]; simp only [Plain, lmT, true_or, false_or, true_and, reduceCtorEq, Bool.false_eq_true, Bool.true_eq_false] at *; first | (simp [*]; done) | (simp [*]; omega) | omega)
set_option maxHeartbeats 4000000 in
theorem Wp (r : Rul) (k : Int) : ACv Try.prog 182 [.agg (Ws r), .bool false, .bool false, .bool false, .bool false, .int k] (.bool (decide (Plain r false false false false k))) := by
  refine Yh Try.func182 rfl _ Try.ntmps182 (by simp) fun C hn hm => ?_
  repeat' (first
 | refine Rk Zu hn rfl ?_
 | refine Rl ?_
 | refine Zc 30 rfl ?_
 | (refine Rj 30 rfl ?_; first | ((first | refine Zd rfl ?_ ?_ | refine Ze rfl ?_ ?_); · first | omega | rfl | assumption | (simp only [lmT]; omega)) | ((first | refine Zf rfl ?_ ?_ | refine Za rfl ?_ ?_); · first | omega | rfl | assumption | (simp only [lmT]; omega)) | refine Ri (Zt hm rfl rfl ?_) | exact Ri (Zj hm rfl rfl rfl (nbT rfl) rfl rfl))
 | refine Z1 rfl (tl hn rfl) ?_
 | ((first | refine Zi rfl rfl rfl ?_ ?_ | refine Zh rfl rfl rfl ?_ ?_ | refine Zk rfl rfl rfl ?_ ?_ | refine Zl rfl rfl rfl ?_ ?_) <;> intro h <;> try (exfalso; first | omega | contradiction | (simp only [lmT] at h; omega))))
  all_goals exact Yf (by rw [Bool.eq_iff_iff]; simp only [decide_eq_true_eq, Bool.not_eq_true', decide_eq_false_iff_not, Bool.false_eq_true, true_iff, false_iff, Bool.and_eq_true, Bool.or_eq_true, Bool.not_eq_eq_eq_not, Bool.not_true, Bool.not_false, reduceCtorEq, eq_self, iff_true, iff_false, ne_eq]; simp only [Plain, lmT, true_or, false_or, true_and, reduceCtorEq, Bool.false_eq_true, Bool.true_eq_false] at *; first | (simp [*]; done) | (simp [*]; omega) | omega)
def B9 (l : List ByteArray) : Prop := 1 ≤ l.length ∧ l.length ≤ 8 ∧ ∀ (i : Nat) x, l[i]? = some x → IsNm x ∧ x ∉ l.take i
noncomputable instance (l : List ByteArray) : Decidable (B9 l) := Classical.propDecidable _
def Ds (d : Des) (r : Rul) : Prop := r.kids.length = r.tags.length + 1 ∧ 1 ≤ r.tags.length ∧ r.tags.length ≤ 8 ∧ ∀ (i : Nat) z, r.tags[i]? = some z → 0 ≤ z ∧ z ≤ lim d (r.kids.headD 0) ∧ ∀ y, 0 < i → r.tags[i - 1]? = some y → y < z
noncomputable instance (d : Des) (r : Rul) : Decidable (Ds d r) := Classical.propDecidable _
def Va (d : Des) (r : Rul) : Prop :=
  (r.kind = 1 ∧ Shape r true false false false 0 ∧ InR r.size 1 4 ∧ (r.little = false ∨ 1 < r.size)) ∨
  (r.kind = 2 ∧ Shape r false true false false 0 ∧ InR r.bytes.length 1 16) ∨
  (r.kind = 3 ∧ Shape r true false false false 0 ∧ InR r.size 1 64) ∨
  (r.kind = 4 ∧ Shape r false false false false 1 ∧ 0 < lim d (r.kids.headD 0)) ∨
  (r.kind = 5 ∧ Shape r false false false false 2 ∧ 0 < lim d (r.kids.headD 0)) ∨
  (r.kind = 6 ∧ Shape r false false true false r.names.length ∧ B9 r.names) ∨
  (r.kind = 7 ∧ Shape r false false false true (-1) ∧ Ds d r) ∨
  ((r.kind = 8 ∨ r.kind = 9) ∧ Shape r false false false false 1) ∨
  (r.kind = 10 ∧ Shape r false true false false 0 ∧ r.bytes.length = 1 ∧ r.bytes.headD 0 ≠ 92)
noncomputable instance (d : Des) (r : Rul) : Decidable (Va d r) := Classical.propDecidable _
theorem Bo {l : List Int} (h : 0 < l.length) : l[(0 : Int).toNat]? = some (l.headD 0) := by cases l <;> simp_all
theorem headB_at {l : List UInt8} (h : 0 < l.length) : l[(0 : Int).toNat]? = some (l.headD 0) := by cases l <;> simp_all
theorem Shape.kids {r : Rul} {a b c d : Bool} {k : Int} (h : Shape r a b c d k) (hk : 0 ≤ k) : (r.kids.length : Int) = k := by
  have := h.1.2.2.2.2; omega
def RuleOk (d : Des) (n : Nat) (r : Rul) : Prop := (∀ (k : Nat) x, k < n → d[k]? = some x → ¬ x.name = r.name) ∧ (∀ (k : Nat) z, r.kids[k]? = some z → 0 ≤ z ∧ z < n) ∧ IsNm r.name ∧ Va d r
def Ku (d : Des) (i : Int) : Prop := 0 ≤ i ∧ ∃ r, d[i.toNat]? = some r ∧ RuleOk d i.toNat r
noncomputable instance (d : Des) (i : Int) : Decidable (Ku d i) := Classical.propDecidable _
theorem Ex {d : Des} {i : Int} {r : Rul} (h0 : 0 ≤ i) (h : d[i.toNat]? = some r) : Ku d i ↔ RuleOk d i.toNat r :=
  ⟨fun ⟨_, r', h1, h2⟩ => by rw [h] at h1; injection h1 with h1; subst h1; exact h2, fun h2 => ⟨h0, r, h, h2⟩⟩
def Ut (d : Des) : Prop := 1 ≤ d.length ∧ d.length ≤ 24 ∧ ∀ j : Nat, j < d.length → Ku d j
noncomputable instance (d : Des) : Decidable (Ut d) := Classical.propDecidable _
theorem lim_ge (d : Des) (i : Int) : lim d i = -1 ∨ 255 ≤ lim d i := by
  unfold lim
  split
  · rename_i r _
    split
    · have := N1 (s := r.size); omega
    · exact .inl rfl
  · exact .inl rfl
def V5 (d : Des) (r : Rul) : Prop := Plain r false false false true ((r.tags.length : Int) + 1) ∧ Ds d r
noncomputable instance (d : Des) (r : Rul) : Decidable (V5 d r) := Classical.propDecidable _
set_option maxHeartbeats 4000000 in
theorem Eb (d : Des) (r : Rul) (hl : d.length ≤ maxLen) (ht : r.tags.length ≤ 1048576) : ACv Try.prog 184 [W1 d, .agg (Ws r)] (.bool (decide (V5 d r))) := by
  have hlm : (r.tags.map fun z => [RV.int z]).length = r.tags.length := lmT ..
  have hpl := Bc r ((r.tags.length : Int) + 1)
  refine Yh Try.func184 rfl _ Try.ntmps184 (by simp) fun C hn hm => ?_
  by_cases hP : Plain r false false false true ((r.tags.length : Int) + 1)
  · by_cases h8 : InR r.tags.length 1 8
    · have hkl : r.kids.length = r.tags.length + 1 := by have := hP.2.2.2.2; omega
      have hk0 := Bo (l := r.kids) (by omega)
      have hlim := Qh d (r.kids.headD 0) hl
      have hge := lim_ge d (r.kids.headD 0)
      repeat' (first
 | refine Rk Zu hn rfl ?_
 | refine Rl ?_
 | refine Zc 30 rfl ?_
 | ((first | refine Zg hn rfl rfl rfl ?_ | refine Zm rfl rfl ?_); first
 | refine ⟨_, Zx rfl rfl (by simp only [lmT]; omega), ?_⟩
 | refine ⟨_, Zw hpl (by simp [ev, look, Ws]), ?_⟩
 | refine ⟨_, Zw (Yx _ _ _) rfl, ?_⟩
 | refine ⟨_, Zw hlim rfl, ?_⟩)
 | (refine Rj 30 rfl ?_; first | refine Zp rfl ?_ | refine Zz rfl ?_ | ((first | refine Zd rfl ?_ ?_ | refine Ze rfl ?_ ?_); · first | omega | rfl | assumption | (simp only [lmT]; omega)) | ((first | refine Zf rfl ?_ ?_ | refine Za rfl ?_ ?_); · first | omega | rfl | assumption | (simp only [lmT]; omega)) | refine Z9 rfl (fun h => ?_) (fun h => ?_) | refine Ri (Zt hm rfl rfl ?_) | exact Ri (Zj hm rfl rfl rfl (nbT rfl) rfl rfl))
 | refine Z1 rfl (tl hn rfl) ?_
 | refine Rm Zu hn rfl rfl ?_
 | refine Rn ?_
 | refine Z2 30 Ym hn rfl (by kernel_rfl) rfl ?_
 | ((first | refine Zg hn rfl rfl rfl ?_ | refine Zm rfl rfl ?_); first
 | refine ⟨_, Zx rfl rfl (by omega), ?_⟩
 | refine ⟨_, Zb rfl rfl (by omega) (by assumption), ?_⟩
 | refine ⟨_, Z4 rfl rfl (by omega), ?_⟩
 | refine ⟨_, Zv rfl rfl rfl, ?_⟩
 | refine ⟨_, Z7 rfl rfl (by omega), ?_⟩
 | refine ⟨_, Zr rfl rfl rfl rfl rfl rfl, ?_⟩)
 | ((first | refine Zi rfl rfl rfl ?_ ?_ | refine Zh rfl rfl rfl ?_ ?_ | refine Zk rfl rfl rfl ?_ ?_ | refine Zl rfl rfl rfl ?_ ?_ | refine Zo rfl rfl rfl ?_ ?_ | refine Zn rfl rfl rfl ?_ ?_ | refine Zq rfl rfl rfl ?_ ?_ | refine Zs rfl rfl rfl ?_ ?_) <;> intro h <;> try (exfalso; first | omega | contradiction | (simp only [lmT] at h; omega))))
      refine Du 30 rfl (fun j => [(29, .ro (Xc r.tags)), (30, .int (r.tags.length : Int)), (3, .obj 1 0), (5, .int (lim d (r.kids.headD 0))), (31, .int (j : Int))]) (fun _ => [⟨38, 0, [.ro (X4 d)]⟩, ⟨52, 0, [.str r.name, .int r.kind, .int r.size, .bool r.little, .ro (Yz r.bytes), .ro (U1 r.names), .ro (Xc r.tags), .ro (Xc r.kids)]⟩]) (fun j => ⟨by simp [Free, AV.only], by simp [FreeO, AV.onlys, AV.only]⟩) (fun j => ∀ (i : Nat) z, i < j → r.tags[i]? = some z → 0 ≤ z ∧ z ≤ lim d (r.kids.headD 0) ∧ ∀ y, 0 < i → r.tags[i - 1]? = some y → y < z) r.tags.length 0 (Nat.zero_le _) (fun i x h => absurd h (by omega)) ⟨rfl, by simp [look], rfl, rfl, rfl, trivial⟩ rfl fun j hj hQ next => ?_
      by_cases hlt : j < r.tags.length
      · obtain ⟨x, hx⟩ : ∃ x, r.tags[(j : Int).toNat]? = some x := ⟨_, P9 hlt⟩
        have hx' : r.tags[j]? = some x := hx
        obtain ⟨y, hy⟩ : ∃ y, r.tags[((j : Int) - 1).toNat]? = some y := ⟨_, P9 (by omega)⟩
        have hy' : 0 < j → r.tags[j - 1]? = some y := fun h => by rw [← hy]; congr 1; omega
        repeat' (first
 | refine Rk Zu hn rfl ?_
 | refine Rl ?_
 | refine Zc 30 rfl ?_
 | ((first | refine Zg hn rfl rfl rfl ?_ | refine Zm rfl rfl ?_); first
 | refine ⟨_, Zw (Yx _ _ _) rfl, ?_⟩)
 | (refine Rj 30 rfl ?_; first | refine Zp rfl ?_ | refine Zz rfl ?_ | ((first | refine Zd rfl ?_ ?_ | refine Ze rfl ?_ ?_); · first | omega | rfl | assumption | (simp only [lmT]; omega)) | ((first | refine Zf rfl ?_ ?_ | refine Za rfl ?_ ?_); · first | omega | rfl | assumption | (simp only [lmT]; omega)) | refine Z9 rfl (fun h => ?_) (fun h => ?_) | refine Ri (Zt hm rfl rfl ?_) | exact Ri (Zj hm rfl rfl rfl (nbT rfl) rfl rfl))
 | refine Z1 rfl (tl hn rfl) ?_
 | refine Rm Zu hn rfl rfl ?_
 | refine Rn ?_
 | refine Z2 30 Ym hn rfl (by kernel_rfl) rfl ?_
 | ((first | refine Zg hn rfl rfl rfl ?_ | refine Zm rfl rfl ?_); first
 | refine ⟨_, Zx rfl rfl (by omega), ?_⟩
 | refine ⟨_, Zb rfl rfl (by omega) (by assumption), ?_⟩
 | refine ⟨_, Z4 rfl rfl (by omega), ?_⟩
 | refine ⟨_, Zv rfl rfl rfl, ?_⟩
 | refine ⟨_, Z7 rfl rfl (by omega), ?_⟩
 | refine ⟨_, Zr rfl rfl rfl rfl rfl rfl, ?_⟩)
 | ((first | refine Zi rfl rfl rfl ?_ ?_ | refine Zh rfl rfl rfl ?_ ?_ | refine Zk rfl rfl rfl ?_ ?_ | refine Zl rfl rfl rfl ?_ ?_ | refine Zo rfl rfl rfl ?_ ?_ | refine Zn rfl rfl rfl ?_ ?_ | refine Zq rfl rfl rfl ?_ ?_ | refine Zs rfl rfl rfl ?_ ?_) <;> intro h <;> try (exfalso; first | omega | contradiction | (simp only [lmT] at h; omega))))
        all_goals first
          | exact Yf (decide_eq_false (p := V5 d r) fun hN => by
              obtain ⟨n1, n2, n3⟩ := hN.2.2.2.2 j x hx'
              first | omega | (have := n3 y (by omega) (hy' (by omega)); omega)).symm
          | (refine next _ _ [] ⟨rfl, rfl, rfl, rfl, rfl, trivial⟩ hlt (fun i z hi hz => ?_) rfl
             by_cases e : i = j
             · subst e; rw [hx'] at hz; injection hz with hz; subst hz
               refine ⟨by omega, by omega, fun u hu hu' => ?_⟩
               rw [hy' hu] at hu'; injection hu' with hu'; subst hu'; omega
             · exact hQ i z (by omega) hz)
      · repeat' (first
 | refine Rk Zu hn rfl ?_
 | refine Rl ?_
 | refine Zc 30 rfl ?_
 | (refine Rj 30 rfl ?_; first | refine Zp rfl ?_ | refine Zz rfl ?_ | ((first | refine Zd rfl ?_ ?_ | refine Ze rfl ?_ ?_); · first | omega | rfl | assumption | (simp only [lmT]; omega)) | ((first | refine Zf rfl ?_ ?_ | refine Za rfl ?_ ?_); · first | omega | rfl | assumption | (simp only [lmT]; omega)) | refine Z9 rfl (fun h => ?_) (fun h => ?_) | refine Ri (Zt hm rfl rfl ?_) | exact Ri (Zj hm rfl rfl rfl (nbT rfl) rfl rfl))
 | refine Z1 rfl (tl hn rfl) ?_
 | refine Rm Zu hn rfl rfl ?_
 | refine Rn ?_
 | refine Z2 30 Ym hn rfl (by kernel_rfl) rfl ?_
 | ((first | refine Zg hn rfl rfl rfl ?_ | refine Zm rfl rfl ?_); first
 | refine ⟨_, Zx rfl rfl (by omega), ?_⟩
 | refine ⟨_, Zb rfl rfl (by omega) (by assumption), ?_⟩
 | refine ⟨_, Z4 rfl rfl (by omega), ?_⟩
 | refine ⟨_, Zv rfl rfl rfl, ?_⟩
 | refine ⟨_, Z7 rfl rfl (by omega), ?_⟩
 | refine ⟨_, Zr rfl rfl rfl rfl rfl rfl, ?_⟩)
 | ((first | refine Zi rfl rfl rfl ?_ ?_ | refine Zh rfl rfl rfl ?_ ?_ | refine Zk rfl rfl rfl ?_ ?_ | refine Zl rfl rfl rfl ?_ ?_ | refine Zo rfl rfl rfl ?_ ?_ | refine Zn rfl rfl rfl ?_ ?_ | refine Zq rfl rfl rfl ?_ ?_ | refine Zs rfl rfl rfl ?_ ?_) <;> intro h <;> try (exfalso; first | omega | contradiction | (simp only [lmT] at h; omega))))
        obtain ⟨z0, hz0⟩ : ∃ z, r.tags[0]? = some z := ⟨_, P9 (by omega)⟩
        have hz := hQ 0 z0 (by omega) hz0
        exact Yf (by rw [decide_eq_true (p := V5 d r) ⟨hP, hkl, by omega, by omega, fun i z hz => hQ i z (by have := (P8.1 hz).1; omega) hz⟩]; exact decide_eq_true (by omega))
    · repeat' (first
 | refine Rk Zu hn rfl ?_
 | refine Rl ?_
 | refine Zc 30 rfl ?_
 | ((first | refine Zg hn rfl rfl rfl ?_ | refine Zm rfl rfl ?_); first
 | refine ⟨_, Zx rfl rfl (by simp only [lmT]; omega), ?_⟩
 | refine ⟨_, Zw hpl (by simp [ev, look, Ws]), ?_⟩
 | refine ⟨_, Zw (Yx _ _ _) rfl, ?_⟩)
 | (refine Rj 30 rfl ?_; first | refine Zp rfl ?_ | refine Zz rfl ?_ | ((first | refine Zd rfl ?_ ?_ | refine Ze rfl ?_ ?_); · first | omega | rfl | assumption | (simp only [lmT]; omega)) | ((first | refine Zf rfl ?_ ?_ | refine Za rfl ?_ ?_); · first | omega | rfl | assumption | (simp only [lmT]; omega)) | refine Z9 rfl (fun h => ?_) (fun h => ?_) | refine Ri (Zt hm rfl rfl ?_) | exact Ri (Zj hm rfl rfl rfl (nbT rfl) rfl rfl))
 | refine Z1 rfl (tl hn rfl) ?_
 | refine Rm Zu hn rfl rfl ?_
 | refine Rn ?_
 | refine Z2 30 Ym hn rfl (by kernel_rfl) rfl ?_
 | ((first | refine Zg hn rfl rfl rfl ?_ | refine Zm rfl rfl ?_); first
 | refine ⟨_, Zx rfl rfl (by omega), ?_⟩
 | refine ⟨_, Zb rfl rfl (by omega) (by assumption), ?_⟩
 | refine ⟨_, Z4 rfl rfl (by omega), ?_⟩
 | refine ⟨_, Zv rfl rfl rfl, ?_⟩
 | refine ⟨_, Z7 rfl rfl (by omega), ?_⟩
 | refine ⟨_, Zr rfl rfl rfl rfl rfl rfl, ?_⟩)
 | ((first | refine Zi rfl rfl rfl ?_ ?_ | refine Zh rfl rfl rfl ?_ ?_ | refine Zk rfl rfl rfl ?_ ?_ | refine Zl rfl rfl rfl ?_ ?_ | refine Zo rfl rfl rfl ?_ ?_ | refine Zn rfl rfl rfl ?_ ?_ | refine Zq rfl rfl rfl ?_ ?_ | refine Zs rfl rfl rfl ?_ ?_) <;> intro h <;> try (exfalso; first | omega | contradiction | (simp only [lmT] at h; omega))))
      all_goals exact Yf (decide_eq_false (p := V5 d r) fun hN => h8 ⟨by have := hN.2.2.1; omega, by have := hN.2.2.2.1; omega⟩).symm
  · repeat' (first
 | refine Rk Zu hn rfl ?_
 | refine Rl ?_
 | refine Zc 30 rfl ?_
 | ((first | refine Zg hn rfl rfl rfl ?_ | refine Zm rfl rfl ?_); first
 | refine ⟨_, Zx rfl rfl (by simp only [lmT]; omega), ?_⟩
 | refine ⟨_, Zw hpl (by simp [ev, look, Ws]), ?_⟩
 | refine ⟨_, Zw (Yx _ _ _) rfl, ?_⟩)
 | (refine Rj 30 rfl ?_; first | refine Zp rfl ?_ | refine Zz rfl ?_ | ((first | refine Zd rfl ?_ ?_ | refine Ze rfl ?_ ?_); · first | omega | rfl | assumption | (simp only [lmT]; omega)) | ((first | refine Zf rfl ?_ ?_ | refine Za rfl ?_ ?_); · first | omega | rfl | assumption | (simp only [lmT]; omega)) | refine Z9 rfl (fun h => ?_) (fun h => ?_) | refine Ri (Zt hm rfl rfl ?_) | exact Ri (Zj hm rfl rfl rfl (nbT rfl) rfl rfl))
 | refine Z1 rfl (tl hn rfl) ?_
 | refine Rm Zu hn rfl rfl ?_
 | refine Rn ?_
 | refine Z2 30 Ym hn rfl (by kernel_rfl) rfl ?_
 | ((first | refine Zg hn rfl rfl rfl ?_ | refine Zm rfl rfl ?_); first
 | refine ⟨_, Zx rfl rfl (by omega), ?_⟩
 | refine ⟨_, Zb rfl rfl (by omega) (by assumption), ?_⟩
 | refine ⟨_, Z4 rfl rfl (by omega), ?_⟩
 | refine ⟨_, Zv rfl rfl rfl, ?_⟩
 | refine ⟨_, Z7 rfl rfl (by omega), ?_⟩
 | refine ⟨_, Zr rfl rfl rfl rfl rfl rfl, ?_⟩)
 | ((first | refine Zi rfl rfl rfl ?_ ?_ | refine Zh rfl rfl rfl ?_ ?_ | refine Zk rfl rfl rfl ?_ ?_ | refine Zl rfl rfl rfl ?_ ?_ | refine Zo rfl rfl rfl ?_ ?_ | refine Zn rfl rfl rfl ?_ ?_ | refine Zq rfl rfl rfl ?_ ?_ | refine Zs rfl rfl rfl ?_ ?_) <;> intro h <;> try (exfalso; first | omega | contradiction | (simp only [lmT] at h; omega))))
    all_goals exact Yf (decide_eq_false (p := V5 d r) fun hN => hP hN.1).symm
theorem Pv {n : Nat} {a b c : World} {g : Nat} (h : Below n a b) (hg : n ≤ g) (k : Below g b c) : Below n a c := h.trans (k.mono hg)
set_option maxHeartbeats 4000000 in
theorem Tq (s : ByteArray) (hs : s.size ≤ maxLen) : ACv Try.prog 161 [.str s] (.bool (decide (IsNm s))) := by
  unfold maxLen at hs
  refine Yh Try.func161 rfl _ Try.ntmps161 (by simp) fun C hn hm => ?_
  by_cases hsz : 1 ≤ s.size ∧ s.size ≤ 12
  · repeat' (first
 | refine Rk Zu hn rfl ?_
 | refine Rl ?_
 | refine Zc 30 rfl ?_
 | (refine Rj 30 rfl ?_; first | refine Zp rfl ?_ | refine Zz rfl ?_ | ((first | refine Zd rfl ?_ ?_ | refine Ze rfl ?_ ?_); · first | omega | rfl | assumption | (simp only [lmT]; omega)) | ((first | refine Zf rfl ?_ ?_ | refine Za rfl ?_ ?_); · first | omega | rfl | assumption | (simp only [lmT]; omega)) | refine Z9 rfl (fun h => ?_) (fun h => ?_) | refine Ri (Zt hm rfl rfl ?_) | exact Ri (Zj hm rfl rfl rfl (nbT rfl) rfl rfl))
 | ((first | refine Zi rfl rfl rfl ?_ ?_ | refine Zh rfl rfl rfl ?_ ?_ | refine Zk rfl rfl rfl ?_ ?_ | refine Zl rfl rfl rfl ?_ ?_) <;> intro h <;> try (exfalso; first | omega | contradiction | (simp only [lmT] at h; omega))))
    refine op_rangeS rfl (Nat.lt_of_lt_of_eq (nbT rfl) hn.symm) (by simp [CEnv, cst, Wt]) hm fun C1 g hn1 hm1 hg hgt hB => Rl ?_
    refine Rj 30 rfl (Runs.keep [(16, .ro (.c (.pointer (some ⟨g, 0, none⟩))))] ⟨rfl, trivial⟩ ?_)
    refine P1 (fun n C' S => ∃ j, j + n = s.size ∧ C'.n = 43 ∧ (∀ b, ¬ C'.mu b) ∧ C'.w0.heap[g]? = some (.stringIter s j) ∧ Below C.w0.heap.size C.w0 C'.w0 ∧ S = ⟨[(16, .ro (.c (.pointer (some ⟨g, 0, none⟩))))], []⟩ ∧ ∀ (i : Nat) c, i < j → s[i]? = some c → NameC c i) ?_ s.size C1 _ ⟨0, by omega, hn1.trans hn, hm1, hg, hB, rfl, fun i c h => absurd h (by omega)⟩
    rintro n C2 S ⟨j, hj, hn, hm, hg, hB, rfl, hQ⟩ ih
    by_cases hlt : j < s.size
    · obtain ⟨x, hx⟩ : ∃ x, s[j]? = some x := ⟨_, getElem?_pos s j hlt⟩
      have hxe : s[j]'hlt = x := by rw [getElem?_pos s j hlt] at hx; injection hx
      obtain ⟨c, wd, hdec⟩ : ∃ c wd, Utf8.decode s j = (c, wd) := ⟨_, _, rfl⟩
      have h1 : x.toNat < 128 → c = x.toNat ∧ wd = 1 := fun h => by
        have := decode_ascii s j hlt (by rw [hxe]; exact h)
        rw [hdec, hxe] at this; injection this with e1 e2; exact ⟨e1, e2⟩
      have h2 : 128 ≤ x.toNat → 128 ≤ c := fun h => by
        have := Id s j hlt (by rw [hxe]; exact h)
        rwa [hdec] at this
      refine Zc 30 rfl (op_nextS rfl hg hlt (Nat.lt_of_lt_of_eq (nbT rfl) hn.symm) (by simp [CEnv, cst]) hm fun C3 hn3 hm3 hg3 hB3 => ?_)
      simp only [hdec] at hg3 ⊢
      have hn := hn3.trans hn
      have hB' := Pv hB hgt hB3
      repeat' (first
 | refine Rk Zu hn rfl ?_
 | refine Rl ?_
 | refine Zc 30 rfl ?_
 | refine Rj 30 rfl (Ri (endsB hB' hm3 rfl rfl ?_))
 | (refine Rj 30 rfl ?_; first | refine Zp rfl ?_ | refine Zz rfl ?_ | ((first | refine Zd rfl ?_ ?_ | refine Ze rfl ?_ ?_); · first | omega | rfl | assumption | (simp only [lmT]; omega)) | ((first | refine Zf rfl ?_ ?_ | refine Za rfl ?_ ?_); · first | omega | rfl | assumption | (simp only [lmT]; omega)) | refine Z9 rfl (fun h => ?_) (fun h => ?_) | refine Ri (Zt hm rfl rfl ?_) | exact Ri (Zj hm rfl rfl rfl (nbT rfl) rfl rfl))
 | ((first | refine Zi rfl rfl rfl ?_ ?_ | refine Zh rfl rfl rfl ?_ ?_ | refine Zk rfl rfl rfl ?_ ?_ | refine Zl rfl rfl rfl ?_ ?_) <;> intro h <;> try (exfalso; first | omega | contradiction | (simp only [lmT] at h; omega))))
      all_goals first
        | exact Yf (decide_eq_false (p := IsNm s) fun hN => by have := hN.2.2 j x hx; unfold NameC at this; omega).symm
        | (obtain ⟨e1, e2⟩ := h1 (by omega)
           refine Rj 30 rfl (Runs.keep [(16, .ro (.c (.pointer (some ⟨g, 0, none⟩))))] ⟨rfl, trivial⟩ (ih (n - 1) (by omega) C3 _ ⟨j + 1, by omega, hn, hm3, by rw [hg3, e2], hB', rfl, fun i c' hi hc => ?_⟩))
           by_cases e : i = j
           · subst e; rw [hx] at hc; injection hc with hc; subst hc; unfold NameC; omega
           · exact hQ i c' (by omega) hc)
    · refine Zc 30 rfl (Pd rfl hg hlt (Nat.lt_of_lt_of_eq (nbT rfl) hn.symm) hm ?_)
      repeat' (first
 | refine Rk Zu hn rfl ?_
 | refine Rl ?_
 | refine Zc 30 rfl ?_
 | refine Rj 30 rfl (Ri (endsB hB hm rfl rfl ?_))
 | (refine Rj 30 rfl ?_; first | refine Zp rfl ?_ | refine Zz rfl ?_ | ((first | refine Zd rfl ?_ ?_ | refine Ze rfl ?_ ?_); · first | omega | rfl | assumption | (simp only [lmT]; omega)) | ((first | refine Zf rfl ?_ ?_ | refine Za rfl ?_ ?_); · first | omega | rfl | assumption | (simp only [lmT]; omega)) | refine Z9 rfl (fun h => ?_) (fun h => ?_) | refine Ri (Zt hm rfl rfl ?_) | exact Ri (Zj hm rfl rfl rfl (nbT rfl) rfl rfl))
 | ((first | refine Zi rfl rfl rfl ?_ ?_ | refine Zh rfl rfl rfl ?_ ?_ | refine Zk rfl rfl rfl ?_ ?_ | refine Zl rfl rfl rfl ?_ ?_) <;> intro h <;> try (exfalso; first | omega | contradiction | (simp only [lmT] at h; omega))))
      exact Yf (decide_eq_true (p := IsNm s) ⟨hsz.1, hsz.2, fun i c hc => hQ i c (by have := str_lt hc; omega) hc⟩).symm
  · repeat' (first
 | refine Rk Zu hn rfl ?_
 | refine Rl ?_
 | refine Zc 30 rfl ?_
 | (refine Rj 30 rfl ?_; first | refine Zp rfl ?_ | refine Zz rfl ?_ | ((first | refine Zd rfl ?_ ?_ | refine Ze rfl ?_ ?_); · first | omega | rfl | assumption | (simp only [lmT]; omega)) | ((first | refine Zf rfl ?_ ?_ | refine Za rfl ?_ ?_); · first | omega | rfl | assumption | (simp only [lmT]; omega)) | refine Z9 rfl (fun h => ?_) (fun h => ?_) | refine Ri (Zt hm rfl rfl ?_) | exact Ri (Zj hm rfl rfl rfl (nbT rfl) rfl rfl))
 | ((first | refine Zi rfl rfl rfl ?_ ?_ | refine Zh rfl rfl rfl ?_ ?_ | refine Zk rfl rfl rfl ?_ ?_ | refine Zl rfl rfl rfl ?_ ?_) <;> intro h <;> try (exfalso; first | omega | contradiction | (simp only [lmT] at h; omega))))
    all_goals exact Yf (decide_eq_false (p := IsNm s) fun hN => hsz ⟨hN.1, hN.2.1⟩).symm
def Eh (r : Rul) : Prop := Plain r false false true false (-1) ∧ r.kids.length = r.names.length ∧ B9 r.names
noncomputable instance (r : Rul) : Decidable (Eh r) := Classical.propDecidable _
set_option maxHeartbeats 4000000 in
theorem Ms (r : Rul) (hl : r.names.length ≤ maxLen) (ho : ∀ s ∈ r.names, s.size ≤ maxLen) : ACv Try.prog 183 [.agg (Ws r)] (.bool (decide (Eh r))) := by
  have hlm : (r.names.map fun z => [RV.str z]).length = r.names.length := lmT ..
  have hpl := Bd r (-1)
  unfold maxLen at hl
  refine Yh Try.func183 rfl _ Try.ntmps183 (by simp) fun C hn hm => ?_
  by_cases hP : Plain r false false true false (-1)
  · by_cases h0 : r.kids.length = r.names.length ∧ 1 ≤ r.names.length ∧ r.names.length ≤ 8
    · repeat' (first
 | refine Rk Zu hn rfl ?_
 | refine Rl ?_
 | refine Zc 30 rfl ?_
 | (refine Zg hn rfl rfl rfl ?_; first
 | refine ⟨_, Zw hpl (by simp [ev, look, Ws]), ?_⟩
 | refine ⟨_, Zw (Yx _ _ _) rfl, ?_⟩)
 | (refine Rj 30 rfl ?_; first | refine Zp rfl ?_ | ((first | refine Zd rfl ?_ ?_ | refine Ze rfl ?_ ?_); · first | omega | rfl | assumption | (simp only [lmT]; omega)) | ((first | refine Zf rfl ?_ ?_ | refine Za rfl ?_ ?_); · first | omega | rfl | assumption | (simp only [lmT]; omega)) | refine Ye rfl (fun h => ?_) (fun h => ?_) | refine Ri (Zt hm rfl rfl ?_) | exact Ri (Zj hm rfl rfl rfl (nbT rfl) rfl rfl))
 | refine Z1 rfl (tl hn rfl) ?_
 | (refine Zg hn rfl rfl rfl ?_; first
 | refine ⟨_, Zx rfl rfl (by omega), ?_⟩
 | refine ⟨_, Zb rfl rfl (by omega) (by assumption), ?_⟩
        )
 | ((first | refine Zi rfl rfl rfl ?_ ?_ | refine Zh rfl rfl rfl ?_ ?_ | refine Zk rfl rfl rfl ?_ ?_ | refine Zl rfl rfl rfl ?_ ?_) <;> intro h <;> try (exfalso; first | omega | contradiction | (simp only [lmT] at h; omega))))
      refine Yw 30 rfl (fun j => [(25, .ro (U1 r.names)), (26, .int (r.names.length : Int)), (1, .obj 0 0), (27, .int (j : Int))]) (fun _ => [⟨52, 0, [.str r.name, .int r.kind, .int r.size, .bool r.little, .ro (Yz r.bytes), .ro (U1 r.names), .ro (Xc r.tags), .ro (Xc r.kids)]⟩]) (fun j => ∀ (i : Nat) x, i < j → r.names[i]? = some x → IsNm x ∧ x ∉ r.names.take i) r.names.length 0 (Nat.zero_le _) (fun i x h => absurd h (by omega)) ⟨rfl, by simp [look], rfl, rfl, trivial⟩ rfl fun j hj hQ next => ?_
      by_cases hlt : j < r.names.length
      · obtain ⟨x, hx⟩ : ∃ x, r.names[(j : Int).toNat]? = some x := ⟨_, P9 hlt⟩
        have hx' : r.names[j]? = some x := hx
        have hnm := Tq x (ho x (Re hx'))
        have hc := Ma (r.names.take j) x (by rw [List.length_take]; unfold maxLen; omega)
        by_cases h1 : IsNm x
        · by_cases h2 : x ∈ r.names.take j
          · repeat' (first
 | refine Rk Zu hn rfl ?_
 | refine Rl ?_
 | refine Zc 30 rfl ?_
 | (refine Zg hn rfl rfl rfl ?_; first
 | refine ⟨_, Zw hnm rfl, ?_⟩
 | refine ⟨_, Zw hc rfl, ?_⟩
 | refine ⟨_, Uc rfl rfl (by omega) (by omega), ?_⟩)
 | (refine Rj 30 rfl ?_; first | refine Zp rfl ?_ | ((first | refine Zd rfl ?_ ?_ | refine Ze rfl ?_ ?_); · first | omega | rfl | assumption | (simp only [lmT]; omega)) | ((first | refine Zf rfl ?_ ?_ | refine Za rfl ?_ ?_); · first | omega | rfl | assumption | (simp only [lmT]; omega)) | refine Ye rfl (fun h => ?_) (fun h => ?_) | refine Ri (Zt hm rfl rfl ?_) | exact Ri (Zj hm rfl rfl rfl (nbT rfl) rfl rfl))
 | refine Z1 rfl (tl hn rfl) ?_
 | (refine Zg hn rfl rfl rfl ?_; first
 | refine ⟨_, Zx rfl rfl (by omega), ?_⟩
 | refine ⟨_, Zb rfl rfl (by omega) (by assumption), ?_⟩
              )
 | ((first | refine Zi rfl rfl rfl ?_ ?_ | refine Zh rfl rfl rfl ?_ ?_ | refine Zk rfl rfl rfl ?_ ?_ | refine Zl rfl rfl rfl ?_ ?_) <;> intro h <;> try (exfalso; first | omega | contradiction | (simp only [lmT] at h; omega))))
            exact Yf (decide_eq_false (p := Eh r) fun hN => (hN.2.2.2.2 j x hx').2 h2).symm
          · repeat' (first
 | refine Rk Zu hn rfl ?_
 | refine Rl ?_
 | refine Zc 30 rfl ?_
 | (refine Zg hn rfl rfl rfl ?_; first
 | refine ⟨_, Zw hnm rfl, ?_⟩
 | refine ⟨_, Zw hc rfl, ?_⟩
 | refine ⟨_, Uc rfl rfl (by omega) (by omega), ?_⟩)
 | (refine Rj 30 rfl ?_; first | refine Zp rfl ?_ | ((first | refine Zd rfl ?_ ?_ | refine Ze rfl ?_ ?_); · first | omega | rfl | assumption | (simp only [lmT]; omega)) | ((first | refine Zf rfl ?_ ?_ | refine Za rfl ?_ ?_); · first | omega | rfl | assumption | (simp only [lmT]; omega)) | refine Ye rfl (fun h => ?_) (fun h => ?_) | refine Ri (Zt hm rfl rfl ?_) | exact Ri (Zj hm rfl rfl rfl (nbT rfl) rfl rfl))
 | refine Z1 rfl (tl hn rfl) ?_
 | (refine Zg hn rfl rfl rfl ?_; first
 | refine ⟨_, Zx rfl rfl (by omega), ?_⟩
 | refine ⟨_, Zb rfl rfl (by omega) (by assumption), ?_⟩
              )
 | ((first | refine Zi rfl rfl rfl ?_ ?_ | refine Zh rfl rfl rfl ?_ ?_ | refine Zk rfl rfl rfl ?_ ?_ | refine Zl rfl rfl rfl ?_ ?_) <;> intro h <;> try (exfalso; first | omega | contradiction | (simp only [lmT] at h; omega))))
            refine next _ _ ⟨rfl, rfl, rfl, rfl, trivial⟩ hlt (fun i y hi hy => ?_) rfl
            by_cases e : i = j
            · subst e; rw [hx'] at hy; injection hy with hy; subst hy; exact ⟨h1, h2⟩
            · exact hQ i y (by omega) hy
        · repeat' (first
 | refine Rk Zu hn rfl ?_
 | refine Rl ?_
 | refine Zc 30 rfl ?_
 | (refine Zg hn rfl rfl rfl ?_; first
 | refine ⟨_, Zw hnm rfl, ?_⟩
 | refine ⟨_, Zw hc rfl, ?_⟩
 | refine ⟨_, Uc rfl rfl (by omega) (by omega), ?_⟩)
 | (refine Rj 30 rfl ?_; first | refine Zp rfl ?_ | ((first | refine Zd rfl ?_ ?_ | refine Ze rfl ?_ ?_); · first | omega | rfl | assumption | (simp only [lmT]; omega)) | ((first | refine Zf rfl ?_ ?_ | refine Za rfl ?_ ?_); · first | omega | rfl | assumption | (simp only [lmT]; omega)) | refine Ye rfl (fun h => ?_) (fun h => ?_) | refine Ri (Zt hm rfl rfl ?_) | exact Ri (Zj hm rfl rfl rfl (nbT rfl) rfl rfl))
 | refine Z1 rfl (tl hn rfl) ?_
 | (refine Zg hn rfl rfl rfl ?_; first
 | refine ⟨_, Zx rfl rfl (by omega), ?_⟩
 | refine ⟨_, Zb rfl rfl (by omega) (by assumption), ?_⟩
            )
 | ((first | refine Zi rfl rfl rfl ?_ ?_ | refine Zh rfl rfl rfl ?_ ?_ | refine Zk rfl rfl rfl ?_ ?_ | refine Zl rfl rfl rfl ?_ ?_) <;> intro h <;> try (exfalso; first | omega | contradiction | (simp only [lmT] at h; omega))))
          exact Yf (decide_eq_false (p := Eh r) fun hN => h1 (hN.2.2.2.2 j x hx').1).symm
      · repeat' (first
 | refine Rk Zu hn rfl ?_
 | refine Rl ?_
 | refine Zc 30 rfl ?_
 | (refine Rj 30 rfl ?_; first | refine Zp rfl ?_ | ((first | refine Zd rfl ?_ ?_ | refine Ze rfl ?_ ?_); · first | omega | rfl | assumption | (simp only [lmT]; omega)) | ((first | refine Zf rfl ?_ ?_ | refine Za rfl ?_ ?_); · first | omega | rfl | assumption | (simp only [lmT]; omega)) | refine Ye rfl (fun h => ?_) (fun h => ?_) | refine Ri (Zt hm rfl rfl ?_) | exact Ri (Zj hm rfl rfl rfl (nbT rfl) rfl rfl))
 | refine Z1 rfl (tl hn rfl) ?_
 | (refine Zg hn rfl rfl rfl ?_; first
 | refine ⟨_, Zx rfl rfl (by omega), ?_⟩
 | refine ⟨_, Zb rfl rfl (by omega) (by assumption), ?_⟩
          )
 | ((first | refine Zi rfl rfl rfl ?_ ?_ | refine Zh rfl rfl rfl ?_ ?_ | refine Zk rfl rfl rfl ?_ ?_ | refine Zl rfl rfl rfl ?_ ?_) <;> intro h <;> try (exfalso; first | omega | contradiction | (simp only [lmT] at h; omega))))
        exact Yf (decide_eq_true (p := Eh r) ⟨hP, h0.1, h0.2.1, h0.2.2, fun i x hx => hQ i x (by have := (P8.1 hx).1; omega) hx⟩).symm
    · repeat' (first
 | refine Rk Zu hn rfl ?_
 | refine Rl ?_
 | refine Zc 30 rfl ?_
 | (refine Zg hn rfl rfl rfl ?_; first
 | refine ⟨_, Zw hpl (by simp [ev, look, Ws]), ?_⟩
 | refine ⟨_, Zw (Yx _ _ _) rfl, ?_⟩)
 | (refine Rj 30 rfl ?_; first | refine Zp rfl ?_ | ((first | refine Zd rfl ?_ ?_ | refine Ze rfl ?_ ?_); · first | omega | rfl | assumption | (simp only [lmT]; omega)) | ((first | refine Zf rfl ?_ ?_ | refine Za rfl ?_ ?_); · first | omega | rfl | assumption | (simp only [lmT]; omega)) | refine Ye rfl (fun h => ?_) (fun h => ?_) | refine Ri (Zt hm rfl rfl ?_) | exact Ri (Zj hm rfl rfl rfl (nbT rfl) rfl rfl))
 | refine Z1 rfl (tl hn rfl) ?_
 | (refine Zg hn rfl rfl rfl ?_; first
 | refine ⟨_, Zx rfl rfl (by omega), ?_⟩
 | refine ⟨_, Zb rfl rfl (by omega) (by assumption), ?_⟩
        )
 | ((first | refine Zi rfl rfl rfl ?_ ?_ | refine Zh rfl rfl rfl ?_ ?_ | refine Zk rfl rfl rfl ?_ ?_ | refine Zl rfl rfl rfl ?_ ?_) <;> intro h <;> try (exfalso; first | omega | contradiction | (simp only [lmT] at h; omega))))
      all_goals first
        | exact Yf (decide_eq_false (p := Eh r) fun hN => h0 ⟨hN.2.1, hN.2.2.1, hN.2.2.2.1⟩).symm
        | (exfalso; simp only [lmT] at *; omega)
  · repeat' (first
 | refine Rk Zu hn rfl ?_
 | refine Rl ?_
 | refine Zc 30 rfl ?_
 | (refine Zg hn rfl rfl rfl ?_; first
 | refine ⟨_, Zw hpl (by simp [ev, look, Ws]), ?_⟩
 | refine ⟨_, Zw (Yx _ _ _) rfl, ?_⟩)
 | (refine Rj 30 rfl ?_; first | refine Zp rfl ?_ | ((first | refine Zd rfl ?_ ?_ | refine Ze rfl ?_ ?_); · first | omega | rfl | assumption | (simp only [lmT]; omega)) | ((first | refine Zf rfl ?_ ?_ | refine Za rfl ?_ ?_); · first | omega | rfl | assumption | (simp only [lmT]; omega)) | refine Ye rfl (fun h => ?_) (fun h => ?_) | refine Ri (Zt hm rfl rfl ?_) | exact Ri (Zj hm rfl rfl rfl (nbT rfl) rfl rfl))
 | refine Z1 rfl (tl hn rfl) ?_
 | (refine Zg hn rfl rfl rfl ?_; first
 | refine ⟨_, Zx rfl rfl (by omega), ?_⟩
 | refine ⟨_, Zb rfl rfl (by omega) (by assumption), ?_⟩
      )
 | ((first | refine Zi rfl rfl rfl ?_ ?_ | refine Zh rfl rfl rfl ?_ ?_ | refine Zk rfl rfl rfl ?_ ?_ | refine Zl rfl rfl rfl ?_ ?_) <;> intro h <;> try (exfalso; first | omega | contradiction | (simp only [lmT] at h; omega))))
    all_goals exact Yf (decide_eq_false (p := Eh r) fun hN => hP hN.1).symm
def Qz (d : Des) (r : Rul) : Prop :=
  (r.kind = 1 ∧ Plain r true false false false 0 ∧ InR r.size 1 4 ∧ (r.little = false ∨ 1 < r.size)) ∨
  (r.kind = 2 ∧ Plain r false true false false 0 ∧ InR r.bytes.length 1 16) ∨
  (r.kind = 3 ∧ Plain r true false false false 0 ∧ InR r.size 1 64) ∨
  (r.kind = 4 ∧ Plain r false false false false 1 ∧ 0 < lim d (r.kids.headD 0)) ∨
  (r.kind = 5 ∧ Plain r false false false false 2 ∧ 0 < lim d (r.kids.headD 0)) ∨
  (r.kind = 6 ∧ Eh r) ∨
  (r.kind = 7 ∧ V5 d r) ∨
  ((r.kind = 8 ∨ r.kind = 9) ∧ Plain r false false false false 1) ∨
  (r.kind = 10 ∧ Plain r false true false false 0 ∧ r.bytes.length = 1 ∧ r.bytes.headD 0 ≠ 92)
noncomputable instance (d : Des) (r : Rul) : Decidable (Qz d r) := Classical.propDecidable _
theorem Plain.kids {r : Rul} {a b c d : Bool} {k : Int} (h : Plain r a b c d k) (hk : 0 ≤ k) : (r.kids.length : Int) = k := by
  have := h.2.2.2.2; omega
theorem seqOk_iff {r : Rul} : Eh r ∧ (r.little = false ∨ r.kind = 1) ↔ Shape r false false true false r.names.length ∧ B9 r.names := by
  unfold Eh Shape Plain
  constructor
  · rintro ⟨⟨⟨a, b, c, d, e⟩, f, g⟩, h⟩
    exact ⟨⟨⟨a, b, c, d, by omega⟩, h⟩, g⟩
  · rintro ⟨⟨⟨a, b, c, d, e⟩, h⟩, g⟩
    exact ⟨⟨⟨a, b, c, d, by omega⟩, by omega, g⟩, h⟩
theorem G0 {d : Des} {r : Rul} : V5 d r ∧ (r.little = false ∨ r.kind = 1) ↔ Shape r false false false true (-1) ∧ Ds d r := by
  unfold V5 Shape Plain
  constructor
  · rintro ⟨⟨⟨a, b, c, d, e⟩, g⟩, h⟩
    exact ⟨⟨⟨a, b, c, d, by omega⟩, h⟩, g⟩
  · rintro ⟨⟨⟨a, b, c, d, e⟩, h⟩, g⟩
    exact ⟨⟨⟨a, b, c, d, .inr (by have := g.1; omega)⟩, g⟩, h⟩
theorem kindI_iff (d : Des) (r : Rul) : Qz d r ∧ (r.little = false ∨ r.kind = 1) ↔ Va d r := by
  unfold Qz Va
  have h1 := @seqOk_iff r
  have h2 := @G0 d r
  unfold Shape at h1 h2 ⊢
  constructor
  · rintro ⟨(h | h | h | h | h | h | h | h | h), hl⟩
    · exact .inl ⟨h.1, ⟨h.2.1, hl⟩, h.2.2⟩
    · exact .inr (.inl ⟨h.1, ⟨h.2.1, hl⟩, h.2.2⟩)
    · exact .inr (.inr (.inl ⟨h.1, ⟨h.2.1, hl⟩, h.2.2⟩))
    · exact .inr (.inr (.inr (.inl ⟨h.1, ⟨h.2.1, hl⟩, h.2.2⟩)))
    · exact .inr (.inr (.inr (.inr (.inl ⟨h.1, ⟨h.2.1, hl⟩, h.2.2⟩))))
    · exact .inr (.inr (.inr (.inr (.inr (.inl ⟨h.1, h1.1 ⟨h.2, hl⟩⟩)))))
    · exact .inr (.inr (.inr (.inr (.inr (.inr (.inl ⟨h.1, h2.1 ⟨h.2, hl⟩⟩))))))
    · exact .inr (.inr (.inr (.inr (.inr (.inr (.inr (.inl ⟨h.1, h.2, hl⟩)))))))
    · exact .inr (.inr (.inr (.inr (.inr (.inr (.inr (.inr ⟨h.1, ⟨h.2.1, hl⟩, h.2.2⟩)))))))
  · rintro (h | h | h | h | h | h | h | h | h)
    · exact ⟨.inl ⟨h.1, h.2.1.1, h.2.2⟩, h.2.1.2⟩
    · exact ⟨.inr (.inl ⟨h.1, h.2.1.1, h.2.2⟩), h.2.1.2⟩
    · exact ⟨.inr (.inr (.inl ⟨h.1, h.2.1.1, h.2.2⟩)), h.2.1.2⟩
    · exact ⟨.inr (.inr (.inr (.inl ⟨h.1, h.2.1.1, h.2.2⟩))), h.2.1.2⟩
    · exact ⟨.inr (.inr (.inr (.inr (.inl ⟨h.1, h.2.1.1, h.2.2⟩)))), h.2.1.2⟩
    · exact ⟨.inr (.inr (.inr (.inr (.inr (.inl ⟨h.1, (h1.2 h.2).1⟩))))), (h1.2 h.2).2⟩
    · exact ⟨.inr (.inr (.inr (.inr (.inr (.inr (.inl ⟨h.1, (h2.2 h.2).1⟩)))))), (h2.2 h.2).2⟩
    · exact ⟨.inr (.inr (.inr (.inr (.inr (.inr (.inr (.inl ⟨h.1, h.2.1⟩))))))), h.2.2⟩
    · exact ⟨.inr (.inr (.inr (.inr (.inr (.inr (.inr (.inr ⟨h.1, h.2.1.1, h.2.2⟩))))))), h.2.1.2⟩
end Go.Proofs.Ytnecoghfhcimeaa
