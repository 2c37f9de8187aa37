/- Gathered texts. -/
import Derived.Test.YtnecoghfhcimeaaGat0
import Derived.Test.YtnecoghfhcimeaaGat1
import Derived.Test.YtnecoghfhcimeaaGat2
import Derived.Test.YtnecoghfhcimeaaGat3
/- Regions that draw their order, in which objects and rows are made: each has its place from the first. Over any program. Printed by gen/dru.py. -/
namespace Go.Proofs.Ytnecoghfhcimeaa
set_option linter.unusedSimpArgs false
set_option linter.unusedVariables false
open Go.RowKit
open AV (Mem Keeps)
section
variable {C : Ctx} {w w' : World} {φ : Nat → Option Nat} {σ : List Ob} {q g sz : Nat} {e : TypeId} {cs : List AV}
theorem keeps_fillU (hb : Below w.heap.size w w') (hg : w.heap.size ≤ g) (hq : σ[q]? = some ⟨e, 0, []⟩) (hφ : φ q = none) :
    Keeps (fun k => k ≠ q) ⟨w, φ, σ, C.ok⟩ ⟨w', upd φ q (some g), σ.set q ⟨e, sz, cs⟩, C.ok⟩ := by
  have hql : q < σ.length := (List.getElem?_eq_some_iff.1 hq).1
  refine ⟨⟨hb.size, fun b hlt hok => ⟨⟨hok.1, fun i hi he => ?_⟩, hb.block b hlt⟩⟩, fun i hi hil => ⟨by simpa using hil, upd_ne hi⟩, fun i ob hi ho => ⟨ob.cs, by simp only [List.getElem?_set_ne (Ne.symm hi)]; exact ho, rfl⟩, fun i b us t hi hil he hh => ⟨us, (hb.block b (Array.getElem?_eq_some_iff.1 hh).1).trans hh, rfl⟩⟩
  by_cases hiq : i = q
  · subst hiq; simp only [upd_eq, Option.some.injEq] at he; subst he; simp only at hlt; omega
  · simp only [upd_ne hiq] at he; exact hok.2 i (by simpa using hi) he
mutual
theorem only_place (hq : σ[q]? = some ⟨e, 0, []⟩) (hφ : φ q = none) : ∀ (v : AV) (u : Value), AV.rel ⟨w, φ, σ, C.ok⟩ v u → v.only (fun k => k ≠ q)
  | .ro r, u, h => by simp [AV.only]
  | .junk, u, _ => by simp [AV.only]
  | .obj i off, u, h => by
    simp only [AV.rel] at h
    obtain ⟨_, g, h2, _⟩ := h
    simp only [AV.only]
    rintro rfl; rw [hφ] at h2; cases h2
  | .pin i off g, u, h => by
    simp only [AV.rel] at h
    obtain ⟨_, h2, _⟩ := h
    simp only [AV.only]
    rintro rfl; rw [hφ] at h2; cases h2
  | .own i, u, h => by
    simp only [AV.rel] at h
    obtain ⟨ob, n, h1, h2, h3, _⟩ := h
    simp only [AV.only]
    rintro rfl; rw [hq] at h1; injection h1 with h1; subst h1; exact absurd h3 (Nat.lt_irrefl 0)
  | .agg vs, u, h => by
    simp only [AV.rel] at h
    obtain ⟨us', _, h1⟩ := h
    simp only [AV.only]; exact onlys_place hq hφ vs _ h1
  | .tup vs, u, h => by
    simp only [AV.rel] at h
    obtain ⟨us', _, h1⟩ := h
    simp only [AV.only]; exact onlys_place hq hφ vs _ h1
  | .fn f a b, u, h => by
    simp only [AV.rel] at h
    obtain ⟨us', vs', _, h1, h2⟩ := h
    simp only [AV.only]; exact ⟨onlys_place hq hφ a _ h1, onlys_place hq hφ b _ h2⟩
theorem onlys_place (hq : σ[q]? = some ⟨e, 0, []⟩) (hφ : φ q = none) : ∀ (vs : List AV) (us' : List Value), AV.rels ⟨w, φ, σ, C.ok⟩ vs us' → AV.onlys (fun k => k ≠ q) vs
  | [], us', h => by simp [AV.onlys]
  | x :: xs, us', h => by
    simp only [AV.rels] at h
    obtain ⟨u, us'', _, h1, h2⟩ := h
    simp only [AV.onlys]; exact ⟨only_place hq hφ x u h1, onlys_place hq hφ xs us'' h2⟩
end
theorem rel_fillU (hb : Below w.heap.size w w') (hg : w.heap.size ≤ g) (hq : σ[q]? = some ⟨e, 0, []⟩) (hφ : φ q = none) (v : AV) (u : Value) (h : AV.rel ⟨w, φ, σ, C.ok⟩ v u) : AV.rel ⟨w', upd φ q (some g), σ.set q ⟨e, sz, cs⟩, C.ok⟩ v u :=
  AV.rel_keeps (keeps_fillU hb hg hq hφ) v u (only_place hq hφ v u h) h
theorem good_fillU (hG : Good C ⟨w, φ, σ, C.ok⟩) (hb : Below w.heap.size w w') (hg : w.heap.size ≤ g) (hq : σ[q]? = some ⟨e, 0, []⟩) (hφ : φ q = none) (hob : ObRel ⟨w', upd φ q (some g), σ.set q ⟨e, sz, cs⟩, C.ok⟩ ⟨e, sz, cs⟩ (some g)) :
    Good C ⟨w', upd φ q (some g), σ.set q ⟨e, sz, cs⟩, C.ok⟩ := by
  have hql : q < σ.length := (List.getElem?_eq_some_iff.1 hq).1
  refine ⟨rfl, fun i j b hi hj e1 e2 => ?_, fun i o hi => ?_, fun i b hi hbi => ?_, hG.frm.below hb⟩
  · simp only [List.length_set] at hi hj
    by_cases hiq : i = q <;> by_cases hjq : j = q
    · omega
    · subst hiq; simp only [upd_eq, Option.some.injEq] at e1; simp only [upd_ne hjq] at e2
      have := hG.lt hj e2; simp only at this; omega
    · subst hjq; simp only [upd_eq, Option.some.injEq] at e2; simp only [upd_ne hiq] at e1
      have := hG.lt hi e1; simp only at this; omega
    · simp only [upd_ne hiq] at e1; simp only [upd_ne hjq] at e2
      exact hG.inj i j b hi hj e1 e2
  · by_cases hiq : i = q
    · subst hiq
      simp only [List.getElem?_set_self hql, Option.some.injEq] at hi
      subst hi
      simp only [upd_eq]
      exact hob
    · simp only [List.getElem?_set_ne (Ne.symm hiq)] at hi
      have h := hG.ob i o hi
      simp only [upd_ne hiq]
      simp only at h
      cases hgi : φ i with
      | none => rw [hgi] at h; exact h
      | some b =>
        rw [hgi] at h
        obtain ⟨vs, q1, q2, q3⟩ := h
        refine ⟨vs, (hb.block b (Array.getElem?_eq_some_iff.1 q1).1).trans q1, q2, fun j v hj => ?_⟩
        obtain ⟨x, k1, k2, k3⟩ := q3 j v hj
        exact ⟨x, k1, k2, rel_fillU hb hg hq hφ v x k3⟩
  · simp only [List.length_set] at hi
    by_cases hiq : i = q
    · subst hiq; simp only [upd_eq, Option.some.injEq] at hbi; subst hbi; exact .inr (Nat.le_trans hG.frm.size hg)
    · simp only [upd_ne hiq] at hbi; exact hG.mine i b hi hbi
end
structure RE where
  idx : Nat
  pre : Option (Nat × Nat)
  t : TypeId
  sz : Nat
  cs : List RV
abbrev ResU := List RE
def RE.ob (r : RE) : Ob := ⟨r.t, r.sz, r.cs.map .ro⟩
def RE.all (r : RE) : List Nat := r.idx :: match r.pre with
  | some p => [p.1]
  | none => []
def reOb (listed : Array Bool) (r : RE) : Ob :=
  if listed.getD r.idx false = true then r.ob else match r.pre with
    | some p => if listed.getD p.1 false = true then ⟨r.t, r.sz, []⟩ else ⟨r.t, 0, []⟩
    | none => ⟨r.t, 0, []⟩
def resU (rs : ResU) (listed : Array Bool) : List Ob := rs.map (reOb listed)
def fullU (rs : ResU) : List Ob := rs.map RE.ob
def MkN (P : Program) (C : Ctx) (o : Oper) (E : EE) (ob : Ob) (q : Nat) (v : AV) : Prop :=
  (v = .own q ∨ v = .obj q 0) ∧ ∀ (a : Act) (w : World) (φ : Nat → Option Nat) (σ : List Ob), Good C ⟨w, φ, σ, C.ok⟩ → σ[q]? = some ⟨ob.t, 0, []⟩ → φ q = none → (∀ x ∈ o.op.operands, AV.rel ⟨w, φ, σ, C.ok⟩ (evE E x) (a.eval x)) → ∀ (K : Act → World → Prop) (Q : Exit → Act → World → Prop),
    (∀ u w' g, Below w.heap.size w w' → w.heap.size ≤ g → ObRel ⟨w', upd φ q (some g), σ.set q ob, C.ok⟩ ob (some g) → AV.rel ⟨w', upd φ q (some g), σ.set q ob, C.ok⟩ v u → K (a.put o.dst u) w') → o.wp P a w K Q
def MkQ (P : Program) (C : Ctx) (o : Oper) (E : EE) (r : RE) (s q : Nat) : Prop :=
  ∀ (a : Act) (w : World) (φ : Nat → Option Nat) (σ : List Ob), Good C ⟨w, φ, σ, C.ok⟩ → σ[q]? = some ⟨r.t, r.sz, []⟩ → AV.rel ⟨w, φ, σ, C.ok⟩ (.own q) (a.tmps.getD s undef) → (∀ (j : Nat) ob, σ[j]? = some ob → AV.onlys (fun k => k ≠ q) ob.cs) →
    (∀ x ∈ o.op.operands, AV.rel ⟨w, φ, σ, C.ok⟩ (evE E x) (a.eval x)) → ∀ (K : Act → World → Prop) (Q : Exit → Act → World → Prop),
    (∀ u w' b, Good C ⟨w', upd φ q b, σ.set q r.ob, C.ok⟩ → Keeps (fun k => k ≠ q) ⟨w, φ, σ, C.ok⟩ ⟨w', upd φ q b, σ.set q r.ob, C.ok⟩ → AV.rel ⟨w', upd φ q b, σ.set q r.ob, C.ok⟩ (.own q) u → K (a.put o.dst u) w') → o.wp P a w K Q
theorem MkN.congr {P : Program} {C : Ctx} {o : Oper} {E E' : EE} {ob : Ob} {q : Nat} {v : AV} (h : MkN P C o E ob q v) (he : ∀ x ∈ o.op.operands, evE E' x = evE E x) : MkN P C o E' ob q v :=
  ⟨h.1, fun a w φ σ hG h1 h2 hx => h.2 a w φ σ hG h1 h2 fun x hm => by rw [← he x hm]; exact hx x hm⟩
theorem MkQ.congr {P : Program} {C : Ctx} {o : Oper} {E E' : EE} {r : RE} {s q : Nat} (h : MkQ P C o E r s q) (he : ∀ x ∈ o.op.operands, evE E' x = evE E x) : MkQ P C o E' r s q :=
  fun a w φ σ hG h1 h2 h3 hx => h a w φ σ hG h1 h2 h3 fun x hm => by rw [← he x hm]; exact hx x hm
def staged (rs : ResU) (n : Nat) (o : Oper) (v : AV) : Prop := ∀ p r, rs[p]? = some r → r.pre.isSome = true → v.only (fun k => k ≠ n + p) ∨ (isMv o = false ∧ ∃ e ∈ o.after, (∀ md, Region.binds md e = true) ∧ e.on = r.idx)
def YU (P : Program) (C : Ctx) (ops : Array Oper) (σ : List Ob) (rs : ResU) (i : Nat) (o : Oper) (v : AV) (E : EE) : Prop :=
  ((∀ r ∈ rs, i ∉ r.all) ∧ staged rs σ.length o v ∧ ((gsayE ops E o.guard = some true ∧ ∀ more, PurF P C o E (σ ++ more) v) ∨ (gsayE ops E o.guard = some false ∧ v = .ro (.c undef)))) ∨
  (∃ p r, rs[p]? = some r ∧ r.idx = i ∧ r.pre = none ∧ o.guard = none ∧ o.dst.isSome = true ∧ MkN P C o E r.ob (σ.length + p) v) ∨
  (∃ p r s, rs[p]? = some r ∧ r.pre = some (i, s) ∧ o.guard = none ∧ o.dst = some s ∧ MkN P C o E ⟨r.t, r.sz, []⟩ (σ.length + p) (.own (σ.length + p)) ∧ v = .junk) ∨
  (∃ p r j s, rs[p]? = some r ∧ r.idx = i ∧ r.pre = some (j, s) ∧ o.guard = none ∧ o.dst.isSome = true ∧ MkQ P C o E r s (σ.length + p) ∧ v = .own (σ.length + p))
section
variable {P : Program} {C : Ctx} {ops : Array Oper} {σ : List Ob} {md : Region.Mode} {rs : ResU} {pri : List Nat}
theorem YU.put {i : Nat} {oi oj : Oper} {v u : AV} {E : EE} (hy : YU P C ops σ rs i oi v E) (h3 : ∀ d, oj.dst = some d → d ∉ oi.looksAt ops) : YU P C ops σ rs i oi v (putE E oj.dst u) := by
  have hc : ∀ x ∈ oi.op.operands, evE (putE E oj.dst u) x = evE E x := fun x hx => evE_put fun t ht => mem_looks_op (h3 t ht) x hx
  unfold YU at *
  rw [gsay_put h3]
  rcases hy with ⟨h0, hs, ⟨hw, hv⟩ | hy⟩ | ⟨p, r, k1, k2, k3, k4, k5, k6⟩ | ⟨p, r, s, k1, k2, k3, k4, k5, k6⟩ | ⟨p, r, j, s, k1, k2, k3, k4, k5, k6, k7⟩
  · exact .inl ⟨h0, hs, .inl ⟨hw, fun more => (hv more).congr hc⟩⟩
  · exact .inl ⟨h0, hs, .inr hy⟩
  · exact .inr (.inl ⟨p, r, k1, k2, k3, k4, k5, k6.congr hc⟩)
  · exact .inr (.inr (.inl ⟨p, r, s, k1, k2, k3, k4, k5.congr hc, k6⟩))
  · exact .inr (.inr (.inr ⟨p, r, j, s, k1, k2, k3, k4, k5, k6.congr hc, k7⟩))
theorem YU.unput {i : Nat} {oi : Oper} {d : Option Nat} {v u : AV} {E : EE} (hy : YU P C ops σ rs i oi v (putE E d u)) (h3 : ∀ t, d = some t → t ∉ oi.looksAt ops) : YU P C ops σ rs i oi v E := by
  have hc : ∀ x ∈ oi.op.operands, evE E x = evE (putE E d u) x := fun x hx => (evE_put fun t ht => mem_looks_op (h3 t ht) x hx).symm
  unfold YU at *
  rw [gsay_put h3] at hy
  rcases hy with ⟨h0, hs, ⟨hw, hv⟩ | hy⟩ | ⟨p, r, k1, k2, k3, k4, k5, k6⟩ | ⟨p, r, s, k1, k2, k3, k4, k5, k6⟩ | ⟨p, r, j, s, k1, k2, k3, k4, k5, k6, k7⟩
  · exact .inl ⟨h0, hs, .inl ⟨hw, fun more => (hv more).congr hc⟩⟩
  · exact .inl ⟨h0, hs, .inr hy⟩
  · exact .inr (.inl ⟨p, r, k1, k2, k3, k4, k5, k6.congr hc⟩)
  · exact .inr (.inr (.inl ⟨p, r, s, k1, k2, k3, k4, k5.congr hc, k6⟩))
  · exact .inr (.inr (.inr ⟨p, r, j, s, k1, k2, k3, k4, k5, k6.congr hc, k7⟩))
def aOpV (P : Program) (C : Ctx) (ops : Array Oper) (σ : List Ob) (rs : ResU) (i : Nat) (K : EE → Prop) (E : EE) : Prop := ∃ o v, ops[i]? = some o ∧ YU P C ops σ rs i o v E ∧ K (putE E o.dst v)
theorem aOpV_mono {i : Nat} {E : EE} {K K' : EE → Prop} (h : ∀ E, K E → K' E) (hh : aOpV P C ops σ rs i K E) : aOpV P C ops σ rs i K' E := by
  obtain ⟨o, v, h1, h2, h3⟩ := hh
  exact ⟨o, v, h1, h2, h _ h3⟩
theorem aOpV_put {i j : Nat} {oi oj : Oper} {v : AV} (hj : ops[j]? = some oj) (hap : oi.apart ops oj = true) {K : EE → Prop} {E : EE} (hy : YU P C ops σ rs i oi v E) (h : aOpV P C ops σ rs j K (putE E oi.dst v)) :
    aOpV P C ops σ rs j (fun E' => YU P C ops σ rs i oi v E' ∧ K (putE E' oi.dst v)) E := by
  obtain ⟨h1, h2, h3⟩ := Oper.apart_spec hap
  obtain ⟨o, u, k1, k2, k3⟩ := h
  rw [hj] at k1; injection k1 with k1; subst k1
  refine ⟨oj, u, hj, k2.unput h1, hy.put h3, ?_⟩
  rw [← putE_comm h2]; exact k3
def wpAnyV (P : Program) (C : Ctx) (md : Region.Mode) (ops : Array Oper) (σ : List Ob) (rs : ResU) (pri : List Nat) (n : Nat) (L : Array Bool → EE → Prop) : Nat → Array Bool → EE → Prop
  | 0, listed, E => L listed E
  | f + 1, listed, E => (∃ e ∈ pri, e ∈ Region.ready md ops listed ∧ e < n ∧ aOpV P C ops σ rs e (wpAnyV P C md ops σ rs pri n L f (listed.setIfInBounds e true)) E) ∨
      ((∀ e ∈ pri, e ∉ Region.ready md ops listed) ∧ Region.ready md ops listed ≠ [] ∧ ∀ i ∈ Region.ready md ops listed, i < n ∧ aOpV P C ops σ rs i (wpAnyV P C md ops σ rs pri n L f (listed.setIfInBounds i true)) E)
def wpLexV (P : Program) (C : Ctx) (ops : Array Oper) (σ : List Ob) (rs : ResU) (Q : EE → Prop) : List (Nat × Oper) → EE → Prop
  | [], E => Q E
  | (i, o) :: rest, E => ∃ v, YU P C ops σ rs i o v E ∧ wpLexV P C ops σ rs Q rest (putE E o.dst v)
theorem V_any {n : Nat} {L : Array Bool → EE → Prop} (hpri : ∀ e ∈ pri, freeAll md ops e = true) (hdone : ∀ listed E, L listed E → ∀ j ∈ Region.ready md ops listed, n ≤ j) :
    ∀ (f : Nat) (listed : Array Bool) (E : EE), wpAnyV P C md ops σ rs pri n L f listed E → ∀ j ∈ Region.ready md ops listed, j < n → ∃ f', f = f' + 1 ∧ aOpV P C ops σ rs j (wpAnyV P C md ops σ rs pri n L f' (listed.setIfInBounds j true)) E
  | 0, listed, E, h, j, hj, hjn => by have := hdone _ _ h j hj; omega
  | f + 1, listed, E, h, j, hj, hjn => by
    rcases h with ⟨e, he, her, hen, o, v, ho, hy, hK⟩ | ⟨_, _, h⟩
    · by_cases hej : e = j
      · subst hej; exact ⟨f, rfl, o, v, ho, hy, hK⟩
      · obtain ⟨f', rfl, h2⟩ := V_any hpri hdone f _ _ hK j (ready_mono hj (Ne.symm hej)) hjn
        refine ⟨f' + 1, rfl, ?_⟩
        obtain ⟨_, oj, hoj, _⟩ := mem_ready.1 hj
        have hap := (freeAll_spec ho (hpri e he)).2 j oj hoj (Ne.symm hej) (not_waits her hj hoj) (not_waits hj her ho)
        refine aOpV_mono (fun E' h3 => .inl ⟨e, he, ready_mono her hej, hen, o, v, ho, h3.1, ?_⟩) (aOpV_put hoj hap hy h2)
        rw [Array.setIfInBounds_comm _ _ (Ne.symm hej)]
        exact h3.2
    · exact ⟨f, rfl, (h j hj).2⟩
theorem V_first {n i : Nat} {oi : Oper} {v : AV} {L : Array Bool → EE → Prop} (hi : ops[i]? = some oi) (hpri : ∀ e ∈ pri, freeAll md ops e = true)
    (hs : sinkQ md ops pri n = true) (hc : Region.chainB md ops n = true) (hn : n < ops.size) (hin : i < n) (hpn : ∀ e ∈ pri, e < n)
    (hdone : ∀ listed E, L listed E → ∀ j ∈ Region.ready md ops listed, n ≤ j) :
    ∀ (f : Nat) (listed : Array Bool) (E : EE), HeadInv md ops n listed →
      (∀ j oj, ops[j]? = some oj → j ≠ i → listed.getD j true = false → (∀ e ∈ oj.after, Region.binds md e = true → e.on ≠ i) → oi.apart ops oj = true) →
      i ∈ Region.ready md ops listed → YU P C ops σ rs i oi v E →
      wpAnyV P C md ops σ rs pri n L f (listed.setIfInBounds i true) (putE E oi.dst v) → wpAnyV P C md ops σ rs pri n L (f + 1) listed E := by
  intro f
  induction f with
  | zero =>
    intro listed E inv hfree hr hy H
    by_cases hp : i ∈ pri
    · exact .inl ⟨i, hp, hr, hin, oi, v, hi, hy, H⟩
    · have no : ∀ j ∈ Region.ready md ops listed, j < n → j = i := fun j hj hjn => by
        apply Classical.byContradiction
        intro hji
        have := hdone _ _ H j (ready_mono hj hji)
        omega
      have hnp : ∀ e ∈ pri, e ∉ Region.ready md ops listed := fun e he her => hp (no e her (hpn e he) ▸ he)
      refine .inr ⟨hnp, fun h => (by rw [h] at hr; cases hr), fun j hj => ?_⟩
      have hjn : j < n := by
        rcases Nat.lt_or_ge j n with h | h
        · exact h
        · exact absurd hj (tail_waitsQ hs hc hn inv hnp hin (mem_ready.1 hr).1 j h)
      obtain rfl := no j hj hjn
      exact ⟨hjn, oi, v, hi, hy, H⟩
  | succ f ih =>
    intro listed E inv hfree hr hy H
    by_cases hp : i ∈ pri
    · exact .inl ⟨i, hp, hr, hin, oi, v, hi, hy, H⟩
    · have step : ∀ j ∈ Region.ready md ops listed, j < n → j ≠ i → aOpV P C ops σ rs j (wpAnyV P C md ops σ rs pri n L (f + 1) (listed.setIfInBounds j true)) E := fun j hj hjn hji => by
        obtain ⟨f', hf, h1⟩ := V_any hpri hdone _ _ _ H j (ready_mono hj hji) hjn
        injection hf with hf
        have hf : f' = f := hf.symm
        subst hf
        obtain ⟨hjun, oj, hoj, hall⟩ := mem_ready.1 hj
        have hfree' : ∀ k ok, ops[k]? = some ok → k ≠ i → (listed.setIfInBounds j true).getD k true = false →
            (∀ e ∈ ok.after, Region.binds md e = true → e.on ≠ i) → oi.apart ops ok = true := fun k ok hk hki hun hno => by
          refine hfree k ok hk hki ?_ hno
          by_cases hjk : j = k
          · subst hjk; exact hjun
          · rw [getD_set_ne true hjk] at hun; exact hun
        refine aOpV_mono (fun E' h3 => ih (listed.setIfInBounds j true) E' (inv.set hj hjn) hfree' (ready_mono hr (Ne.symm hji)) h3.1 ?_) (aOpV_put hoj (hfree j oj hoj hji hjun (not_waits hr hj hoj)) hy h1)
        rw [Array.setIfInBounds_comm _ _ hji]
        exact h3.2
      by_cases he : ∃ e ∈ pri, e ∈ Region.ready md ops listed
      · obtain ⟨e, he, her⟩ := he
        exact .inl ⟨e, he, her, hpn e he, step e her (hpn e he) (by rintro rfl; exact hp he)⟩
      · have hnp : ∀ e ∈ pri, e ∉ Region.ready md ops listed := fun e h1 h2 => he ⟨e, h1, h2⟩
        refine .inr ⟨hnp, fun h => (by rw [h] at hr; cases hr), fun j hj => ?_⟩
        have hjn : j < n := by
          rcases Nat.lt_or_ge j n with h | h
          · exact h
          · exact absurd hj (tail_waitsQ hs hc hn inv hnp hin (mem_ready.1 hr).1 j h)
        refine ⟨hjn, ?_⟩
        by_cases hji : j = i
        · subst hji; exact ⟨oi, v, hi, hy, H⟩
        · exact step j hj hjn hji
theorem wpAnyV_lex {n g : Nat} {Lq : EE → Prop} (hpri : ∀ e ∈ pri, freeAll md ops e = true) (hpn : ∀ e ∈ pri, e < n) (hs : sinkQ md ops pri n = true) (hc : Region.chainB md ops n = true) (hn : n < ops.size) :
    ∀ (l : List (Nat × Oper)) (listed : Array Bool) (E : EE), (∀ p ∈ l, ops[p.1]? = some p.2) → HeadInv md ops n listed →
    lexIdx md ops g n (l.map (·.1)) listed = true → wpLexV P C ops σ rs Lq l E →
    wpAnyV P C md ops σ rs pri n (fun listed' E' => Region.seqB md ops g n listed' = true ∧ (∀ j, j < n → listed'.getD j false = true) ∧ Lq E') l.length listed E
  | [], listed, E, _, _, hB, h => by
    simp only [List.map_nil, lexIdx, Bool.and_eq_true] at hB
    exact ⟨hB.1, fun j hj => List.all_eq_true.1 hB.2 j (List.mem_range.2 hj), h⟩
  | (k, o) :: l, listed, E, hl, inv, hB, h => by
    have h0 : ops[k]? = some o := hl (k, o) (by simp)
    simp only [List.map_cons, lexIdx, Bool.and_eq_true, decide_eq_true_eq] at hB
    obtain ⟨⟨⟨hr, hf⟩, hkn⟩, hB'⟩ := hB
    have hr' : k ∈ Region.ready md ops listed := by simpa using hr
    obtain ⟨v, hy, hK⟩ := h
    exact V_first h0 hpri hs hc hn hkn hpn (fun listed' E' hL => seqB_ready hL.1) l.length listed E inv (Region.free_spec h0 hf) hr' hy
      (wpAnyV_lex hpri hpn hs hc hn l _ _ (fun p hp => hl p (by simp [hp])) (inv.set hr' hkn) hB' hK)
end
structure WfU (md : Region.Mode) (ops : Array Oper) (rs : ResU) : Prop where
  one : ∀ (p : Nat) r (p' : Nat) r' i, rs[p]? = some r → rs[p']? = some r' → i ∈ r.all → i ∈ r'.all → p = p'
  two : ∀ (p : Nat) r j s, rs[p]? = some r → r.pre = some (j, s) → r.idx ≠ j
  edge : ∀ (p : Nat) r j s, rs[p]? = some r → r.pre = some (j, s) → ∃ o, ops[r.idx]? = some o ∧ ∃ e ∈ o.after, Region.binds md e = true ∧ e.on = j
  slot : ∀ (p : Nat) r j s, rs[p]? = some r → r.pre = some (j, s) → ∀ i o, ops[i]? = some o → o.dst = some s → i = j
theorem RE.mem_idx (r : RE) : r.idx ∈ r.all := by simp [RE.all]
theorem RE.mem_pre {r : RE} {j s : Nat} (h : r.pre = some (j, s)) : j ∈ r.all := by simp [RE.all, h]
structure StU (C : Ctx) (σ : List Ob) (rs : ResU) (listed : Array Bool) (a : Act) (w : World) (φ : Nat → Option Nat) : Prop where
  made : ∀ (p : Nat) r, rs[p]? = some r → listed.getD r.idx false = false → (∀ j s, r.pre = some (j, s) → listed.getD j false = true → AV.rel ⟨w, φ, σ ++ resU rs listed, C.ok⟩ (.own (σ.length + p)) (a.tmps.getD s undef)) ∧
    ((∀ j s, r.pre = some (j, s) → listed.getD j false = false) → φ (σ.length + p) = none)
structure SimU (C : Ctx) (σ : List Ob) (rs : ResU) (listed : Array Bool) (E : EE) (a : Act) (w : World) : Prop where
  defers : a.defers = []
  size : a.tmps.size = C.n
  lsz : ∀ (p : Nat) r, rs[p]? = some r → ∀ i ∈ r.all, i < listed.size
  cl : ∀ (p : Nat) r j s, rs[p]? = some r → r.pre = some (j, s) → listed.getD r.idx false = true → listed.getD j false = true
  free : ∀ (p : Nat) r, rs[p]? = some r → r.pre.isSome = true → ∀ o ∈ σ, AV.onlys (fun k => k ≠ σ.length + p) o.cs
  only : ∀ (p : Nat) r, rs[p]? = some r → r.pre.isSome = true → listed.getD r.idx false = false → ∀ t, (E t).only (fun k => k ≠ σ.length + p)
  mem : ∃ φ, Good C ⟨w, φ, σ ++ resU rs listed, C.ok⟩ ∧ StU C σ rs listed a w φ ∧ ∀ t, AV.rel ⟨w, φ, σ ++ resU rs listed, C.ok⟩ (E t) (a.tmps.getD t undef)
theorem reOb_off {listed : Array Bool} {r : RE} {i : Nat} (h : i ∉ r.all) : reOb (listed.setIfInBounds i true) r = reOb listed r := by
  have h1 : i ≠ r.idx := fun e => h (e ▸ r.mem_idx)
  unfold reOb
  rw [getD_set_ne false h1]
  cases hp : r.pre with
  | none => rfl
  | some p =>
    obtain ⟨j, s⟩ := p
    have h2 : i ≠ j := fun e => h (e ▸ RE.mem_pre hp)
    simp only [getD_set_ne false h2]
theorem resU_same {rs : ResU} {listed : Array Bool} {i : Nat} (h : ∀ r ∈ rs, i ∉ r.all) : resU rs (listed.setIfInBounds i true) = resU rs listed := by
  unfold resU
  exact List.map_congr_left fun r hr => reOb_off (h r hr)
theorem getD_set_self {listed : Array Bool} {i : Nat} (hi : i < listed.size) : (listed.setIfInBounds i true).getD i false = true := by simp [hi]
theorem resU_set {md : Region.Mode} {ops : Array Oper} {rs : ResU} {listed : Array Bool} {i p : Nat} {r : RE} {ob : Ob} (hw : WfU md ops rs) (hp : rs[p]? = some r) (hm : i ∈ r.all) (ho : reOb (listed.setIfInBounds i true) r = ob) :
    resU rs (listed.setIfInBounds i true) = (resU rs listed).set p ob := by
  apply List.ext_getElem?
  intro j
  rw [List.getElem?_set]
  unfold resU
  rw [List.getElem?_map]
  by_cases e : p = j
  · subst e
    have hlt : p < rs.length := (List.getElem?_eq_some_iff.1 hp).1
    rw [hp]
    simp [hlt, ho]
  · rw [if_neg e, List.getElem?_map]
    cases hj : rs[j]? with
    | none => rfl
    | some r' =>
      simp only [Option.map_some, Option.some.injEq]
      exact reOb_off fun hm' => e (hw.one p r j r' i hp hj hm hm')
theorem onlys_of_ros {p : Nat → Prop} {o : Ob} {listed : Array Bool} {rs : ResU} (h : o ∈ resU rs listed) : AV.onlys p o.cs := by
  unfold resU at h
  obtain ⟨r, _, rfl⟩ := List.mem_map.1 h
  unfold reOb RE.ob
  split
  · exact onlys_ro _ _
  · split
    · split <;> exact onlys_ro _ []
    · exact onlys_ro _ []
section
variable {P : Program} {C : Ctx} {ops : Array Oper} {σ : List Ob} {md : Region.Mode} {rs : ResU} {pri : List Nat} {listed : Array Bool} {E : EE} {a : Act} {w : World}
theorem SimU.op {Q : Exit → Act → World → Prop} {i : Nat} {o : Oper} {v : AV} {K : Act → World → Prop} (hw : WfU md ops rs) (hs : SimU C σ rs listed E a w) (hi : i ∈ Region.ready md ops listed) (ho : ops[i]? = some o) (hd : ∀ t, o.dst = some t → t < C.n)
    (hy : YU P C ops σ rs i o v E) (hK : ∀ a' w', SimU C σ rs (listed.setIfInBounds i true) (putE E o.dst v) a' w' → K a' w') : wpOp P ops Q i K a w := by
  obtain ⟨s1, s2, s3, scl, s4, s5, φ, hG, hst, hE⟩ := hs
  have hi0 := (mem_ready.1 hi).1
  obtain ⟨dst, op, ty, pos, after, g⟩ := o
  simp only at hd
  have putA : ∀ (u : Value) (t : Nat), dst ≠ some t → (a.put dst u).tmps.getD t undef = a.tmps.getD t undef := by
    intro u t hne
    cases dst with
    | none => rfl
    | some s => rw [getD_put a s t u (by rw [s2]; exact hd s rfl), if_neg fun e => hne (by rw [e])]
  have putR : ∀ {φ' : Nat → Option Nat} {σ' : List Ob} {w' : World} {u : Value}, (∀ t, AV.rel ⟨w', φ', σ', C.ok⟩ (E t) (a.tmps.getD t undef)) → AV.rel ⟨w', φ', σ', C.ok⟩ v u → ∀ t, AV.rel ⟨w', φ', σ', C.ok⟩ (putE E dst v t) ((a.put dst u).tmps.getD t undef) := by
    intro φ' σ' w' u h1 h2 t
    cases dst with
    | none => exact h1 t
    | some s =>
      rw [getD_put a s t u (by rw [s2]; exact hd s rfl)]
      simp only [putE]
      split
      · exact h2
      · exact h1 t
  have putJ : ∀ {φ' : Nat → Option Nat} {σ' : List Ob} {w' : World} {u : Value}, (∀ t, AV.rel ⟨w', φ', σ', C.ok⟩ (E t) (a.tmps.getD t undef)) → ∀ t, AV.rel ⟨w', φ', σ', C.ok⟩ (putE E dst .junk t) ((a.put dst u).tmps.getD t undef) := by
    intro φ' σ' w' u h1 t
    cases dst with
    | none => exact h1 t
    | some s =>
      rw [getD_put a s t u (by rw [s2]; exact hd s rfl)]
      simp only [putE]
      split
      · simp [AV.rel]
      · exact h1 t
  have szR : ∀ u, (a.put dst u).tmps.size = C.n := fun u => by cases dst <;> simp [Act.put, s2]
  have dfR : ∀ u, (a.put dst u).defers = [] := fun u => by cases dst <;> exact s1
  have s3' : ∀ (p : Nat) r, rs[p]? = some r → ∀ k ∈ r.all, k < (listed.setIfInBounds i true).size := fun p r hp k hk => by simpa using s3 p r hp k hk
  have scl' : ∀ (p : Nat) r j s, rs[p]? = some r → r.pre = some (j, s) → (listed.setIfInBounds i true).getD r.idx false = true → (listed.setIfInBounds i true).getD j false = true := by
    intro p r j s hp hpr hl
    have hjs := s3 p r hp j (RE.mem_pre hpr)
    by_cases hij : i = j
    · rw [hij]; exact getD_set_self hjs
    rw [getD_set_ne false hij]
    by_cases hir : i = r.idx
    · obtain ⟨o', ho', e, he, hb, hon⟩ := hw.edge p r j s hp hpr
      obtain ⟨_, o'', ho'', hall⟩ := mem_ready.1 hi
      have : o'' = o' := Option.some.inj (ho''.symm.trans (hir ▸ ho'))
      subst this
      have := hall e he hb
      rw [hon] at this
      exact this
    · rw [getD_set_ne false hir] at hl
      exact scl p r j s hp hpr hl
  have onlyR : ∀ {v' : AV}, (∀ (p : Nat) r, rs[p]? = some r → r.pre.isSome = true → (listed.setIfInBounds i true).getD r.idx false = false → v'.only (fun k => k ≠ σ.length + p)) → ∀ (p : Nat) r, rs[p]? = some r → r.pre.isSome = true → (listed.setIfInBounds i true).getD r.idx false = false → ∀ t, (putE E dst v' t).only (fun k => k ≠ σ.length + p) := by
    intro v' h p r hp hpr hl t
    have hl0 : listed.getD r.idx false = false := by
      by_cases e : i = r.idx
      · rw [e, getD_set_self (s3 p r hp _ r.mem_idx)] at hl; cases hl
      · rwa [getD_set_ne false e] at hl
    cases dst with
    | none => exact s5 p r hp hpr hl0 t
    | some s =>
      simp only [putE]
      split
      · exact h p r hp hpr hl
      · exact s5 p r hp hpr hl0 t
  -- other places' rows lie where they lay
  have slotR : ∀ (p : Nat) r j s, rs[p]? = some r → r.pre = some (j, s) → i ≠ j → ∀ u, (a.put dst u).tmps.getD s undef = a.tmps.getD s undef := fun p r j s hp hpr hij u => putA u s fun e => hij (hw.slot p r j s hp hpr i _ ho e)
  unfold wpOp
  simp only [ho]
  rcases hy with ⟨h0, hsg, ⟨hg, hv⟩ | ⟨hg, rfl⟩⟩ | ⟨p, r, hp, hri, hrp, hgd, hds, hmk⟩ | ⟨p, r, s, hp, hrp, hgd, hds, hmk, rfl⟩ | ⟨p, r, j, s, hp, hri, hrp, hgd, hds, hmk, rfl⟩
  · have hres := resU_same (listed := listed) (fun r hr => h0 r hr)
    have hne : ∀ (p : Nat) r, rs[p]? = some r → i ≠ r.idx := fun p r hp e => h0 r (List.mem_of_getElem? hp) (e ▸ r.mem_idx)
    have hnj : ∀ (p : Nat) r j s, rs[p]? = some r → r.pre = some (j, s) → i ≠ j := fun p r j s hp hpr e => h0 r (List.mem_of_getElem? hp) (e ▸ RE.mem_pre hpr)
    rw [if_pos (gsay_yes hg a _ hE)]
    refine .inl (hv (resU rs listed) a ⟨w, φ, σ ++ resU rs listed, C.ok⟩ hG rfl (fun x _ => ev_evE' hE x) _ _ fun u w' hb hu => hK _ _ ?_)
    obtain ⟨g1, g2⟩ := good_below hG hb
    refine ⟨dfR u, szR u, s3', scl', s4, onlyR (fun p r hp hpr hl => (hsg p r hp hpr).resolve_right fun ⟨_, e, he, hb, hon⟩ => by
      rw [getD_set_ne false (hne p r hp)] at hl
      obtain ⟨_, o', ho', hall'⟩ := mem_ready.1 hi
      rw [ho] at ho'; injection ho' with ho'; subst ho'
      have := hall' e he (hb md)
      rw [hon, hl] at this; cases this), φ, by rw [hres]; exact g1, ⟨fun p r hp hl => ?_⟩, by rw [hres]; exact putR (fun t => AV.rel_keeps g2 _ _ (AV.only_true _) (hE t)) hu⟩
    rw [getD_set_ne false (hne p r hp)] at hl
    obtain ⟨k1, k2⟩ := hst.made p r hp hl
    refine ⟨fun j s hpr hj => ?_, fun h => k2 fun j s hpr => ?_⟩
    · rw [getD_set_ne false (hnj p r j s hp hpr)] at hj
      rw [hres, slotR p r j s hp hpr (hnj p r j s hp hpr)]
      exact AV.rel_keeps g2 _ _ (AV.only_true _) (k1 j s hpr hj)
    · have := h j s hpr
      rwa [getD_set_ne false (hnj p r j s hp hpr)] at this
  · have hres := resU_same (listed := listed) (fun r hr => h0 r hr)
    have hne : ∀ (p : Nat) r, rs[p]? = some r → i ≠ r.idx := fun p r hp e => h0 r (List.mem_of_getElem? hp) (e ▸ r.mem_idx)
    have hnj : ∀ (p : Nat) r j s, rs[p]? = some r → r.pre = some (j, s) → i ≠ j := fun p r j s hp hpr e => h0 r (List.mem_of_getElem? hp) (e ▸ RE.mem_pre hpr)
    rw [gsay_no hg a _ hE, if_neg (by simp)]
    refine hK _ _ ⟨dfR _, szR _, s3', scl', s4, onlyR (fun p r hp hpr hl => (hsg p r hp hpr).resolve_right fun ⟨_, e, he, hb, hon⟩ => by
      rw [getD_set_ne false (hne p r hp)] at hl
      obtain ⟨_, o', ho', hall'⟩ := mem_ready.1 hi
      rw [ho] at ho'; injection ho' with ho'; subst ho'
      have := hall' e he (hb md)
      rw [hon, hl] at this; cases this), φ, by rw [hres]; exact hG, ⟨fun p r hp hl => ?_⟩, by rw [hres]; exact putR hE (by simp [AV.rel, RV.rel])⟩
    rw [getD_set_ne false (hne p r hp)] at hl
    obtain ⟨k1, k2⟩ := hst.made p r hp hl
    refine ⟨fun j s hpr hj => ?_, fun h => k2 fun j s hpr => ?_⟩
    · rw [getD_set_ne false (hnj p r j s hp hpr)] at hj
      rw [hres, slotR p r j s hp hpr (hnj p r j s hp hpr)]
      exact k1 j s hpr hj
    · have := h j s hpr
      rwa [getD_set_ne false (hnj p r j s hp hpr)] at this
  · -- an object or a row is made in its place
    simp only at hgd hds
    subst hgd; subst hri
    have his := s3 p r hp _ r.mem_idx
    have hlf : listed.getD r.idx false = false := getD_both hi0
    have hpl : p < rs.length := (List.getElem?_eq_some_iff.1 hp).1
    have hob0 : reOb listed r = ⟨r.t, 0, []⟩ := by unfold reOb; rw [hlf]; simp [hrp]
    have hq : (σ ++ resU rs listed)[σ.length + p]? = some ⟨r.ob.t, 0, []⟩ := by
      rw [List.getElem?_append_right (by omega), show σ.length + p - σ.length = p by omega]
      unfold resU
      rw [List.getElem?_map, hp]
      simp only [Option.map_some, hob0, RE.ob]
    have hφq : φ (σ.length + p) = none := (hst.made p r hp hlf).2 fun j s h => by rw [hrp] at h; cases h
    have hset := resU_set (ob := r.ob) (listed := listed) hw hp r.mem_idx (by unfold reOb; rw [getD_set_self his]; rfl)
    have hσ : (σ ++ resU rs listed).set (σ.length + p) r.ob = σ ++ resU rs (listed.setIfInBounds r.idx true) := by
      rw [List.set_append_right _ _ (by omega), show σ.length + p - σ.length = p by omega, hset]
    rw [if_pos (by simp [Region.wanted])]
    refine .inl (hmk.2 a w φ _ hG hq hφq (fun x _ => ev_evE' hE x) _ _ fun u w' g hb hg hor hu => hK _ _ ?_)
    have g1 := good_fillU hG hb hg hq hφq hor
    have hall : ∀ t, AV.rel ⟨w', upd φ (σ.length + p) (some g), (σ ++ resU rs listed).set (σ.length + p) r.ob, C.ok⟩ (E t) (a.tmps.getD t undef) := fun t => rel_fillU hb hg hq hφq _ _ (hE t)
    have hoth : ∀ p' r' , rs[p']? = some r' → p' ≠ p → r.idx ∉ r'.all := fun p' r' hp' hne hm => hne (hw.one p' r' p r r.idx hp' hp hm r.mem_idx)
    refine ⟨dfR u, szR u, s3', scl', s4, onlyR fun p' r' hp' hpr' hl => ?_, upd φ (σ.length + p) (some g), by rw [← hσ]; exact g1, ⟨fun p' r' hp' hl => ?_⟩, by rw [← hσ]; exact putR hall hu⟩
    · have hne : p' ≠ p := by
        rintro rfl
        rw [hp] at hp'; injection hp' with hp'; subst hp'
        rw [hrp] at hpr'; cases hpr'
      rcases hmk.1 with rfl | rfl <;> (simp only [AV.only]; omega)
    · by_cases hpp : p' = p
      · subst hpp
        rw [hp] at hp'; injection hp' with hp'; subst hp'
        rw [getD_set_self his] at hl; cases hl
      · have hno := hoth p' r' hp' hpp
        have hri : r.idx ≠ r'.idx := fun e => hno (e ▸ r'.mem_idx)
        rw [getD_set_ne false hri] at hl
        obtain ⟨k1, k2⟩ := hst.made p' r' hp' hl
        refine ⟨fun j s hpr hj => ?_, fun h => ?_⟩
        · have hij : r.idx ≠ j := fun e => hno (e ▸ RE.mem_pre hpr)
          rw [getD_set_ne false hij] at hj
          rw [← hσ, slotR p' r' j s hp' hpr hij]
          exact rel_fillU hb hg hq hφq _ _ (k1 j s hpr hj)
        · rw [upd_ne (by omega)]
          refine k2 fun j s hpr => ?_
          have hij : r.idx ≠ j := fun e => hno (e ▸ RE.mem_pre hpr)
          have := h j s hpr
          rwa [getD_set_ne false hij] at this
  · -- a row is laid empty
    simp only at hgd hds
    subst hgd; subst hds
    have his := s3 p r hp _ (RE.mem_pre hrp)
    have hlf : listed.getD i false = false := getD_both hi0
    have hij := hw.two p r i s hp hrp
    have hlx : listed.getD r.idx false = false := by
      cases hh : listed.getD r.idx false with
      | false => rfl
      | true => rw [scl p r i s hp hrp hh] at hlf; cases hlf
    have hlx' : (listed.setIfInBounds i true).getD r.idx false = false := by rw [getD_set_ne false (Ne.symm hij)]; exact hlx
    have hob0 : reOb listed r = ⟨r.t, 0, []⟩ := by unfold reOb; rw [hlx]; simp [hrp, hlf]
    have hob1 : reOb (listed.setIfInBounds i true) r = ⟨r.t, r.sz, []⟩ := by unfold reOb; rw [hlx']; simp only [hrp, getD_set_self his]; rfl
    have hq : (σ ++ resU rs listed)[σ.length + p]? = some ⟨r.t, 0, []⟩ := by
      rw [List.getElem?_append_right (by omega), show σ.length + p - σ.length = p by omega]
      unfold resU
      rw [List.getElem?_map, hp]
      simp only [Option.map_some, hob0]
    have hφq : φ (σ.length + p) = none := (hst.made p r hp hlx).2 fun j s' h => by rw [hrp] at h; injection h with h; injection h with h; subst h; exact hlf
    have hset := resU_set (listed := listed) hw hp (RE.mem_pre hrp) hob1
    have hσ : (σ ++ resU rs listed).set (σ.length + p) ⟨r.t, r.sz, []⟩ = σ ++ resU rs (listed.setIfInBounds i true) := by
      rw [List.set_append_right _ _ (by omega), show σ.length + p - σ.length = p by omega, hset]
    rw [if_pos (by simp [Region.wanted])]
    refine .inl (hmk.2 a w φ _ hG hq hφq (fun x _ => ev_evE' hE x) _ _ fun u w' g hb hg hor hu => hK _ _ ?_)
    have g1 := good_fillU hG hb hg hq hφq hor
    have hall : ∀ t, AV.rel ⟨w', upd φ (σ.length + p) (some g), (σ ++ resU rs listed).set (σ.length + p) ⟨r.t, r.sz, []⟩, C.ok⟩ (E t) (a.tmps.getD t undef) := fun t => rel_fillU hb hg hq hφq _ _ (hE t)
    refine ⟨dfR u, szR u, s3', scl', s4, onlyR fun p' r' hp' hpr' hl => by simp [AV.only], upd φ (σ.length + p) (some g), by rw [← hσ]; exact g1, ⟨fun p' r' hp' hl => ?_⟩, by rw [← hσ]; exact putJ hall⟩
    by_cases hpp : p' = p
    · subst hpp
      rw [hp] at hp'; injection hp' with hp'; subst hp'
      refine ⟨fun j s' hpr hj => ?_, fun h => ?_⟩
      · rw [hrp] at hpr; injection hpr with hpr; injection hpr with e1 e2; subst e2
        rw [← hσ, getD_put a s s u (by rw [s2]; exact hd s rfl), if_pos rfl]
        exact hu
      · have := h i s hrp
        rw [getD_set_self his] at this; cases this
    · have hno : i ∉ r'.all := fun hm => hpp (hw.one p' r' p r i hp' hp hm (RE.mem_pre hrp))
      have hri : i ≠ r'.idx := fun e => hno (e ▸ r'.mem_idx)
      rw [getD_set_ne false hri] at hl
      obtain ⟨k1, k2⟩ := hst.made p' r' hp' hl
      refine ⟨fun j s' hpr hj => ?_, fun h => ?_⟩
      · have hij' : i ≠ j := fun e => hno (e ▸ RE.mem_pre hpr)
        rw [getD_set_ne false hij'] at hj
        rw [← hσ, slotR p' r' j s' hp' hpr hij']
        exact rel_fillU hb hg hq hφq _ _ (k1 j s' hpr hj)
      · rw [upd_ne (by omega)]
        refine k2 fun j s' hpr => ?_
        have hij' : i ≠ j := fun e => hno (e ▸ RE.mem_pre hpr)
        have := h j s' hpr
        rwa [getD_set_ne false hij'] at this
  · -- what was laid empty grows
    simp only at hgd hds
    subst hgd; subst hri
    have his := s3 p r hp _ r.mem_idx
    have hlf : listed.getD r.idx false = false := getD_both hi0
    have hij := hw.two p r j s hp hrp
    have hpl : p < rs.length := (List.getElem?_eq_some_iff.1 hp).1
    have hlj : listed.getD j false = true := by
      have := scl' p r j s hp hrp (getD_set_self his)
      rwa [getD_set_ne false hij] at this
    have hob0 : reOb listed r = ⟨r.t, r.sz, []⟩ := by unfold reOb; rw [hlf]; simp [hrp, hlj]
    have hq : (σ ++ resU rs listed)[σ.length + p]? = some ⟨r.t, r.sz, []⟩ := by
      rw [List.getElem?_append_right (by omega), show σ.length + p - σ.length = p by omega]
      unfold resU
      rw [List.getElem?_map, hp]
      simp only [Option.map_some, hob0]
    have hset := resU_set (ob := r.ob) (listed := listed) hw hp r.mem_idx (by unfold reOb; rw [getD_set_self his]; rfl)
    have hσ : (σ ++ resU rs listed).set (σ.length + p) r.ob = σ ++ resU rs (listed.setIfInBounds r.idx true) := by
      rw [List.set_append_right _ _ (by omega), show σ.length + p - σ.length = p by omega, hset]
    have hfr : ∀ (k : Nat) ob, (σ ++ resU rs listed)[k]? = some ob → AV.onlys (fun z => z ≠ σ.length + p) ob.cs := fun k ob hk => by
      rcases List.mem_append.1 (List.mem_of_getElem? hk) with h | h
      · exact s4 p r hp (by rw [hrp]; rfl) ob h
      · exact onlys_of_ros h
    have hE5 := s5 p r hp (by rw [hrp]; rfl) hlf
    rw [if_pos (by simp [Region.wanted])]
    refine .inl (hmk a w φ _ hG hq ((hst.made p r hp hlf).1 j s hrp hlj) hfr (fun x _ => ev_evE' hE x) _ _ fun u w' b g1 g2 hu => hK _ _ ?_)
    have hall : ∀ t, AV.rel ⟨w', upd φ (σ.length + p) b, (σ ++ resU rs listed).set (σ.length + p) r.ob, C.ok⟩ (E t) (a.tmps.getD t undef) := fun t => AV.rel_keeps g2 _ _ (hE5 t) (hE t)
    have hoth : ∀ p' r' , rs[p']? = some r' → p' ≠ p → r.idx ∉ r'.all := fun p' r' hp' hne hm => hne (hw.one p' r' p r r.idx hp' hp hm r.mem_idx)
    refine ⟨dfR u, szR u, s3', scl', s4, onlyR fun p' r' hp' hpr' hl => ?_, upd φ (σ.length + p) b, by rw [← hσ]; exact g1, ⟨fun p' r' hp' hl => ?_⟩, by rw [← hσ]; exact putR hall hu⟩
    · have hne : p' ≠ p := by
        rintro rfl
        rw [hp] at hp'; injection hp' with hp'; subst hp'
        rw [getD_set_self his] at hl; cases hl
      simp only [AV.only]; omega
    · by_cases hpp : p' = p
      · subst hpp
        rw [hp] at hp'; injection hp' with hp'; subst hp'
        rw [getD_set_self his] at hl; cases hl
      · have hno := hoth p' r' hp' hpp
        have hri : r.idx ≠ r'.idx := fun e => hno (e ▸ r'.mem_idx)
        rw [getD_set_ne false hri] at hl
        obtain ⟨k1, k2⟩ := hst.made p' r' hp' hl
        refine ⟨fun j' s' hpr hj => ?_, fun h => ?_⟩
        · have hij' : r.idx ≠ j' := fun e => hno (e ▸ RE.mem_pre hpr)
          rw [getD_set_ne false hij'] at hj
          rw [← hσ, slotR p' r' j' s' hp' hpr hij']
          exact AV.rel_keeps g2 _ _ (by simp only [AV.only]; omega) (k1 j' s' hpr hj)
        · rw [upd_ne (by omega)]
          refine k2 fun j' s' hpr => ?_
          have hij' : r.idx ≠ j' := fun e => hno (e ▸ RE.mem_pre hpr)
          have := h j' s' hpr
          rwa [getD_set_ne false hij'] at this
theorem SimU.mv {i : Nat} {o : Oper} {v : AV} (hw : WfU md ops rs) (hs : SimU C σ rs listed E a w) (ho : ops[i]? = some o) (hd : ∀ t, o.dst = some t → t < C.n) (hm : isMv o = true) (hmr : ∀ r ∈ rs, i ∉ r.all)
    (hy : YU P C ops σ rs i o v E) : ∃ u, YA P ops o u a ∧ SimU C σ rs (listed.setIfInBounds i true) (putE E o.dst v) (a.put o.dst u) w := by
  obtain ⟨s1, s2, s3, scl, s4, s5, φ, hG, hst, hE⟩ := hs
  obtain ⟨dst, op, ty, pos, after, g⟩ := o
  obtain ⟨t, rfl, rfl⟩ : ∃ t, dst = some t ∧ g = none := by
    unfold isMv at hm
    split at hm
    · rename_i he; injection he with e1 e2 e3 e4 e5 e6; exact ⟨_, e1, e6⟩
    · rename_i he; injection he with e1 e2 e3 e4 e5 e6; exact ⟨_, e1, e6⟩
    · cases hm
  have htn := hd t rfl
  have hres := resU_same (listed := listed) hmr
  have hne : ∀ (p : Nat) r, rs[p]? = some r → i ≠ r.idx := fun p r hp e => hmr r (List.mem_of_getElem? hp) (e ▸ r.mem_idx)
  have hnj : ∀ (p : Nat) r j s, rs[p]? = some r → r.pre = some (j, s) → i ≠ j := fun p r j s hp hpr e => hmr r (List.mem_of_getElem? hp) (e ▸ RE.mem_pre hpr)
  have bad : ∀ (p : Nat) r, rs[p]? = some r → i ∈ r.all → False := fun p r hp hm => hmr r (List.mem_of_getElem? hp) hm
  rcases hy with ⟨h0, hsg, ⟨hg, hv⟩ | ⟨hg, _⟩⟩ | ⟨p, r, hp, hri, _⟩ | ⟨p, r, s, hp, hrp, _⟩ | ⟨p, r, j, s, hp, hri, _⟩
  · have hwp := hv (resU rs listed) a ⟨w, φ, σ ++ resU rs listed, C.ok⟩ hG rfl (fun x _ => ev_evE' hE x) (fun a' w' => ∃ u, a' = a.put (some t) u ∧ AV.rel ⟨w', φ, σ ++ resU rs listed, C.ok⟩ v u) (fun _ _ _ => False) fun u w' hb hu => ⟨u, rfl, hu⟩
    rcases isMv_ya (P := P) (ops := ops) hm a with ⟨u, hya⟩ | hno
    · refine ⟨u, hya, ?_⟩
      unfold Oper.wp at hwp
      rw [hya.2 w] at hwp
      simp only [Oper.upon] at hwp
      obtain ⟨u', he, hu⟩ := hwp
      have hu' : u = u' := by
        have h1 := getD_put a t t u (by rw [s2]; exact htn)
        have h2 := getD_put a t t u' (by rw [s2]; exact htn)
        rw [if_pos rfl] at h1 h2
        rw [← h1, ← h2, he]
      subst hu'
      refine ⟨s1, by simp [Act.put, s2], fun p r hp k hk => by simpa using s3 p r hp k hk, fun p r j s hp hpr hl => ?_, s4, fun p r hp hpr hl s => ?_, φ, by rw [hres]; exact hG, ⟨fun p r hp hl => ?_⟩, fun s => ?_⟩
      · rw [getD_set_ne false (hne p r hp)] at hl
        rw [getD_set_ne false (hnj p r j s hp hpr)]
        exact scl p r j s hp hpr hl
      · rw [getD_set_ne false (hne p r hp)] at hl
        simp only [putE]
        split
        · exact (hsg p r hp hpr).resolve_right fun h => by rw [hm] at h; exact absurd h.1 (by decide)
        · exact s5 p r hp hpr hl s
      · rw [getD_set_ne false (hne p r hp)] at hl
        obtain ⟨k1, k2⟩ := hst.made p r hp hl
        refine ⟨fun j s hpr hj => ?_, fun h => k2 fun j s hpr => ?_⟩
        · rw [getD_set_ne false (hnj p r j s hp hpr)] at hj
          rw [hres, getD_put a t s u (by rw [s2]; exact htn), if_neg fun e => hnj p r j s hp hpr (hw.slot p r j s hp hpr i _ ho (by rw [e]))]
          exact k1 j s hpr hj
        · have := h j s hpr
          rwa [getD_set_ne false (hnj p r j s hp hpr)] at this
      · rw [hres, getD_put a t s u (by rw [s2]; exact htn)]
        simp only [putE]
        split
        · exact hu
        · exact hE s
    · exfalso
      unfold Oper.wp at hwp
      cases hr : (execOp a.eval (⟨some t, op, ty, pos, after, none⟩ : Oper)).run P w with
      | ok x w' => exact (hno w x w').1 hr
      | halt q w' =>
        rw [hr] at hwp
        cases q <;> first | exact hwp | exact (hno w .skip w').2 _ hr
  · simp [gsayE] at hg
  · exact (bad p r hp (hri ▸ r.mem_idx)).elim
  · exact (bad p r hp (RE.mem_pre hrp)).elim
  · exact (bad p r hp (hri ▸ r.mem_idx)).elim
theorem wpAny_of_V {n g : Nat} {L : Array Bool → EE → Prop} {F : Act → World → Prop} (hpri : ∀ e ∈ pri, freeAll md ops e = true) (hsel : ∀ (j : Nat) (o : Oper) cs b, ops[j]? = some o → o.op ≠ .select cs b) (hw : WfU md ops rs) (hpm : ∀ e ∈ pri, ∀ r ∈ rs, e ∉ r.all) (hd : ∀ (i : Nat) o t, ops[i]? = some o → o.dst = some t → t < C.n)
    (hL : ∀ listed E a w, L listed E → SimU C σ rs listed E a w → wpAny P md ops (nrm F) g listed a w) :
    ∀ (f : Nat) (listed : Array Bool) (E : EE) (a : Act) (w : World), SimU C σ rs listed E a w → wpAnyV P C md ops σ rs pri n L f listed E → wpAny P md ops (nrm F) (f + g) listed a w
  | 0, listed, E, a, w, hs, h => by rw [Nat.zero_add]; exact hL _ _ _ _ h hs
  | f + 1, listed, E, a, w, hs, h => by
    rw [show f + 1 + g = (f + g) + 1 by omega]
    rcases h with ⟨e, he, her, hen, o, v, ho, hy, hK⟩ | ⟨_, h0, h⟩
    · obtain ⟨hmv, hap⟩ := freeAll_spec ho (hpri e he)
      obtain ⟨u, hya, hs'⟩ := SimU.mv hw hs ho (fun t ht => hd e o t ho ht) hmv (hpm e he) hy
      exact wpAny_ya ho hsel _ listed a w hya (fun j oj hj hje hun hno => hap j oj hj hje hno fun ed hed hb hon => by
        obtain ⟨_, o', ho', hall⟩ := mem_ready.1 her
        have : o' = o := Option.some.inj (ho'.symm.trans ho)
        subst this
        have h1 := hall ed hed hb
        rw [hon, getD_both hun] at h1
        cases h1) her (wpAny_of_V hpri hsel hw hpm hd hL f _ _ _ w hs' hK)
    · refine ⟨fun h1 => absurd h1 h0, fun i hi => ?_⟩
      obtain ⟨o, v, ho, hy, hK⟩ := (h i hi).2
      exact SimU.op hw hs hi ho (fun t ht => hd i o t ho ht) hy fun a' w' hs' => wpAny_of_V hpri hsel hw hpm hd hL f _ _ a' w' hs' hK
end
def keyAll (k : Nat × Option (Nat × Nat)) : List Nat := k.1 :: match k.2 with
  | some p => [p.1]
  | none => []
def wfB (l : List Oper) (pri : List Nat) (n : Nat) (keys : List (Nat × Option (Nat × Nat))) : Bool :=
  decide (keys.flatMap keyAll).Nodup && (keys.flatMap keyAll).all (fun i => decide (i < n) && !pri.contains i) && keys.all fun k => match k.2 with
    | none => true
    | some p => (match l[k.1]? with
      | some o => o.after.any fun e => Region.binds .any e && decide (e.on = p.1)
      | none => false) && (List.range l.length).all fun i => match l[i]? with
        | some o => decide (o.dst ≠ some p.2) || decide (i = p.1)
        | none => true
theorem nd_flat {κ : Type} {f : κ → List Nat} : ∀ {l : List κ}, (l.flatMap f).Nodup → ∀ (p : Nat) a (p' : Nat) a' i, l[p]? = some a → l[p']? = some a' → i ∈ f a → i ∈ f a' → p = p'
  | [], _, p, a, _, _, _, h, _, _, _ => by simp at h
  | x :: l, hn, p, a, p', a', i, h, h', hi, hi' => by
    rw [List.flatMap_cons, List.nodup_append] at hn
    obtain ⟨_, h2, h3⟩ := hn
    cases p with
    | zero =>
      cases p' with
      | zero => rfl
      | succ p' =>
        simp only [List.getElem?_cons_zero, Option.some.injEq, List.getElem?_cons_succ] at h h'
        subst h
        exact absurd rfl (h3 i hi i (List.mem_flatMap.2 ⟨a', List.mem_of_getElem? h', hi'⟩))
    | succ p =>
      cases p' with
      | zero =>
        simp only [List.getElem?_cons_zero, Option.some.injEq, List.getElem?_cons_succ] at h h'
        subst h'
        exact absurd rfl (h3 i hi' i (List.mem_flatMap.2 ⟨a, List.mem_of_getElem? h, hi⟩))
      | succ p' =>
        simp only [List.getElem?_cons_succ] at h h'
        rw [nd_flat h2 p a p' a' i h h' hi hi']
theorem nd_in {κ : Type} {f : κ → List Nat} : ∀ {l : List κ}, (l.flatMap f).Nodup → ∀ a ∈ l, (f a).Nodup
  | [], _, a, h => by cases h
  | x :: l, hn, a, h => by
    rw [List.flatMap_cons, List.nodup_append] at hn
    rcases List.mem_cons.1 h with rfl | h
    · exact hn.1
    · exact nd_in hn.2.1 a h
def RE.key (r : RE) : Nat × Option (Nat × Nat) := (r.idx, r.pre)
theorem RE.all_key (r : RE) : r.all = keyAll r.key := by
  unfold RE.all keyAll RE.key
  cases r.pre <;> rfl
theorem wf_of {l : List Oper} {rs : ResU} {pri : List Nat} {n : Nat} {keys : List (Nat × Option (Nat × Nat))} (hk : rs.map RE.key = keys) (h : wfB l pri n keys = true) :
    WfU .any l.toArray rs ∧ (∀ r ∈ rs, ∀ i ∈ r.all, i < n) ∧ ∀ e ∈ pri, ∀ r ∈ rs, e ∉ r.all := by
  subst hk
  unfold wfB at h
  simp only [Bool.and_eq_true, decide_eq_true_eq] at h
  obtain ⟨⟨h1, h2⟩, h3⟩ := h
  have hin : ∀ r ∈ rs, ∀ i ∈ r.all, i < n ∧ i ∉ pri := fun r hr i hi => by
    have := List.all_eq_true.1 h2 i (List.mem_flatMap.2 ⟨r.key, List.mem_map_of_mem hr, r.all_key ▸ hi⟩)
    simpa using this
  have at_ : ∀ (p : Nat) r, rs[p]? = some r → (rs.map RE.key)[p]? = some r.key := fun p r hp => by rw [List.getElem?_map, hp]; rfl
  have h4 : ∀ (p : Nat) r j s, rs[p]? = some r → r.pre = some (j, s) → (∃ o, l[r.idx]? = some o ∧ ∃ e ∈ o.after, Region.binds .any e = true ∧ e.on = j) ∧ ∀ i o, l[i]? = some o → o.dst = some s → i = j := by
    intro p r j s hp hpr
    have := List.all_eq_true.1 h3 r.key (List.mem_map_of_mem (List.mem_of_getElem? hp))
    simp only [RE.key, hpr, Bool.and_eq_true] at this
    obtain ⟨k1, k2⟩ := this
    refine ⟨?_, fun i o hi hd => ?_⟩
    · split at k1
      · rename_i o ho
        rw [Array.any_eq_true'] at k1
        obtain ⟨e, he, hb⟩ := k1
        simp only [Bool.and_eq_true, decide_eq_true_eq] at hb
        exact ⟨o, ho, e, he, hb.1, hb.2⟩
      · cases k1
    · have := List.all_eq_true.1 k2 i (List.mem_range.2 (List.getElem?_eq_some_iff.1 hi).1)
      rw [hi] at this
      simp only [Bool.or_eq_true, decide_eq_true_eq] at this
      rcases this with h | h
      · exact absurd hd h
      · exact h
  refine ⟨⟨fun p r p' r' i hp hp' hm hm' => nd_flat h1 p r.key p' r'.key i (at_ p r hp) (at_ p' r' hp') (r.all_key ▸ hm) (r'.all_key ▸ hm'), fun p r j s hp hpr he => ?_, fun p r j s hp hpr => ?_, fun p r j s hp hpr i o hi hd => (h4 p r j s hp hpr).2 i o (by simpa using hi) hd⟩, fun r hr i hi => (hin r hr i hi).1, fun e he r hr hm => (hin r hr e hm).2 he⟩
  · have := nd_in h1 r.key (List.mem_of_getElem? (at_ p r hp))
    rw [← r.all_key] at this
    unfold RE.all at this
    simp [hpr] at this
    exact this he
  · obtain ⟨o, ho, he⟩ := (h4 p r j s hp hpr).1
    exact ⟨o, by simpa using ho, he⟩
theorem reOb_blank {m : Nat} (r : RE) : reOb (Array.replicate m false) r = ⟨r.t, 0, []⟩ := by
  unfold reOb
  rw [getD_replicate_false]
  simp only [Bool.false_eq_true, if_false]
  split
  · rw [getD_replicate_false]; rfl
  · rfl
theorem resU_full {rs : ResU} {listed : Array Bool} (h : ∀ r ∈ rs, listed.getD r.idx false = true) : resU rs listed = fullU rs := by
  unfold resU fullU
  refine List.map_congr_left fun r hr => ?_
  unfold reOb
  rw [if_pos (h r hr)]
section
variable {P : Program} {C : Ctx} {k : List Item} {R : Act → World → Prop} {env : Env} {σ : List Ob}
structure RunsU (P : Program) (C : Ctx) (ops : Array Oper) (rs : ResU) (tail : List Oper) (l : List (Nat × Oper)) (k : List Item) (R : Act → World → Prop) (S : St) : Prop where
  run : wpLexV P C ops S.σ rs (fun E => ∃ env', E = look env' ∧ RunsL P C ops tail k R ⟨env', S.σ ++ fullU rs⟩) l (look S.env)
theorem Runs.drawV {id : Nat} {l : List Oper} {cn : Nat} {keys : List (Nat × Option (Nat × Nat))} (pri head : List Nat) (n : Nat) (rs : ResU) (hf : P.follows .mixedOrders = true) (hn : C.n = cn) (hB : drawQB l pri head n = true) (hd : dstOk cn l = true)
    (hk : rs.map RE.key = keys) (hwf : wfB l pri n keys = true)
    (h : RunsU P C l.toArray rs (l.drop n) (pick l head) k R ⟨env, σ⟩) : Runs P C (.code (.region id l.toArray true) :: k) R ⟨env, σ⟩ := by
  refine ⟨fun a w hs => Fin.of_wp (wp_region_any hf ?_)⟩
  unfold drawQB at hB
  simp only [Bool.and_eq_true, decide_eq_true_eq] at hB
  obtain ⟨⟨⟨⟨⟨⟨hsel, hnl⟩, hsk⟩, hch⟩, hlen⟩, hpr⟩, hlex⟩ := hB
  obtain ⟨hw, hin, hpm⟩ := wf_of (l := l) (pri := pri) (n := n) hk hwf
  have hpri : ∀ e ∈ pri, freeAll .any l.toArray e = true := fun e he => by have := List.all_eq_true.1 hpr e he; simp only [Bool.and_eq_true] at this; exact this.2
  have hpn : ∀ e ∈ pri, e < n := fun e he => by have := List.all_eq_true.1 hpr e he; simp only [Bool.and_eq_true, decide_eq_true_eq] at this; exact this.1
  obtain ⟨s1, s2, φ, hG, hE⟩ := hs
  have hb : Below w.heap.size w { w with drawn := w.drawn + 1 } := ⟨rfl, rfl, rfl, Nat.le_refl _, fun _ _ => rfl⟩
  obtain ⟨g1, g2⟩ := good_below hG hb
  let φ0 : Nat → Option Nat := fun i => if i < σ.length then φ i else none
  have hφ0 : ∀ j, φ0 (σ.length + j) = none := fun j => if_neg (by omega)
  have hblank : ∀ (j : Nat) r, rs[j]? = some r → (resU rs (Array.replicate l.length false))[j]? = some ⟨r.t, 0, []⟩ := fun j r hj => by unfold resU; rw [List.getElem?_map, hj]; simp only [Option.map_some, reOb_blank]
  obtain ⟨G1, G2⟩ := good_grow (φ' := φ0) (new := resU rs (Array.replicate l.length false)) g1 (Below.refl _ _) (fun i hi => if_pos hi) (fun j hj g hg => by rw [hφ0] at hg; cases hg) (fun i j g hi hj e1 e2 => by rw [hφ0] at e1; cases e1) (fun j o hj => by
    rw [hφ0]
    unfold resU at hj
    rw [List.getElem?_map, Option.map_eq_some_iff] at hj
    obtain ⟨r, _, rfl⟩ := hj
    rw [reOb_blank]; rfl)
  have hE1 : ∀ t, AV.rel ⟨{ w with drawn := w.drawn + 1 }, φ0, σ ++ resU rs (Array.replicate l.length false), C.ok⟩ (look env t) (a.tmps.getD t undef) := fun t => AV.rel_keeps G2 _ _ (AV.only_true _) (AV.rel_keeps g2 _ _ (AV.only_true _) (hE t))
  have hplace : ∀ (p : Nat) r, rs[p]? = some r → (σ ++ resU rs (Array.replicate l.length false))[σ.length + p]? = some ⟨r.t, 0, []⟩ := fun p r hp => by
    rw [List.getElem?_append_right (by omega), show σ.length + p - σ.length = p by omega]
    exact hblank p r hp
  have hdd : ∀ (i : Nat) o t, l.toArray[i]? = some o → o.dst = some t → t < C.n := fun i o t hi ht => by rw [hn]; exact dstOk_at hd i o t (by simpa using hi) ht
  have inv0 : HeadInv .any l.toArray n (Array.replicate l.length false) :=
    ⟨by simp, fun j oj _ hl => (by rw [getD_replicate_false] at hl; cases hl), fun t _ ht => getD_in (by simpa using ht) (getD_replicate_false _ _)⟩
  have hmemH : ∀ p ∈ pick l head, l.toArray[p.1]? = some p.2 := fun p hp => by simpa using pick_mem hp
  have hsz : l.toArray.size = (pick l head).length + (l.length - n) := by simp; omega
  refine (show ∀ m, m = l.toArray.size → wpAny P .any l.toArray (nrm (Fin P k R)) m (Array.replicate l.toArray.size false) a { w with drawn := w.drawn + 1 } from ?_) _ rfl
  intro m hm
  obtain rfl := hm.trans hsz
  have H := wpAnyV_lex (P := P) (C := C) (σ := σ) (md := .any) (ops := l.toArray) (g := l.length - n) hpri hpn hsk hch (by simpa using hnl) (pick l head) (Array.replicate l.toArray.size false) (look env) hmemH (by simpa using inv0) (by simpa using hlex) h.run
  have hS0 : SimU C σ rs (Array.replicate l.length false) (look env) a { w with drawn := w.drawn + 1 } := by
    refine ⟨s1, s2, fun p r hp i hi => ?_, fun p r j s hp hpr hl => ?_, fun p r hp hpr o ho => ?_, fun p r hp hpr hl t => ?_, φ0, G1, ⟨fun p r hp hl => ⟨fun j s hpr hj => ?_, fun _ => hφ0 p⟩⟩, hE1⟩
    · have := hin r (List.mem_of_getElem? hp) i hi
      simp only [Array.size_replicate]; omega
    · rw [getD_replicate_false] at hl; cases hl
    · obtain ⟨i, hi⟩ := List.getElem?_of_mem ho
      have hil := (List.getElem?_eq_some_iff.1 hi).1
      have hob := G1.ob i o (by rw [show (⟨{ w with drawn := w.drawn + 1 }, φ0, σ ++ resU rs (Array.replicate l.length false), C.ok⟩ : Mem).σ = σ ++ resU rs (Array.replicate l.length false) from rfl, List.getElem?_append_left hil]; exact hi)
      refine onlys_at fun j v hj => ?_
      cases hg : φ0 i with
      | none => simp only [hg, ObRel] at hob; rw [hob] at hj; simp at hj
      | some g =>
        simp only [hg, ObRel] at hob
        obtain ⟨us, _, _, q3⟩ := hob
        obtain ⟨x, _, _, k3⟩ := q3 j v hj
        exact only_place (hplace p r hp) (hφ0 p) v x k3
    · exact only_place (hplace p r hp) (hφ0 p) _ _ (hE1 t)
    · rw [getD_replicate_false] at hj; cases hj
  refine wpAny_of_V hpri (Region.noSelect_spec hsel) hw hpm hdd (fun listed' E' a'' w'' hL hS => ?_) _ _ (look env) a _ (by simpa using hS0) H
  obtain ⟨hsq, hall, env'', rfl, hR⟩ := hL
  have hfl := resU_full (rs := rs) (listed := listed') fun r hr => hall r.idx (hin r hr _ r.mem_idx)
  obtain ⟨u1, u2, _, _, _, _, φ', G', _, hE''⟩ := hS
  rw [hfl] at G' hE''
  have := wpAny_of_seq (md := .any) (Q' := nrm (Fin P k R)) (l.drop n) n listed' a'' w'' (fun j => by simp [List.getElem?_drop]) (by rw [List.length_drop]; exact hsq) (hR.run a'' w'' ⟨u1, u2, φ', G', hE''⟩)
  rwa [List.length_drop] at this
theorem Runs.toDrawV {id : Nat} {l : List Oper} {k' : List Item} {cn : Nat} {keys : List (Nat × Option (Nat × Nat))} (m : Nat) (pri head : List Nat) (n : Nat) (rs : ResU) (hf : P.follows .mixedOrders = true) (hn : C.n = cn) (hc : Proofs.Ytnecoghfhcimeaa.ctls m k = .code (.region id l.toArray true) :: k') (hB : drawQB l pri head n = true) (hd : dstOk cn l = true)
    (hk : rs.map RE.key = keys) (hwf : wfB l pri n keys = true)
    (h : RunsU P C l.toArray rs (l.drop n) (pick l head) k' R ⟨env, σ⟩) : Runs P C k R ⟨env, σ⟩ := Runs.ctls m hc (Runs.drawV pri head n rs hf hn hB hd hk hwf h)
variable {ops : Array Oper} {rs : ResU} {tail : List Oper} {rest : List (Nat × Oper)} {i t : Nat} {o : Oper}
theorem RunsU.nil (h : RunsL P C ops tail k R ⟨env, σ ++ fullU rs⟩) : RunsU P C ops rs tail [] k R ⟨env, σ⟩ := ⟨⟨env, rfl, h⟩⟩
theorem RunsU.pur {v : AV} (h : ∀ more, Pur P C o env (σ ++ more) v) (hi : ((rs.map RE.key).flatMap keyAll).contains i = false) (hs : staged rs σ.length o v) (hg : gsay ops env o.guard = some true) (hd : o.dst = some t) (hk : RunsU P C ops rs tail rest k R ⟨(t, v) :: env, σ⟩) : RunsU P C ops rs tail ((i, o) :: rest) k R ⟨env, σ⟩ := by
  refine ⟨v, .inl ⟨fun r hr hm => ?_, hs, .inl ⟨hg, fun more => (h more).toF⟩⟩, ?_⟩
  · have : i ∈ (rs.map RE.key).flatMap keyAll := List.mem_flatMap.2 ⟨r.key, List.mem_map_of_mem hr, r.all_key ▸ hm⟩
    rw [← List.contains_iff_mem] at this
    rw [this] at hi; cases hi
  · rw [hd, show (⟨env, σ⟩ : St).env = env from rfl, ← look_putE]
    exact hk.run
theorem RunsU.step {T : Tab} (hT : TabOk P T) {v : AV} (hd : o.dst = some t) (hg : gsay ops env o.guard = some true) (h : ∀ more, aop T env (σ ++ more) o.op = some v) (hi : ((rs.map RE.key).flatMap keyAll).contains i = false) (hs : staged rs σ.length o v) (hk : RunsU P C ops rs tail rest k R ⟨(t, v) :: env, σ⟩) : RunsU P C ops rs tail ((i, o) :: rest) k R ⟨env, σ⟩ := by
  obtain ⟨dst, op, ty, pos, after, g⟩ := o
  simp only at hd; subst hd
  exact RunsU.pur (fun more => pu_auto hT (h more)) hi hs hg rfl hk
theorem RunsU.made {p : Nat} {r : RE} {v : AV} (hr : rs[p]? = some r) (hi : r.idx = i) (hp : r.pre = none) (hg : o.guard = none) (hd : o.dst = some t) (hm : MkN P C o (look env) r.ob (σ.length + p) v) (hk : RunsU P C ops rs tail rest k R ⟨(t, v) :: env, σ⟩) : RunsU P C ops rs tail ((i, o) :: rest) k R ⟨env, σ⟩ := by
  refine ⟨v, .inr (.inl ⟨p, r, hr, hi, hp, hg, by rw [hd]; rfl, hm⟩), ?_⟩
  rw [hd, show (⟨env, σ⟩ : St).env = env from rfl, ← look_putE]
  exact hk.run
theorem RunsU.lay {p : Nat} {r : RE} (hr : rs[p]? = some r) (hp : r.pre = some (i, t)) (hg : o.guard = none) (hd : o.dst = some t) (hm : MkN P C o (look env) ⟨r.t, r.sz, []⟩ (σ.length + p) (.own (σ.length + p))) (hk : RunsU P C ops rs tail rest k R ⟨(t, .junk) :: env, σ⟩) : RunsU P C ops rs tail ((i, o) :: rest) k R ⟨env, σ⟩ := by
  refine ⟨.junk, .inr (.inr (.inl ⟨p, r, t, hr, hp, hg, hd, hm, rfl⟩)), ?_⟩
  rw [hd, show (⟨env, σ⟩ : St).env = env from rfl, ← look_putE]
  exact hk.run
theorem RunsU.gro {p j s : Nat} {r : RE} (hr : rs[p]? = some r) (hi : r.idx = i) (hp : r.pre = some (j, s)) (hg : o.guard = none) (hd : o.dst = some t) (hm : MkQ P C o (look env) r s (σ.length + p)) (hk : RunsU P C ops rs tail rest k R ⟨(t, .own (σ.length + p)) :: env, σ⟩) : RunsU P C ops rs tail ((i, o) :: rest) k R ⟨env, σ⟩ := by
  refine ⟨.own (σ.length + p), .inr (.inr (.inr ⟨p, r, j, s, hr, hi, hp, hg, by rw [hd]; rfl, hm, rfl⟩)), ?_⟩
  rw [hd, show (⟨env, σ⟩ : St).env = env from rfl, ← look_putE]
  exact hk.run
variable {E : EE} {q : Nat} {ty : TypeId} {pos : String} {after : Array Edge}
theorem mk_alloc {e : TypeId} {zs : List Value} (hz : TZ P e zs) : MkN P C ⟨some t, .alloc e, ty, pos, after, none⟩ E ⟨e, 0, (zs.map RV.c).map .ro⟩ q (.obj q 0) := by
  refine ⟨.inr rfl, fun a w φ σ hG hq hφ _ K Q hK => ?_⟩
  have hql : q < σ.length := (List.getElem?_eq_some_iff.1 hq).1
  obtain ⟨inf, z, h1, h2, h3, h4⟩ := hz.h
  unfold Oper.wp
  have hrun : (execOp a.eval ⟨some t, .alloc e, ty, pos, after, none⟩).run P w = .ok (.value (.pointer (some ⟨w.heap.size, 0, none⟩))) (w.alloc (.cells zs.toArray e)) := by
    simp [execOp, Instr.alloc, zeroValue, typeInfo, h1, h2, newVar, newRow, newObj, h3]; rfl
  rw [hrun]
  simp only [Oper.upon]
  refine hK _ _ w.heap.size (below_one w _) (Nat.le_refl _) ?_ ?_
  · simp only [ObRel]
    refine ⟨zs.toArray, heap_alloc_new w _, by simp, fun j v hj => ?_⟩
    rw [List.getElem?_map, List.getElem?_map, Option.map_eq_some_iff] at hj
    obtain ⟨y, hy, rfl⟩ := hj
    rw [Option.map_eq_some_iff] at hy
    obtain ⟨x, hx, rfl⟩ := hy
    exact ⟨x, by simpa using hx, h4 x (List.mem_of_getElem? hx), by simp [AV.rel, RV.rel]⟩
  · simp only [AV.rel]
    exact ⟨by simpa using hql, w.heap.size, upd_eq, rfl⟩
theorem mk_build0 {tt e : TypeId} {z : Value} {sz bytes : Nat} [hs : SL P tt e z sz bytes] : MkN P C ⟨some t, .buildSlice tt 0 #[], ty, pos, after, none⟩ E ⟨e, sz, []⟩ q (.own q) := by
  refine ⟨.inl rfl, fun a w φ σ hG hq hφ _ K Q hK => ?_⟩
  have hql : q < σ.length := (List.getElem?_eq_some_iff.1 hq).1
  unfold Oper.wp
  have hrun : (execOp a.eval ⟨some t, .buildSlice tt 0 #[], ty, pos, after, none⟩).run P w = .ok (.value (.slice (some ⟨w.heap.size, 0, none⟩) 0 0)) (w.alloc (.cells #[] e)) := by
    simp only [execOp, Sem.run_bind]; rw [show (#[] : Array (Nat × Operand)).map (fun p => (p.1, a.eval p.2)) = #[] from by simp, run_build0 (P := P) (tt := tt) w]; rfl
  rw [hrun]
  simp only [Oper.upon]
  refine hK _ _ w.heap.size (below_one w _) (Nat.le_refl _) ?_ ?_
  · simp only [ObRel]
    exact ⟨#[], heap_alloc_new w _, by simp, fun j v hj => by simp at hj⟩
  · simp only [AV.rel]
    exact ⟨⟨e, sz, []⟩, 0, List.getElem?_set_self hql, by simp, hs.el.hs, .inr ⟨w.heap.size, 0, _, upd_eq, rfl, heap_alloc_new w _, Nat.le_refl _, Nat.zero_le _, by simp⟩⟩
theorem mk_make0 {tt e : TypeId} {z : Value} {sz bytes n : Nat} {x y : Operand} {kd kd' : IntKind} [hs : SL P tt e z sz bytes] (hx : evE E x = .ro (.c (.int kd 0))) (hy : evE E y = .ro (.c (.int kd' (n : Int))))
    (b2 : bytes * n ≤ 281474976710656) (b3 : n ≤ maxLen) : MkN P C ⟨some t, .makeSlice tt x y, ty, pos, after, none⟩ E ⟨e, sz, []⟩ q (.own q) := by
  refine ⟨.inl rfl, fun a w φ σ hG hq hφ hH K Q hK => ?_⟩
  have hql : q < σ.length := (List.getElem?_eq_some_iff.1 hq).1
  obtain ⟨i, hi, hz0, hsz, hb⟩ := hs.el.hi
  have hbb : (i.bytes : Int) * (n : Int) ≤ 281474976710656 := by
    rw [hb]
    have h : ((bytes * n : Nat) : Int) ≤ 281474976710656 := by omega
    rwa [Int.natCast_mul] at h
  have hr := run_make (P := P) w tt e i z hs.el.ht hi hz0 kd kd' 0 n (by omega) (by omega) hbb (by simp [maxLen] at b3; omega)
  simp only [Int.toNat_natCast, hsz] at hr
  have h1 := hH x (by simp [Op.operands])
  have h2 := hH y (by simp [Op.operands])
  rw [hx] at h1; rw [hy] at h2
  simp only [AV.rel, RV.rel] at h1 h2
  unfold Oper.wp
  have hrun : (execOp a.eval ⟨some t, .makeSlice tt x y, ty, pos, after, none⟩).run P w = .ok (.value (slv w.heap.size 0 n)) (w.alloc (.cells (madeCells z.cells (n * sz)) e)) := by
    simp only [execOp, h1, h2, Sem.run_bind, hr, Result.andThen]; rfl
  rw [hrun]
  simp only [Oper.upon]
  refine hK _ _ w.heap.size (below_one w _) (Nat.le_refl _) ?_ ?_
  · simp only [ObRel]
    exact ⟨_, heap_alloc_new w _, by simp, fun j v hj => by simp at hj⟩
  · simp only [AV.rel]
    exact ⟨⟨e, sz, []⟩, 0, List.getElem?_set_self hql, by simp, hs.el.hs, .inr ⟨w.heap.size, n, _, upd_eq, rfl, heap_alloc_new w _, Nat.zero_le _, b3, by simp [size_madeCells]⟩⟩
theorem mk_append {tt e : TypeId} {z : Value} {sz bytes s j : Nat} {els : List (List RV)} {y : Operand} {i : Nat} [hs : SL P tt e z sz bytes] (hy : evE E y = .ro (.seq sz els)) (b1 : els.length ≤ 140737488355328) (b2 : els.length * bytes ≤ 140737488355328) :
    MkQ P C ⟨some t, .call { callee := .builtin .append, args := #[.tmp s, y], argTypes := #[tt, tt] }, ty, pos, after, none⟩ E ⟨i, some (j, s), e, sz, els.flatten⟩ s q := by
  intro a w φ σ hG hq hown hfree hH K Q hK
  obtain ⟨A, n0, c, xs, hu, hl, hsz, hrow, hblk, hcell⟩ := own_row hG hq hown
  simp only [List.length_nil] at hl
  have hn0 : n0 = 0 := by
    rcases Nat.mul_eq_zero.1 hl.symm with h | h
    · exact h
    · have h' : sz = 0 := h
      have hsz' : 0 < sz := hsz
      omega
  subst hn0
  have hyr := hH y (by simp [Op.operands, Call.operands])
  rw [hy] at hyr
  simp only [AV.rel] at hyr
  obtain ⟨B, m, d, hv⟩ : ∃ B m d, a.eval y = .slice B m d := by simp only [RV.rel] at hyr; obtain ⟨B, m, d, e, _⟩ := hyr; exact ⟨B, m, d, e⟩
  rw [hv] at hyr
  obtain ⟨hm, ys, hRd, hy1, hyl, hyr'⟩ := seq_rd hyr
  subst hm
  rw [hu] at hrow
  simp only at hrow hsz
  obtain ⟨A', c', w', hrun, happ⟩ := run_app (P := P) hs.el ty 0 A 0 c xs hrow B els.length d ys hRd hy1 (by unfold maxLen; omega) (by rw [Nat.zero_add]; exact b2) (Nat.zero_le _)
  have hflat : els.flatten.length = els.length * sz := by rw [← hyl]; exact hRd.1
  have hxl : xs.length = 0 := by rw [hrow.1]; omega
  rw [hu] at hblk
  have happg := happ.grown
  have hapl := happ.lies
  rw [hblk] at happg hapl
  obtain ⟨g1, g2, g3⟩ := good_append (rs := []) (news := els.flatten) (n' := 0 + els.length) hG hq rfl hfree hsz (by rw [List.nil_append, Nat.zero_add]; exact hflat) happ.own happg hapl (fun j r hj => by
    obtain ⟨x', e1, e3⟩ := hyr' j r (by simpa using hj)
    exact ⟨x', by rw [List.getElem?_append_right (by omega), hxl]; exact e1, hy1 x' (List.mem_of_getElem? e1), e3⟩)
  have hs' : a.eval (.tmp s) = .slice A 0 c := hu
  unfold Oper.wp execOp
  simp only [resolve, invoke, builtin, Sem.run_bind, Sem.run_pure, Result.andThen_ok, List.map_toArray, List.map_cons, List.map_nil, hs', hv, hrun, Oper.upon]
  exact hK _ _ _ g1 g2 g3
end
end Go.Proofs.Ytnecoghfhcimeaa
/- impl.CopyValue, spec.CopyValue. -/
namespace Go.Proofs.Ytnecoghfhcimeaa
set_option linter.unusedSimpArgs false
set_option linter.unusedVariables false
open Go.RowKit
open AV (Mem Keeps)
def waitsC (o : Oper) (i : Nat) : Bool := o.after.any fun e => (match e.ground with | .data => true | _ => false) && Nat.beq e.on i
theorem waitsC_spec {o : Oper} {i : Nat} (h : waitsC o i = true) : ∃ e ∈ o.after, (∀ md, Region.binds md e = true) ∧ e.on = i := by
  unfold waitsC at h
  obtain ⟨e, he, hb⟩ := Array.any_eq_true'.1 h
  rw [Bool.and_eq_true] at hb
  refine ⟨e, he, fun md => ?_, Nat.eq_of_beq_eq_true hb.2⟩
  cases hg : e.ground <;> rw [hg] at hb <;> simp at hb
  cases md <;> simp [Region.binds, hg]
theorem staged_lateC {rs : ResU} {n : Nat} {o : Oper} {v : AV} (h : ((rs.map RE.key).all fun k => k.2.isNone || waitsC o k.1) = true) (hm : isMv o = false) : staged rs n o v := fun p r hp hr => .inr ⟨hm, by
  have := List.all_eq_true.1 h r.key (List.mem_map_of_mem (List.mem_of_getElem? hp))
  rw [Bool.or_eq_true] at this
  rcases this with h1 | h1
  · rw [show r.key.2 = r.pre from rfl] at h1
    cases hx : r.pre with
    | none => rw [hx] at hr; cases hr
    | some x => rw [hx] at h1; cases h1
  · exact waitsC_spec h1⟩
def aggC : Value → List RV
  | .agg us => us.toList.map .c
  | v => [.c v]
theorem onlys_cs (p : Nat → Prop) : ∀ us : List Value, AV.onlys p (us.map fun u => .ro (.c u))
  | [] => by simp [AV.onlys]
  | u :: us => by simp only [List.map_cons, AV.onlys, AV.only]; exact ⟨trivial, onlys_cs p us⟩
theorem onlys_rv (p : Nat → Prop) : ∀ rs : List RV, AV.onlys p (rs.map .ro)
  | [] => by simp [AV.onlys]
  | r :: rs => by simp only [List.map_cons, AV.onlys, AV.only]; exact ⟨trivial, onlys_rv p rs⟩
theorem u8_flat : ∀ l : List UInt8, ((l.map fun z => [RV.u8 z]).flatten).map AV.ro = (l.map fun z : UInt8 => Value.int .u8 (z.toNat : Int)).map fun u => AV.ro (.c u)
  | [] => rfl
  | z :: l => by simp only [List.map_cons, List.flatten_cons, List.singleton_append]; rw [u8_flat l]; first | done | rfl
def cpS (v : Tre) (us : List Value) : List Ob := [⟨29, 0, [.int v.number, .ro (bytesR v.bytes), .ro (tresR v.items)]⟩, ⟨29, 0, [.int 0, .nil, .nil]⟩, ⟨5, 1, ((v.bytes.map fun z => [RV.u8 z]).flatten).map .ro⟩, ⟨29, 3, us.map fun u => .ro (.c u)⟩, ⟨29, 0, [.int v.number, .own 2, .own 3]⟩]
theorem RunsA.withTail {P : Program} {C : Ctx} {l : List Oper} {k : List Item} {R : Act → World → Prop} {f : Nat} {listed : Array Bool} {S : St} (n : Nat) (σ : List Ob) (X : Ctx → Value → Prop) (E : Value → Env) (tail : ∀ C1 u, X C1 u → RunsL P C1 l.toArray (l.drop n) k R ⟨E u, σ⟩)
    (h : (∀ C1 u env, X C1 u → Sub (E u) env → RunsL P C1 l.toArray (l.drop n) k R ⟨env, σ⟩) → RunsA P C l k R f listed S) : RunsA P C l k R f listed S := h fun C1 u env hX hE => RunsL.keep (E u) hE (tail C1 u hX)
set_option maxRecDepth 100000 in
instance tb_value : TB Try.prog 29 [(0, 1), (1, 1), (2, 1)] [.int .i64 0, .slice none 0 0, .slice none 0 0] := ⟨_, _, _, rfl, rfl, rfl, rfl, by kernel_rfl, by decide⟩
set_option maxHeartbeats 16000000 in
theorem impl_CopyValue : ∀ v : Tre, v.total ≤ 1048576 → ACo Try.prog 13 [treR v] (treO v) := by
  refine Tre.ind fun v ih ht => ?_
  have he := v.total_eq
  have hb : (v.bytes.map fun z => [RV.u8 z]).length = v.bytes.length := List.length_map ..
  have hl' : (v.items.map Tre.cells).length = v.items.length := List.length_map ..
  refine aco_enter Try.func13 rfl _ Try.ntmps13 (by simp) fun C0 hn hm => ?_
  have hn0 := hn
  repeat' (first
 | refine Runs.toDrawV (id := 1) 30 [] [0, 1, 2, 3, 4, 5, 6, 7, 8, 9, 10, 11] 12 [⟨5, some (2, 8), 5, 1, (v.bytes.map fun z => [RV.u8 z]).flatten⟩, ⟨9, none, 29, 3, []⟩, ⟨11, none, 29, 0, [Value.int .i64 0, .slice none 0 0, .slice none 0 0].map RV.c⟩] mixed hn rfl (by kernel_rfl) rfl rfl (by kernel_rfl) ?_
 | refine RunsL.step tabOk hn rfl ?_
 | refine RunsL.nil ?_
 | refine Runs.toRegion 30 rfl ?_
 | (refine Runs.ctls 30 rfl ?_; first | ((first | refine Runs.cond_yes rfl ?_ ?_ | refine Runs.cond_nno rfl ?_ ?_); · first | omega | rfl | assumption | (simp only [List.length_map]; omega)) | ((first | refine Runs.cond_no rfl ?_ ?_ | refine Runs.cond_nyes rfl ?_ ?_); · first | omega | rfl | assumption | (simp only [List.length_map]; omega)) | refine Runs.ret (ends_ro hm rfl rfl ?_) | exact Runs.ret (ends_cellR hm rfl rfl rfl (Nat.le_of_ble_eq_true rfl) rfl rfl))
 | refine op_box rfl (tl hn rfl) ?_
 | refine op_storeF rfl rfl rfl rfl (Nat.le_of_ble_eq_true rfl) ?_
 | refine op_alloc (tl hn rfl) ?_
 | refine op_storeN rfl rfl rfl rfl (Nat.le_of_ble_eq_true rfl) ?_
 | ((first | refine RunsL.pe hn rfl rfl rfl ?_ | refine RunsD.pe rfl rfl ?_); first
 | refine ⟨_, pu_add rfl rfl (by omega), ?_⟩
 | refine ⟨_, pu_indexAddr_map rfl rfl (by omega) (by assumption), ?_⟩
 | refine ⟨_, pu_sub rfl rfl (by omega), ?_⟩
 | refine ⟨_, pu_pick_b rfl rfl rfl, ?_⟩
 | refine ⟨_, pu_mul rfl rfl (by omega), ?_⟩
 | refine ⟨_, pu_build rfl rfl rfl rfl rfl rfl, ?_⟩))
  have hz : TZ Try.prog 29 [.int .i64 0, .slice none 0 0, .slice none 0 0] := inferInstance
  refine RunsU.step tabOk rfl rfl (fun _ => rfl) rfl (fun p r hp hr => .inl (by simp [AV.only, AV.onlys] <;> omega)) ?_
  refine RunsU.step tabOk rfl rfl (fun _ => rfl) rfl (fun p r hp hr => .inl (by simp [AV.only, AV.onlys] <;> omega)) ?_
  refine RunsU.lay (t := 8) (p := 0) rfl rfl rfl rfl mk_build0 ?_
  refine RunsU.step tabOk rfl rfl (fun _ => rfl) rfl (fun p r hp hr => .inl (by simp [AV.only, AV.onlys] <;> omega)) ?_
  refine RunsU.step tabOk rfl rfl (fun _ => rfl) rfl (fun p r hp hr => .inl (by simp [AV.only, AV.onlys] <;> omega)) ?_
  refine RunsU.gro (t := 11) (p := 0) rfl rfl rfl rfl rfl (mk_append (els := v.bytes.map fun z => [RV.u8 z]) rfl (by omega) (by omega)) ?_
  refine RunsU.step tabOk rfl rfl (fun _ => rfl) rfl (fun p r hp hr => .inl (by simp [AV.only, AV.onlys] <;> omega)) ?_
  refine RunsU.step tabOk rfl rfl (fun _ => rfl) rfl (fun p r hp hr => .inl (by simp [AV.only, AV.onlys] <;> omega)) ?_
  refine RunsU.pur (fun _ => pu_len_seqN v.items.length rfl hl') rfl (fun p r hp hr => .inl (by simp [AV.only, AV.onlys] <;> omega)) rfl rfl ?_
  refine RunsU.made (t := 15) (p := 1) rfl rfl rfl rfl rfl (mk_make0 (n := v.items.length) rfl rfl (by omega) (by unfold maxLen; omega)) ?_
  refine RunsU.pur (fun _ => pu_buildS rfl) rfl (staged_lateC (by kernel_rfl) rfl) rfl rfl ?_
  refine RunsU.made (t := 3) (p := 2) rfl rfl rfl rfl rfl (mk_alloc (zs := [.int .i64 0, .slice none 0 0, .slice none 0 0]) inferInstance) ?_
  refine RunsU.nil ?_
  repeat' (first
 | refine RunsL.step tabOk hn rfl ?_
 | refine RunsL.nil ?_
 | refine Runs.toRegion 30 rfl ?_
 | ((first | refine RunsL.pe hn rfl rfl rfl ?_ | refine RunsD.pe rfl rfl ?_); first
 | refine ⟨_, pu_len_seqN v.items.length rfl hl', ?_⟩)
 | (refine Runs.ctls 30 rfl ?_; first | ((first | refine Runs.cond_yes rfl ?_ ?_ | refine Runs.cond_nno rfl ?_ ?_); · first | omega | rfl | assumption | (simp only [List.length_map]; omega)) | ((first | refine Runs.cond_no rfl ?_ ?_ | refine Runs.cond_nyes rfl ?_ ?_); · first | omega | rfl | assumption | (simp only [List.length_map]; omega)) | refine Runs.ret (ends_ro hm rfl rfl ?_) | exact Runs.ret (ends_cellR hm rfl rfl rfl (Nat.le_of_ble_eq_true rfl) rfl rfl))
 | refine op_box rfl (tl hn rfl) ?_
 | refine op_storeF rfl rfl rfl rfl (Nat.le_of_ble_eq_true rfl) ?_
 | refine op_alloc (tl hn rfl) ?_
 | refine op_storeN rfl rfl rfl rfl (Nat.le_of_ble_eq_true rfl) ?_
 | ((first | refine RunsL.pe hn rfl rfl rfl ?_ | refine RunsD.pe rfl rfl ?_); first
 | refine ⟨_, pu_add rfl rfl (by omega), ?_⟩
 | refine ⟨_, pu_indexAddr_map rfl rfl (by omega) (by assumption), ?_⟩
 | refine ⟨_, pu_sub rfl rfl (by omega), ?_⟩
 | refine ⟨_, pu_pick_b rfl rfl rfl, ?_⟩
 | refine ⟨_, pu_mul rfl rfl (by omega), ?_⟩
 | refine ⟨_, pu_build rfl rfl rfl rfl rfl rfl, ?_⟩))
  refine Runs.ctls 30 rfl (Runs.keep [(2, .obj 1 0), (3, .obj 4 0), (18, .ro (tresR v.items)), (19, .int ((v.items.map Tre.cells).length : Int)), (20, .int 0)] ⟨rfl, rfl, rfl, rfl, rfl, trivial⟩ ?_)
  refine Runs.loopV (fun n C S => ∃ (j : Nat) (us : List Value) (bs : List Nat), j + n = v.items.length ∧ C.n = C0.n ∧ Sc C0 C ∧ OV.rels C.w0 ((v.items.take j).flatMap treOs) us bs ∧ (∀ b ∈ bs, b < C.w0.heap.size ∧ ¬ C.mu b ∧ ¬ C.ok b) ∧ bs.Nodup ∧ (∀ b ∈ bs, C0.w0.heap.size ≤ b) ∧ S = ⟨[(2, .obj 1 0), (3, .obj 4 0), (18, .ro (tresR v.items)), (19, .int ((v.items.map Tre.cells).length : Int)), (20, .int (j : Int))], cpS v us⟩) ?_ v.items.length C0 _ ⟨0, [], [], by omega, rfl, Sc.start hm, by simp [OV.rels], by simp, by simp, by simp, rfl⟩
  rintro n C S ⟨j, us, bs, hj, hn, hsc, hov, hfix, hnd, hnew, rfl⟩ ih'
  have hn := hn.trans hn0
  have hul := OV.rels_len _ _ _ hov
  rw [tresO_len, List.length_take, Nat.min_eq_left (by omega)] at hul
  by_cases hlt : j < v.items.length
  · obtain ⟨x, hx⟩ : ∃ x, v.items[(j : Int).toNat]? = some x := ⟨_, List.getElem?_eq_getElem hlt⟩
    have hx' : v.items[j]? = some x := hx
    have hm' := List.mem_of_getElem? hx'
    have hcall := ih x hm' (Nat.le_trans (sum_mem_le Tre.total hm') (by omega))
    let X : Ctx → Value → Prop := fun C1 u => ∃ b1, Nx C C1 [] ∧ Gh C1 (treO x) u b1 ∧ b1.Nodup ∧ ∀ b ∈ b1, C.w0.heap.size ≤ b
    repeat' (first
 | refine Runs.toTree (id := 5) 30 mixed rfl ?_
 | refine RunsL.step tabOk hn rfl ?_
 | refine RunsL.nil ?_
 | refine Runs.toRegion 30 rfl ?_
 | ((first | refine RunsL.pe hn rfl rfl rfl ?_ | refine RunsD.pe rfl rfl ?_); first
 | refine ⟨_, pu_loadN_eq rfl (Tre.cells_eq _) rfl, ?_⟩)
 | (refine Runs.ctls 30 rfl ?_; first | ((first | refine Runs.cond_yes rfl ?_ ?_ | refine Runs.cond_nno rfl ?_ ?_); · first | omega | rfl | assumption | (simp only [List.length_map]; omega)) | ((first | refine Runs.cond_no rfl ?_ ?_ | refine Runs.cond_nyes rfl ?_ ?_); · first | omega | rfl | assumption | (simp only [List.length_map]; omega)) | refine Runs.ret (ends_ro hm rfl rfl ?_) | exact Runs.ret (ends_cellR hm rfl rfl rfl (Nat.le_of_ble_eq_true rfl) rfl rfl))
 | refine op_box rfl (tl hn rfl) ?_
 | refine op_storeF rfl rfl rfl rfl (Nat.le_of_ble_eq_true rfl) ?_
 | refine op_alloc (tl hn rfl) ?_
 | refine op_storeN rfl rfl rfl rfl (Nat.le_of_ble_eq_true rfl) ?_
 | ((first | refine RunsL.pe hn rfl rfl rfl ?_ | refine RunsD.pe rfl rfl ?_); first
 | refine ⟨_, pu_add rfl rfl (by omega), ?_⟩
 | refine ⟨_, pu_indexAddr_map rfl rfl (by omega) (by assumption), ?_⟩
 | refine ⟨_, pu_sub rfl rfl (by omega), ?_⟩
 | refine ⟨_, pu_pick_b rfl rfl rfl, ?_⟩
 | refine ⟨_, pu_mul rfl rfl (by omega), ?_⟩
 | refine ⟨_, pu_build rfl rfl rfl rfl rfl rfl, ?_⟩))
    refine RunsA.withTail 5 (cpS v us ++ [⟨29, 0, [.int x.number, .ro (bytesR x.bytes), .ro (tresR x.items)]⟩]) X (fun u => [(2, .obj 1 0), (3, .obj 4 0), (18, .ro (tresR v.items)), (19, .int ((v.items.map Tre.cells).length : Int)), (20, .int (j : Int)), (25, .own 3), (28, .ro (.seq 3 [aggC u]))]) ?_ fun tail => ?_
    · rintro C1 u ⟨b1, nx1, gh1, nd1, new1⟩
      have hn := nx1.n.trans hn
      have hz1 := nx1.size
      have hrel := gh1.rel
      simp only [treO, OV.rel] at hrel
      obtain ⟨vs, rfl, hvs⟩ := hrel
      have hvl := OV.rels_len _ _ _ hvs
      rw [treOs_len] at hvl
      refine RunsL.junk 4 2 rfl (op_append (t := 29) (i := 3) (n := j) (rs := us.map .c) (els := [vs.toList.map .c]) rfl rfl (by rw [List.map_map]; rfl) rfl rfl rfl (by rw [List.length_map]; omega) (FreeI.at_ (i := 3) ⟨by simp [AV.onlys, AV.only], by simp [AV.onlys, AV.only], onlys_rv _ _, onlys_cs _ _, by simp [AV.onlys, AV.only], by simp [AV.onlys, AV.only], trivial⟩) (by simp; omega) (by simp; omega) (tl hn rfl) ?_)
      repeat' (first
 | refine RunsL.step tabOk hn rfl ?_
 | refine RunsL.nil ?_
 | refine Runs.toRegion 30 rfl ?_
 | (refine Runs.ctls 30 rfl ?_; first | ((first | refine Runs.cond_yes rfl ?_ ?_ | refine Runs.cond_nno rfl ?_ ?_); · first | omega | rfl | assumption | (simp only [List.length_map]; omega)) | ((first | refine Runs.cond_no rfl ?_ ?_ | refine Runs.cond_nyes rfl ?_ ?_); · first | omega | rfl | assumption | (simp only [List.length_map]; omega)) | refine Runs.ret (ends_ro hm rfl rfl ?_) | exact Runs.ret (ends_cellR hm rfl rfl rfl (Nat.le_of_ble_eq_true rfl) rfl rfl))
 | refine op_box rfl (tl hn rfl) ?_
 | refine op_storeF rfl rfl rfl rfl (Nat.le_of_ble_eq_true rfl) ?_
 | refine op_alloc (tl hn rfl) ?_
 | refine op_storeN rfl rfl rfl rfl (Nat.le_of_ble_eq_true rfl) ?_
 | ((first | refine RunsL.pe hn rfl rfl rfl ?_ | refine RunsD.pe rfl rfl ?_); first
 | refine ⟨_, pu_add rfl rfl (by omega), ?_⟩
 | refine ⟨_, pu_indexAddr_map rfl rfl (by omega) (by assumption), ?_⟩
 | refine ⟨_, pu_sub rfl rfl (by omega), ?_⟩
 | refine ⟨_, pu_pick_b rfl rfl rfl, ?_⟩
 | refine ⟨_, pu_mul rfl rfl (by omega), ?_⟩
 | refine ⟨_, pu_build rfl rfl rfl rfl rfl rfl, ?_⟩))
      have e1 : (us.map RV.c ++ [vs.toList.map RV.c].flatten).map AV.ro = (us ++ vs.toList).map fun u => AV.ro (.c u) := by simp; rfl
      refine Runs.ctls 30 rfl ?_
      refine Runs.keep [(2, .obj 1 0), (3, .obj 4 0), (18, .ro (tresR v.items)), (19, .int ((v.items.map Tre.cells).length : Int)), (20, .int ((j + 1 : Nat) : Int))] ⟨rfl, rfl, rfl, rfl, rfl, trivial⟩ ?_
      show Runs _ _ _ _ ⟨_, [⟨29, 0, [.int v.number, .ro (bytesR v.bytes), .ro (tresR v.items)]⟩, ⟨29, 0, [.int 0, .nil, .nil]⟩, ⟨5, 1, ((v.bytes.map fun z => [RV.u8 z]).flatten).map .ro⟩, ⟨29, 3, (us.map RV.c ++ [vs.toList.map RV.c].flatten).map AV.ro⟩, ⟨29, 0, [.int v.number, .own 2, .own 3]⟩] ++ [⟨29, 0, [.int x.number, .ro (bytesR x.bytes), .ro (tresR x.items)]⟩]⟩
      rw [e1]
      refine Runs.drop (σ := cpS v (us ++ vs.toList)) (show Free 5 _ by simp [Free, AV.only]) (show FreeO 5 _ from ⟨by simp [AV.onlys, AV.only], by simp [AV.onlys, AV.only], onlys_rv _ _, onlys_cs _ _, by simp [AV.onlys, AV.only], trivial⟩) ?_
      refine ih' (n - 1) (by omega) C1 _ ⟨j + 1, us ++ vs.toList, bs ++ b1, by omega, hn.trans hn0.symm, hsc.next nx1 (by simp), ?_, fun b hb => ?_, ?_, fun b hb => ?_, rfl⟩
      · have e : v.items.take (j + 1) = v.items.take j ++ [x] := by rw [List.take_add_one, hx']; rfl
        rw [e, List.flatMap_append]
        refine OV.rels_append _ _ _ _ _ _ (OV.rels_keep _ _ _ hov fun b hb => nx1.block b (hfix b hb).1 (hfix b hb).2.1 (by simp)) ?_
        simpa using hvs
      · rcases List.mem_append.1 hb with hb | hb
        · refine ⟨Nat.lt_of_lt_of_le (hfix b hb).1 hz1, fun hm => ?_, fun ho => (hfix b hb).2.2 (nx1.ok b ho)⟩
          rcases nx1.mu b hm with h1 | h1
          · exact (hfix b hb).2.1 h1
          · have := (hfix b hb).1; omega
        · exact gh1.fix b hb
      · exact nodup_two C.w0.heap.size hnd nd1 (fun y hy => (hfix y hy).1) new1
      · rcases List.mem_append.1 hb with hb | hb
        · exact hnew b hb
        · have := new1 b hb; have := hsc.below.size; omega
    · have hn' := hn
      refine RunsA.node [0, 2] (by kernel_rfl) rfl rfl ⟨?_, ?_, trivial⟩
      · refine StepA.pur (pu_fieldAddr_obj rfl) rfl (tl hn rfl) ?_
        refine RunsA.node [1, 2] (by kernel_rfl) rfl rfl ⟨?_, ?_, trivial⟩
        · refine StepA.pur (pu_load_obj rfl rfl rfl) rfl (tl hn rfl) ?_
          refine RunsA.node [2] (by kernel_rfl) rfl rfl ⟨?_, trivial⟩
          refine StepA.pur (pu_loadN_objR (rs := [.int x.number, bytesR x.bytes, tresR x.items]) rfl rfl rfl rfl) rfl (tl hn rfl) ?_
          refine RunsA.node [3] (by kernel_rfl) rfl rfl ⟨?_, trivial⟩
          refine StepA.callN hcall (.cons .ro .nil) (tl hn rfl) fun C1 u1 b1 nx1 gh1 nd1 new1 => ?_
          have hX : X C1 u1 := ⟨b1, nx1, gh1, nd1, new1⟩
          have hn := nx1.n.trans hn
          obtain ⟨A1, n1, c1, A2, n2, c2, rfl⟩ := tre_val gh1.rel
          refine RunsA.node [4] (by kernel_rfl) rfl rfl ⟨?_, trivial⟩
          refine StepA.pur (pu_build rfl rfl rfl rfl rfl rfl) rfl (tl hn rfl) ?_
          refine RunsA.seq 5 rfl (by kernel_rfl) ?_
          exact tail _ _ _ hX ⟨rfl, rfl, rfl, rfl, rfl, rfl, rfl, trivial⟩
        · refine StepA.pur (pu_loadN_objR (rs := [.int x.number, bytesR x.bytes, tresR x.items]) rfl rfl rfl rfl) rfl (tl hn rfl) ?_
          refine RunsA.node [1, 3] (by kernel_rfl) rfl rfl ⟨?_, ?_, trivial⟩
          · refine StepA.pur (pu_load_obj rfl rfl rfl) rfl (tl hn rfl) ?_
            refine RunsA.node [3] (by kernel_rfl) rfl rfl ⟨?_, trivial⟩
            refine StepA.callN hcall (.cons .ro .nil) (tl hn rfl) fun C1 u1 b1 nx1 gh1 nd1 new1 => ?_
            have hX : X C1 u1 := ⟨b1, nx1, gh1, nd1, new1⟩
            have hn := nx1.n.trans hn
            obtain ⟨A1, n1, c1, A2, n2, c2, rfl⟩ := tre_val gh1.rel
            refine RunsA.node [4] (by kernel_rfl) rfl rfl ⟨?_, trivial⟩
            refine StepA.pur (pu_build rfl rfl rfl rfl rfl rfl) rfl (tl hn rfl) ?_
            refine RunsA.seq 5 rfl (by kernel_rfl) ?_
            exact tail _ _ _ hX ⟨rfl, rfl, rfl, rfl, rfl, rfl, rfl, trivial⟩
          · refine StepA.callN hcall (.cons .ro .nil) (tl hn rfl) fun C1 u1 b1 nx1 gh1 nd1 new1 => ?_
            have hX : X C1 u1 := ⟨b1, nx1, gh1, nd1, new1⟩
            have hn := nx1.n.trans hn
            obtain ⟨A1, n1, c1, A2, n2, c2, rfl⟩ := tre_val gh1.rel
            refine RunsA.node [1, 4] (by kernel_rfl) rfl rfl ⟨?_, ?_, trivial⟩
            · refine StepA.pur (pu_load_obj rfl rfl rfl) rfl (tl hn rfl) ?_
              refine RunsA.node [4] (by kernel_rfl) rfl rfl ⟨?_, trivial⟩
              refine StepA.pur (pu_build rfl rfl rfl rfl rfl rfl) rfl (tl hn rfl) ?_
              refine RunsA.seq 5 rfl (by kernel_rfl) ?_
              exact tail _ _ _ hX ⟨rfl, rfl, rfl, rfl, rfl, rfl, rfl, trivial⟩
            · refine StepA.pur (pu_build rfl rfl rfl rfl rfl rfl) rfl (tl hn rfl) ?_
              refine RunsA.node [1] (by kernel_rfl) rfl rfl ⟨?_, trivial⟩
              refine StepA.pur (pu_load_obj rfl rfl rfl) rfl (tl hn rfl) ?_
              refine RunsA.seq 5 rfl (by kernel_rfl) ?_
              exact tail _ _ _ hX ⟨rfl, rfl, rfl, rfl, rfl, rfl, rfl, trivial⟩
      · refine StepA.pur (pu_loadN_objR (rs := [.int x.number, bytesR x.bytes, tresR x.items]) rfl rfl rfl rfl) rfl (tl hn rfl) ?_
        refine RunsA.node [0, 3] (by kernel_rfl) rfl rfl ⟨?_, ?_, trivial⟩
        · refine StepA.pur (pu_fieldAddr_obj rfl) rfl (tl hn rfl) ?_
          refine RunsA.node [1, 3] (by kernel_rfl) rfl rfl ⟨?_, ?_, trivial⟩
          · refine StepA.pur (pu_load_obj rfl rfl rfl) rfl (tl hn rfl) ?_
            refine RunsA.node [3] (by kernel_rfl) rfl rfl ⟨?_, trivial⟩
            refine StepA.callN hcall (.cons .ro .nil) (tl hn rfl) fun C1 u1 b1 nx1 gh1 nd1 new1 => ?_
            have hX : X C1 u1 := ⟨b1, nx1, gh1, nd1, new1⟩
            have hn := nx1.n.trans hn
            obtain ⟨A1, n1, c1, A2, n2, c2, rfl⟩ := tre_val gh1.rel
            refine RunsA.node [4] (by kernel_rfl) rfl rfl ⟨?_, trivial⟩
            refine StepA.pur (pu_build rfl rfl rfl rfl rfl rfl) rfl (tl hn rfl) ?_
            refine RunsA.seq 5 rfl (by kernel_rfl) ?_
            exact tail _ _ _ hX ⟨rfl, rfl, rfl, rfl, rfl, rfl, rfl, trivial⟩
          · refine StepA.callN hcall (.cons .ro .nil) (tl hn rfl) fun C1 u1 b1 nx1 gh1 nd1 new1 => ?_
            have hX : X C1 u1 := ⟨b1, nx1, gh1, nd1, new1⟩
            have hn := nx1.n.trans hn
            obtain ⟨A1, n1, c1, A2, n2, c2, rfl⟩ := tre_val gh1.rel
            refine RunsA.node [1, 4] (by kernel_rfl) rfl rfl ⟨?_, ?_, trivial⟩
            · refine StepA.pur (pu_load_obj rfl rfl rfl) rfl (tl hn rfl) ?_
              refine RunsA.node [4] (by kernel_rfl) rfl rfl ⟨?_, trivial⟩
              refine StepA.pur (pu_build rfl rfl rfl rfl rfl rfl) rfl (tl hn rfl) ?_
              refine RunsA.seq 5 rfl (by kernel_rfl) ?_
              exact tail _ _ _ hX ⟨rfl, rfl, rfl, rfl, rfl, rfl, rfl, trivial⟩
            · refine StepA.pur (pu_build rfl rfl rfl rfl rfl rfl) rfl (tl hn rfl) ?_
              refine RunsA.node [1] (by kernel_rfl) rfl rfl ⟨?_, trivial⟩
              refine StepA.pur (pu_load_obj rfl rfl rfl) rfl (tl hn rfl) ?_
              refine RunsA.seq 5 rfl (by kernel_rfl) ?_
              exact tail _ _ _ hX ⟨rfl, rfl, rfl, rfl, rfl, rfl, rfl, trivial⟩
        · refine StepA.callN hcall (.cons .ro .nil) (tl hn rfl) fun C1 u1 b1 nx1 gh1 nd1 new1 => ?_
          have hX : X C1 u1 := ⟨b1, nx1, gh1, nd1, new1⟩
          have hn := nx1.n.trans hn
          obtain ⟨A1, n1, c1, A2, n2, c2, rfl⟩ := tre_val gh1.rel
          refine RunsA.node [0, 4] (by kernel_rfl) rfl rfl ⟨?_, ?_, trivial⟩
          · refine StepA.pur (pu_fieldAddr_obj rfl) rfl (tl hn rfl) ?_
            refine RunsA.node [1, 4] (by kernel_rfl) rfl rfl ⟨?_, ?_, trivial⟩
            · refine StepA.pur (pu_load_obj rfl rfl rfl) rfl (tl hn rfl) ?_
              refine RunsA.node [4] (by kernel_rfl) rfl rfl ⟨?_, trivial⟩
              refine StepA.pur (pu_build rfl rfl rfl rfl rfl rfl) rfl (tl hn rfl) ?_
              refine RunsA.seq 5 rfl (by kernel_rfl) ?_
              exact tail _ _ _ hX ⟨rfl, rfl, rfl, rfl, rfl, rfl, rfl, trivial⟩
            · refine StepA.pur (pu_build rfl rfl rfl rfl rfl rfl) rfl (tl hn rfl) ?_
              refine RunsA.node [1] (by kernel_rfl) rfl rfl ⟨?_, trivial⟩
              refine StepA.pur (pu_load_obj rfl rfl rfl) rfl (tl hn rfl) ?_
              refine RunsA.seq 5 rfl (by kernel_rfl) ?_
              exact tail _ _ _ hX ⟨rfl, rfl, rfl, rfl, rfl, rfl, rfl, trivial⟩
          · refine StepA.pur (pu_build rfl rfl rfl rfl rfl rfl) rfl (tl hn rfl) ?_
            refine RunsA.node [0] (by kernel_rfl) rfl rfl ⟨?_, trivial⟩
            refine StepA.pur (pu_fieldAddr_obj rfl) rfl (tl hn rfl) ?_
            refine RunsA.node [1] (by kernel_rfl) rfl rfl ⟨?_, trivial⟩
            refine StepA.pur (pu_load_obj rfl rfl rfl) rfl (tl hn rfl) ?_
            refine RunsA.seq 5 rfl (by kernel_rfl) ?_
            exact tail _ _ _ hX ⟨rfl, rfl, rfl, rfl, rfl, rfl, rfl, trivial⟩
  · obtain rfl : j = v.items.length := by omega
    repeat' (first
 | refine RunsL.step tabOk hn rfl ?_
 | refine RunsL.nil ?_
 | refine Runs.toRegion 30 rfl ?_
 | (refine Runs.ctls 30 rfl ?_; first | ((first | refine Runs.cond_yes rfl ?_ ?_ | refine Runs.cond_nno rfl ?_ ?_); · first | omega | rfl | assumption | (simp only [List.length_map]; omega)) | ((first | refine Runs.cond_no rfl ?_ ?_ | refine Runs.cond_nyes rfl ?_ ?_); · first | omega | rfl | assumption | (simp only [List.length_map]; omega)) | refine Runs.ret (ends_ro hm rfl rfl ?_) | exact Runs.ret (ends_cellR hm rfl rfl rfl (Nat.le_of_ble_eq_true rfl) rfl rfl))
 | refine op_box rfl (tl hn rfl) ?_
 | refine op_storeF rfl rfl rfl rfl (Nat.le_of_ble_eq_true rfl) ?_
 | refine op_alloc (tl hn rfl) ?_
 | refine op_storeN rfl rfl rfl rfl (Nat.le_of_ble_eq_true rfl) ?_
 | ((first | refine RunsL.pe hn rfl rfl rfl ?_ | refine RunsD.pe rfl rfl ?_); first
 | refine ⟨_, pu_add rfl rfl (by omega), ?_⟩
 | refine ⟨_, pu_indexAddr_map rfl rfl (by omega) (by assumption), ?_⟩
 | refine ⟨_, pu_sub rfl rfl (by omega), ?_⟩
 | refine ⟨_, pu_pick_b rfl rfl rfl, ?_⟩
 | refine ⟨_, pu_mul rfl rfl (by omega), ?_⟩
 | refine ⟨_, pu_build rfl rfl rfl rfl rfl rfl, ?_⟩))
    rw [List.take_length] at hov
    refine Runs.ctls 30 rfl (Runs.ret ?_)
    have e : treO v = .agg [.c (.int .i64 v.number), .row 5 1 ((v.bytes.map fun z => Value.int .u8 (z.toNat : Int)).map .c), .row 29 3 (v.items.flatMap treOs)] := by unfold treO; rw [treOs_eq]; rfl
    rw [e]
    intro a w hS
    refine endsO_3 (P := Try.prog) (ty := 29) (fn := Try.f13) (C := C) (S := _) (p := 2) (i0 := 1) (i1 := 2) (i2 := 3) (o := ⟨29, 0, [.int v.number, .own 2, .own 3]⟩) (us1 := v.bytes.map fun z => Value.int .u8 (z.toNat : Int)) (us2 := us) hsc ?_ ?_ ?_ ?_ ?_ ?_ (by decide) hov (fun b hb => ⟨(hfix b hb).1, (hfix b hb).2.1⟩) hnd hnew a w hS
    · rfl
    · rfl
    · rfl
    · rfl
    · rw [← u8_flat]; rfl
    · rfl
end Go.Proofs.Ytnecoghfhcimeaa
/- The fields of a value: the program's side. -/
namespace Go.Proofs.Ytnecoghfhcimeaa
set_option linter.unusedSimpArgs false
set_option linter.unusedVariables false
open Go.RowKit
set_option maxHeartbeats 16000000 in
theorem fitsRule_ac {d : Des} (hl : d.length ≤ 1048576) {r : Nat} {x : Rul} (hx : d[(r : Int).toNat]? = some x) (hk : KindOk d x) (v : Tre) (hv : v.Ok) : ACv Try.prog 122 [desR d, .int (r : Int), .rp [.int v.number, bytesR v.bytes, tresR v.items]] (.bool (decide (FitV d x v))) := by
  have hlm : (d.map rulR).length = d.length := List.length_map ..
  have hlv : (v.items.map Tre.cells).length = v.items.length := List.length_map ..
  have hlb : (v.bytes.map fun z => [RV.u8 z]).length = v.bytes.length := List.length_map ..
  have hlk : (x.kids.map fun z => [RV.int z]).length = x.kids.length := List.length_map ..
  have hr : r < d.length := (List.getElem?_eq_some_iff.1 hx).1
  have hL := impl_IntegerLimit d (r : Int) (by unfold maxLen; omega)
  have hM := impl_IntegerLimit d (x.kids.headD 0) (by unfold maxLen; omega)
  obtain ⟨f5, f7, f8, f4⟩ := item_fields hk
  refine ac_enter Try.func122 rfl _ Try.ntmps122 (by simp) fun C hn hm => ?_
  by_cases k1 : x.kind = 1
  · have hF : FitV d x v ↔ (0 ≤ v.number ∧ v.number ≤ pow8 x.size - 1) ∧ v.bytes.length = 0 ∧ v.items.length = 0 := by
      unfold FitV OwnV
      simp only [k1, if_true, show ¬ (1 : Int) = 2 by decide, show ¬ (1 : Int) = 3 by decide, show ¬ (1 : Int) = 4 by decide, show ¬ (1 : Int) = 5 by decide, show ¬ (1 : Int) = 6 by decide, show ¬ (1 : Int) = 7 by decide, show ¬ (1 : Int) = 8 by decide, show ¬ (1 : Int) = 9 by decide, show ¬ (1 : Int) = 10 by decide, if_false]
    have hlr : lim d (r : Int) = pow8 x.size - 1 := lim_yes hx (by unfold KindOk InR at hk; omega)
    rw [hlr] at hL
    repeat' (first
 | refine RunsL.step tabOk hn rfl ?_
 | refine RunsL.nil ?_
 | refine Runs.toRegion 30 rfl ?_
 | ((first | refine RunsL.pe hn rfl rfl rfl ?_ | refine RunsD.pe rfl rfl ?_); first
 | refine ⟨_, pu_nilCheck rfl, ?_⟩
 | refine ⟨_, pu_callR hL rfl, ?_⟩
 | refine ⟨_, pu_callR hM rfl, ?_⟩
 | refine ⟨_, pu_callR (impl_Min _ _) rfl, ?_⟩
 | refine ⟨_, pu_callR (inRange_ac _ _ _) rfl, ?_⟩)
 | (refine Runs.ctls 30 rfl ?_; first | refine Runs.cond_t rfl ?_ | refine Runs.cond_f rfl ?_ | ((first | refine Runs.cond_yes rfl ?_ ?_ | refine Runs.cond_nno rfl ?_ ?_); · first | omega | rfl | assumption | (simp only [List.length_map]; omega)) | ((first | refine Runs.cond_no rfl ?_ ?_ | refine Runs.cond_nyes rfl ?_ ?_); · first | omega | rfl | assumption | (simp only [List.length_map]; omega)) | refine Runs.cond_ndec rfl (fun h => ?_) (fun h => ?_) | refine Runs.ret (ends_ro hm rfl rfl ?_) | exact Runs.ret (ends_cellR hm rfl rfl rfl (Nat.le_of_ble_eq_true rfl) rfl rfl))
 | refine op_box rfl (tl hn rfl) ?_
 | refine RunsD.step tabOk hn rfl rfl ?_
 | refine RunsD.nil ?_
 | refine Runs.toDraw 30 mixed hn rfl (by kernel_rfl) rfl ?_
 | ((first | refine RunsL.pe hn rfl rfl rfl ?_ | refine RunsD.pe rfl rfl ?_); first
 | refine ⟨_, pu_add rfl rfl (by omega), ?_⟩
 | refine ⟨_, pu_indexAddr_map rfl rfl (by omega) (by assumption), ?_⟩
 | refine ⟨_, pu_sub rfl rfl (by omega), ?_⟩
 | refine ⟨_, pu_pick_b rfl rfl rfl, ?_⟩
 | refine ⟨_, pu_mul rfl rfl (by omega), ?_⟩
 | refine ⟨_, pu_build rfl rfl rfl rfl rfl rfl, ?_⟩)
 | ((first | refine RunsL.guard_dec rfl rfl rfl ?_ ?_ | refine RunsL.guard_ndec rfl rfl rfl ?_ ?_ | refine RunsL.guard_nb rfl rfl rfl ?_ ?_ | refine RunsL.guard_b rfl rfl rfl ?_ ?_ | refine RunsD.guard_dec rfl rfl rfl ?_ ?_ | refine RunsD.guard_ndec rfl rfl rfl ?_ ?_ | refine RunsD.guard_nb rfl rfl rfl ?_ ?_ | refine RunsD.guard_b rfl rfl rfl ?_ ?_) <;> intro h <;> try (exfalso; first | omega | contradiction | (simp only [List.length_map] at h; omega))))
    all_goals first
      | exact rr_bool (decide_eq_true (p := FitV d x v) (hF.2 (by omega))).symm
      | exact rr_bool (decide_eq_false (p := FitV d x v) fun hh => by have := hF.1 hh; omega).symm
      | exact rr_bool (decide_eq_decide.2 ⟨fun q => hF.2 (by omega), fun q => by have := hF.1 q; omega⟩)
      | (exfalso; omega)
  by_cases k2 : x.kind = 2
  · have hF : FitV d x v ↔ v.number = 0 ∧ v.bytes.length = 0 ∧ v.items.length = 0 := by
      unfold FitV OwnV
      simp only [k2, if_true, show ¬ (2 : Int) = 1 by decide, show ¬ (2 : Int) = 3 by decide, show ¬ (2 : Int) = 4 by decide, show ¬ (2 : Int) = 5 by decide, show ¬ (2 : Int) = 6 by decide, show ¬ (2 : Int) = 7 by decide, show ¬ (2 : Int) = 8 by decide, show ¬ (2 : Int) = 9 by decide, show ¬ (2 : Int) = 10 by decide, if_false]
    repeat' (first
 | refine RunsL.step tabOk hn rfl ?_
 | refine RunsL.nil ?_
 | refine Runs.toRegion 30 rfl ?_
 | ((first | refine RunsL.pe hn rfl rfl rfl ?_ | refine RunsD.pe rfl rfl ?_); first
 | refine ⟨_, pu_nilCheck rfl, ?_⟩
 | refine ⟨_, pu_callR hL rfl, ?_⟩
 | refine ⟨_, pu_callR hM rfl, ?_⟩
 | refine ⟨_, pu_callR (impl_Min _ _) rfl, ?_⟩
 | refine ⟨_, pu_callR (inRange_ac _ _ _) rfl, ?_⟩)
 | (refine Runs.ctls 30 rfl ?_; first | refine Runs.cond_t rfl ?_ | refine Runs.cond_f rfl ?_ | ((first | refine Runs.cond_yes rfl ?_ ?_ | refine Runs.cond_nno rfl ?_ ?_); · first | omega | rfl | assumption | (simp only [List.length_map]; omega)) | ((first | refine Runs.cond_no rfl ?_ ?_ | refine Runs.cond_nyes rfl ?_ ?_); · first | omega | rfl | assumption | (simp only [List.length_map]; omega)) | refine Runs.cond_ndec rfl (fun h => ?_) (fun h => ?_) | refine Runs.ret (ends_ro hm rfl rfl ?_) | exact Runs.ret (ends_cellR hm rfl rfl rfl (Nat.le_of_ble_eq_true rfl) rfl rfl))
 | refine op_box rfl (tl hn rfl) ?_
 | refine RunsD.step tabOk hn rfl rfl ?_
 | refine RunsD.nil ?_
 | refine Runs.toDraw 30 mixed hn rfl (by kernel_rfl) rfl ?_
 | ((first | refine RunsL.pe hn rfl rfl rfl ?_ | refine RunsD.pe rfl rfl ?_); first
 | refine ⟨_, pu_add rfl rfl (by omega), ?_⟩
 | refine ⟨_, pu_indexAddr_map rfl rfl (by omega) (by assumption), ?_⟩
 | refine ⟨_, pu_sub rfl rfl (by omega), ?_⟩
 | refine ⟨_, pu_pick_b rfl rfl rfl, ?_⟩
 | refine ⟨_, pu_mul rfl rfl (by omega), ?_⟩
 | refine ⟨_, pu_build rfl rfl rfl rfl rfl rfl, ?_⟩)
 | ((first | refine RunsL.guard_dec rfl rfl rfl ?_ ?_ | refine RunsL.guard_ndec rfl rfl rfl ?_ ?_ | refine RunsL.guard_nb rfl rfl rfl ?_ ?_ | refine RunsL.guard_b rfl rfl rfl ?_ ?_ | refine RunsD.guard_dec rfl rfl rfl ?_ ?_ | refine RunsD.guard_ndec rfl rfl rfl ?_ ?_ | refine RunsD.guard_nb rfl rfl rfl ?_ ?_ | refine RunsD.guard_b rfl rfl rfl ?_ ?_) <;> intro h <;> try (exfalso; first | omega | contradiction | (simp only [List.length_map] at h; omega))))
    all_goals first
      | exact rr_bool (decide_eq_true (p := FitV d x v) (hF.2 (by omega))).symm
      | exact rr_bool (decide_eq_false (p := FitV d x v) fun hh => by have := hF.1 hh; omega).symm
      | exact rr_bool (decide_eq_decide.2 ⟨fun q => hF.2 (by omega), fun q => by have := hF.1 q; omega⟩)
      | (exfalso; omega)
  by_cases k3 : x.kind = 3
  · have hF : FitV d x v ↔ v.number = 0 ∧ (v.bytes.length : Int) = x.size ∧ v.items.length = 0 := by
      unfold FitV OwnV
      simp only [k3, if_true, show ¬ (3 : Int) = 1 by decide, show ¬ (3 : Int) = 2 by decide, show ¬ (3 : Int) = 4 by decide, show ¬ (3 : Int) = 5 by decide, show ¬ (3 : Int) = 6 by decide, show ¬ (3 : Int) = 7 by decide, show ¬ (3 : Int) = 8 by decide, show ¬ (3 : Int) = 9 by decide, show ¬ (3 : Int) = 10 by decide, if_false]
    repeat' (first
 | refine RunsL.step tabOk hn rfl ?_
 | refine RunsL.nil ?_
 | refine Runs.toRegion 30 rfl ?_
 | ((first | refine RunsL.pe hn rfl rfl rfl ?_ | refine RunsD.pe rfl rfl ?_); first
 | refine ⟨_, pu_nilCheck rfl, ?_⟩
 | refine ⟨_, pu_callR hL rfl, ?_⟩
 | refine ⟨_, pu_callR hM rfl, ?_⟩
 | refine ⟨_, pu_callR (impl_Min _ _) rfl, ?_⟩
 | refine ⟨_, pu_callR (inRange_ac _ _ _) rfl, ?_⟩)
 | (refine Runs.ctls 30 rfl ?_; first | refine Runs.cond_t rfl ?_ | refine Runs.cond_f rfl ?_ | ((first | refine Runs.cond_yes rfl ?_ ?_ | refine Runs.cond_nno rfl ?_ ?_); · first | omega | rfl | assumption | (simp only [List.length_map]; omega)) | ((first | refine Runs.cond_no rfl ?_ ?_ | refine Runs.cond_nyes rfl ?_ ?_); · first | omega | rfl | assumption | (simp only [List.length_map]; omega)) | refine Runs.cond_ndec rfl (fun h => ?_) (fun h => ?_) | refine Runs.ret (ends_ro hm rfl rfl ?_) | exact Runs.ret (ends_cellR hm rfl rfl rfl (Nat.le_of_ble_eq_true rfl) rfl rfl))
 | refine op_box rfl (tl hn rfl) ?_
 | refine RunsD.step tabOk hn rfl rfl ?_
 | refine RunsD.nil ?_
 | refine Runs.toDraw 30 mixed hn rfl (by kernel_rfl) rfl ?_
 | ((first | refine RunsL.pe hn rfl rfl rfl ?_ | refine RunsD.pe rfl rfl ?_); first
 | refine ⟨_, pu_add rfl rfl (by omega), ?_⟩
 | refine ⟨_, pu_indexAddr_map rfl rfl (by omega) (by assumption), ?_⟩
 | refine ⟨_, pu_sub rfl rfl (by omega), ?_⟩
 | refine ⟨_, pu_pick_b rfl rfl rfl, ?_⟩
 | refine ⟨_, pu_mul rfl rfl (by omega), ?_⟩
 | refine ⟨_, pu_build rfl rfl rfl rfl rfl rfl, ?_⟩)
 | ((first | refine RunsL.guard_dec rfl rfl rfl ?_ ?_ | refine RunsL.guard_ndec rfl rfl rfl ?_ ?_ | refine RunsL.guard_nb rfl rfl rfl ?_ ?_ | refine RunsL.guard_b rfl rfl rfl ?_ ?_ | refine RunsD.guard_dec rfl rfl rfl ?_ ?_ | refine RunsD.guard_ndec rfl rfl rfl ?_ ?_ | refine RunsD.guard_nb rfl rfl rfl ?_ ?_ | refine RunsD.guard_b rfl rfl rfl ?_ ?_) <;> intro h <;> try (exfalso; first | omega | contradiction | (simp only [List.length_map] at h; omega))))
    all_goals first
      | exact rr_bool (decide_eq_true (p := FitV d x v) (hF.2 (by omega))).symm
      | exact rr_bool (decide_eq_false (p := FitV d x v) fun hh => by have := hF.1 hh; omega).symm
      | exact rr_bool (decide_eq_decide.2 ⟨fun q => hF.2 (by omega), fun q => by have := hF.1 q; omega⟩)
      | (exfalso; omega)
  by_cases k4 : x.kind = 4
  · have hF : FitV d x v ↔ v.number = 0 ∧ (v.bytes.length : Int) ≤ mn 400 (lim d (x.kids.headD 0)) ∧ v.items.length = 0 := by
      unfold FitV OwnV
      simp only [k4, if_true, show ¬ (4 : Int) = 1 by decide, show ¬ (4 : Int) = 2 by decide, show ¬ (4 : Int) = 3 by decide, show ¬ (4 : Int) = 5 by decide, show ¬ (4 : Int) = 6 by decide, show ¬ (4 : Int) = 7 by decide, show ¬ (4 : Int) = 8 by decide, show ¬ (4 : Int) = 9 by decide, show ¬ (4 : Int) = 10 by decide, if_false]
    have hk0 := head_at (l := x.kids) (by have := f4 k4; omega)
    repeat' (first
 | refine RunsL.step tabOk hn rfl ?_
 | refine RunsL.nil ?_
 | refine Runs.toRegion 30 rfl ?_
 | ((first | refine RunsL.pe hn rfl rfl rfl ?_ | refine RunsD.pe rfl rfl ?_); first
 | refine ⟨_, pu_nilCheck rfl, ?_⟩
 | refine ⟨_, pu_callR hL rfl, ?_⟩
 | refine ⟨_, pu_callR hM rfl, ?_⟩
 | refine ⟨_, pu_callR (impl_Min _ _) rfl, ?_⟩
 | refine ⟨_, pu_callR (inRange_ac _ _ _) rfl, ?_⟩)
 | (refine Runs.ctls 30 rfl ?_; first | refine Runs.cond_t rfl ?_ | refine Runs.cond_f rfl ?_ | ((first | refine Runs.cond_yes rfl ?_ ?_ | refine Runs.cond_nno rfl ?_ ?_); · first | omega | rfl | assumption | (simp only [List.length_map]; omega)) | ((first | refine Runs.cond_no rfl ?_ ?_ | refine Runs.cond_nyes rfl ?_ ?_); · first | omega | rfl | assumption | (simp only [List.length_map]; omega)) | refine Runs.cond_ndec rfl (fun h => ?_) (fun h => ?_) | refine Runs.ret (ends_ro hm rfl rfl ?_) | exact Runs.ret (ends_cellR hm rfl rfl rfl (Nat.le_of_ble_eq_true rfl) rfl rfl))
 | refine op_box rfl (tl hn rfl) ?_
 | refine RunsD.step tabOk hn rfl rfl ?_
 | refine RunsD.nil ?_
 | refine Runs.toDraw 30 mixed hn rfl (by kernel_rfl) rfl ?_
 | ((first | refine RunsL.pe hn rfl rfl rfl ?_ | refine RunsD.pe rfl rfl ?_); first
 | refine ⟨_, pu_add rfl rfl (by omega), ?_⟩
 | refine ⟨_, pu_indexAddr_map rfl rfl (by omega) (by assumption), ?_⟩
 | refine ⟨_, pu_sub rfl rfl (by omega), ?_⟩
 | refine ⟨_, pu_pick_b rfl rfl rfl, ?_⟩
 | refine ⟨_, pu_mul rfl rfl (by omega), ?_⟩
 | refine ⟨_, pu_build rfl rfl rfl rfl rfl rfl, ?_⟩)
 | ((first | refine RunsL.guard_dec rfl rfl rfl ?_ ?_ | refine RunsL.guard_ndec rfl rfl rfl ?_ ?_ | refine RunsL.guard_nb rfl rfl rfl ?_ ?_ | refine RunsL.guard_b rfl rfl rfl ?_ ?_ | refine RunsD.guard_dec rfl rfl rfl ?_ ?_ | refine RunsD.guard_ndec rfl rfl rfl ?_ ?_ | refine RunsD.guard_nb rfl rfl rfl ?_ ?_ | refine RunsD.guard_b rfl rfl rfl ?_ ?_) <;> intro h <;> try (exfalso; first | omega | contradiction | (simp only [List.length_map] at h; omega))))
    all_goals first
      | exact rr_bool (decide_eq_true (p := FitV d x v) (hF.2 (by omega))).symm
      | exact rr_bool (decide_eq_false (p := FitV d x v) fun hh => by have := hF.1 hh; omega).symm
      | exact rr_bool (decide_eq_decide.2 ⟨fun q => hF.2 (by omega), fun q => by have := hF.1 q; omega⟩)
      | (exfalso; omega)
  by_cases k10 : x.kind = 10
  · have hF : FitV d x v ↔ v.number = 0 ∧ v.bytes.length ≤ 400 ∧ v.items.length = 0 := by
      unfold FitV OwnV
      simp only [k10, if_true, show ¬ (10 : Int) = 1 by decide, show ¬ (10 : Int) = 2 by decide, show ¬ (10 : Int) = 3 by decide, show ¬ (10 : Int) = 4 by decide, show ¬ (10 : Int) = 5 by decide, show ¬ (10 : Int) = 6 by decide, show ¬ (10 : Int) = 7 by decide, show ¬ (10 : Int) = 8 by decide, show ¬ (10 : Int) = 9 by decide, if_false]
    repeat' (first
 | refine RunsL.step tabOk hn rfl ?_
 | refine RunsL.nil ?_
 | refine Runs.toRegion 30 rfl ?_
 | ((first | refine RunsL.pe hn rfl rfl rfl ?_ | refine RunsD.pe rfl rfl ?_); first
 | refine ⟨_, pu_nilCheck rfl, ?_⟩
 | refine ⟨_, pu_callR hL rfl, ?_⟩
 | refine ⟨_, pu_callR hM rfl, ?_⟩
 | refine ⟨_, pu_callR (impl_Min _ _) rfl, ?_⟩
 | refine ⟨_, pu_callR (inRange_ac _ _ _) rfl, ?_⟩)
 | (refine Runs.ctls 30 rfl ?_; first | refine Runs.cond_t rfl ?_ | refine Runs.cond_f rfl ?_ | ((first | refine Runs.cond_yes rfl ?_ ?_ | refine Runs.cond_nno rfl ?_ ?_); · first | omega | rfl | assumption | (simp only [List.length_map]; omega)) | ((first | refine Runs.cond_no rfl ?_ ?_ | refine Runs.cond_nyes rfl ?_ ?_); · first | omega | rfl | assumption | (simp only [List.length_map]; omega)) | refine Runs.cond_ndec rfl (fun h => ?_) (fun h => ?_) | refine Runs.ret (ends_ro hm rfl rfl ?_) | exact Runs.ret (ends_cellR hm rfl rfl rfl (Nat.le_of_ble_eq_true rfl) rfl rfl))
 | refine op_box rfl (tl hn rfl) ?_
 | refine RunsD.step tabOk hn rfl rfl ?_
 | refine RunsD.nil ?_
 | refine Runs.toDraw 30 mixed hn rfl (by kernel_rfl) rfl ?_
 | ((first | refine RunsL.pe hn rfl rfl rfl ?_ | refine RunsD.pe rfl rfl ?_); first
 | refine ⟨_, pu_add rfl rfl (by omega), ?_⟩
 | refine ⟨_, pu_indexAddr_map rfl rfl (by omega) (by assumption), ?_⟩
 | refine ⟨_, pu_sub rfl rfl (by omega), ?_⟩
 | refine ⟨_, pu_pick_b rfl rfl rfl, ?_⟩
 | refine ⟨_, pu_mul rfl rfl (by omega), ?_⟩
 | refine ⟨_, pu_build rfl rfl rfl rfl rfl rfl, ?_⟩)
 | ((first | refine RunsL.guard_dec rfl rfl rfl ?_ ?_ | refine RunsL.guard_ndec rfl rfl rfl ?_ ?_ | refine RunsL.guard_nb rfl rfl rfl ?_ ?_ | refine RunsL.guard_b rfl rfl rfl ?_ ?_ | refine RunsD.guard_dec rfl rfl rfl ?_ ?_ | refine RunsD.guard_ndec rfl rfl rfl ?_ ?_ | refine RunsD.guard_nb rfl rfl rfl ?_ ?_ | refine RunsD.guard_b rfl rfl rfl ?_ ?_) <;> intro h <;> try (exfalso; first | omega | contradiction | (simp only [List.length_map] at h; omega))))
    all_goals first
      | exact rr_bool (decide_eq_true (p := FitV d x v) (hF.2 (by omega))).symm
      | exact rr_bool (decide_eq_false (p := FitV d x v) fun hh => by have := hF.1 hh; omega).symm
      | exact rr_bool (decide_eq_decide.2 ⟨fun q => hF.2 (by omega), fun q => by have := hF.1 q; omega⟩)
      | (exfalso; omega)
  by_cases k5 : x.kind = 5
  · have hF : FitV d x v ↔ v.number = 0 ∧ v.bytes.length = 0 ∧ (v.items.length : Int) ≤ mn 40 (lim d (x.kids.headD 0)) := by
      unfold FitV OwnV
      simp only [k5, if_true, show ¬ (5 : Int) = 1 by decide, show ¬ (5 : Int) = 2 by decide, show ¬ (5 : Int) = 3 by decide, show ¬ (5 : Int) = 4 by decide, show ¬ (5 : Int) = 6 by decide, show ¬ (5 : Int) = 7 by decide, show ¬ (5 : Int) = 8 by decide, show ¬ (5 : Int) = 9 by decide, show ¬ (5 : Int) = 10 by decide, if_false]
    have hk0 := head_at (l := x.kids) (by have := f5 k5; omega)
    repeat' (first
 | refine RunsL.step tabOk hn rfl ?_
 | refine RunsL.nil ?_
 | refine Runs.toRegion 30 rfl ?_
 | ((first | refine RunsL.pe hn rfl rfl rfl ?_ | refine RunsD.pe rfl rfl ?_); first
 | refine ⟨_, pu_nilCheck rfl, ?_⟩
 | refine ⟨_, pu_callR hL rfl, ?_⟩
 | refine ⟨_, pu_callR hM rfl, ?_⟩
 | refine ⟨_, pu_callR (impl_Min _ _) rfl, ?_⟩
 | refine ⟨_, pu_callR (inRange_ac _ _ _) rfl, ?_⟩)
 | (refine Runs.ctls 30 rfl ?_; first | refine Runs.cond_t rfl ?_ | refine Runs.cond_f rfl ?_ | ((first | refine Runs.cond_yes rfl ?_ ?_ | refine Runs.cond_nno rfl ?_ ?_); · first | omega | rfl | assumption | (simp only [List.length_map]; omega)) | ((first | refine Runs.cond_no rfl ?_ ?_ | refine Runs.cond_nyes rfl ?_ ?_); · first | omega | rfl | assumption | (simp only [List.length_map]; omega)) | refine Runs.cond_ndec rfl (fun h => ?_) (fun h => ?_) | refine Runs.ret (ends_ro hm rfl rfl ?_) | exact Runs.ret (ends_cellR hm rfl rfl rfl (Nat.le_of_ble_eq_true rfl) rfl rfl))
 | refine op_box rfl (tl hn rfl) ?_
 | refine RunsD.step tabOk hn rfl rfl ?_
 | refine RunsD.nil ?_
 | refine Runs.toDraw 30 mixed hn rfl (by kernel_rfl) rfl ?_
 | ((first | refine RunsL.pe hn rfl rfl rfl ?_ | refine RunsD.pe rfl rfl ?_); first
 | refine ⟨_, pu_add rfl rfl (by omega), ?_⟩
 | refine ⟨_, pu_indexAddr_map rfl rfl (by omega) (by assumption), ?_⟩
 | refine ⟨_, pu_sub rfl rfl (by omega), ?_⟩
 | refine ⟨_, pu_pick_b rfl rfl rfl, ?_⟩
 | refine ⟨_, pu_mul rfl rfl (by omega), ?_⟩
 | refine ⟨_, pu_build rfl rfl rfl rfl rfl rfl, ?_⟩)
 | ((first | refine RunsL.guard_dec rfl rfl rfl ?_ ?_ | refine RunsL.guard_ndec rfl rfl rfl ?_ ?_ | refine RunsL.guard_nb rfl rfl rfl ?_ ?_ | refine RunsL.guard_b rfl rfl rfl ?_ ?_ | refine RunsD.guard_dec rfl rfl rfl ?_ ?_ | refine RunsD.guard_ndec rfl rfl rfl ?_ ?_ | refine RunsD.guard_nb rfl rfl rfl ?_ ?_ | refine RunsD.guard_b rfl rfl rfl ?_ ?_) <;> intro h <;> try (exfalso; first | omega | contradiction | (simp only [List.length_map] at h; omega))))
    all_goals first
      | exact rr_bool (decide_eq_true (p := FitV d x v) (hF.2 (by omega))).symm
      | exact rr_bool (decide_eq_false (p := FitV d x v) fun hh => by have := hF.1 hh; omega).symm
      | exact rr_bool (decide_eq_decide.2 ⟨fun q => hF.2 (by omega), fun q => by have := hF.1 q; omega⟩)
      | (exfalso; omega)
  by_cases k6 : x.kind = 6
  · have hF : FitV d x v ↔ v.number = 0 ∧ v.bytes.length = 0 ∧ v.items.length = x.kids.length := by
      unfold FitV OwnV
      simp only [k6, if_true, show ¬ (6 : Int) = 1 by decide, show ¬ (6 : Int) = 2 by decide, show ¬ (6 : Int) = 3 by decide, show ¬ (6 : Int) = 4 by decide, show ¬ (6 : Int) = 5 by decide, show ¬ (6 : Int) = 7 by decide, show ¬ (6 : Int) = 8 by decide, show ¬ (6 : Int) = 9 by decide, show ¬ (6 : Int) = 10 by decide, if_false]
    repeat' (first
 | refine RunsL.step tabOk hn rfl ?_
 | refine RunsL.nil ?_
 | refine Runs.toRegion 30 rfl ?_
 | ((first | refine RunsL.pe hn rfl rfl rfl ?_ | refine RunsD.pe rfl rfl ?_); first
 | refine ⟨_, pu_nilCheck rfl, ?_⟩
 | refine ⟨_, pu_callR hL rfl, ?_⟩
 | refine ⟨_, pu_callR hM rfl, ?_⟩
 | refine ⟨_, pu_callR (impl_Min _ _) rfl, ?_⟩
 | refine ⟨_, pu_callR (inRange_ac _ _ _) rfl, ?_⟩)
 | (refine Runs.ctls 30 rfl ?_; first | refine Runs.cond_t rfl ?_ | refine Runs.cond_f rfl ?_ | ((first | refine Runs.cond_yes rfl ?_ ?_ | refine Runs.cond_nno rfl ?_ ?_); · first | omega | rfl | assumption | (simp only [List.length_map]; omega)) | ((first | refine Runs.cond_no rfl ?_ ?_ | refine Runs.cond_nyes rfl ?_ ?_); · first | omega | rfl | assumption | (simp only [List.length_map]; omega)) | refine Runs.cond_ndec rfl (fun h => ?_) (fun h => ?_) | refine Runs.ret (ends_ro hm rfl rfl ?_) | exact Runs.ret (ends_cellR hm rfl rfl rfl (Nat.le_of_ble_eq_true rfl) rfl rfl))
 | refine op_box rfl (tl hn rfl) ?_
 | refine RunsD.step tabOk hn rfl rfl ?_
 | refine RunsD.nil ?_
 | refine Runs.toDraw 30 mixed hn rfl (by kernel_rfl) rfl ?_
 | ((first | refine RunsL.pe hn rfl rfl rfl ?_ | refine RunsD.pe rfl rfl ?_); first
 | refine ⟨_, pu_add rfl rfl (by omega), ?_⟩
 | refine ⟨_, pu_indexAddr_map rfl rfl (by omega) (by assumption), ?_⟩
 | refine ⟨_, pu_sub rfl rfl (by omega), ?_⟩
 | refine ⟨_, pu_pick_b rfl rfl rfl, ?_⟩
 | refine ⟨_, pu_mul rfl rfl (by omega), ?_⟩
 | refine ⟨_, pu_build rfl rfl rfl rfl rfl rfl, ?_⟩)
 | ((first | refine RunsL.guard_dec rfl rfl rfl ?_ ?_ | refine RunsL.guard_ndec rfl rfl rfl ?_ ?_ | refine RunsL.guard_nb rfl rfl rfl ?_ ?_ | refine RunsL.guard_b rfl rfl rfl ?_ ?_ | refine RunsD.guard_dec rfl rfl rfl ?_ ?_ | refine RunsD.guard_ndec rfl rfl rfl ?_ ?_ | refine RunsD.guard_nb rfl rfl rfl ?_ ?_ | refine RunsD.guard_b rfl rfl rfl ?_ ?_) <;> intro h <;> try (exfalso; first | omega | contradiction | (simp only [List.length_map] at h; omega))))
    all_goals first
      | exact rr_bool (decide_eq_true (p := FitV d x v) (hF.2 (by omega))).symm
      | exact rr_bool (decide_eq_false (p := FitV d x v) fun hh => by have := hF.1 hh; omega).symm
      | exact rr_bool (decide_eq_decide.2 ⟨fun q => hF.2 (by omega), fun q => by have := hF.1 q; omega⟩)
      | (exfalso; omega)
  by_cases k7 : x.kind = 7
  · have hF : FitV d x v ↔ v.bytes.length = 0 ∧ v.items.length = 1 ∧ 0 ≤ v.number ∧ v.number ≤ lim d (x.kids.headD 0) := by
      unfold FitV OwnV
      simp only [k7, if_true, show ¬ (7 : Int) = 1 by decide, show ¬ (7 : Int) = 2 by decide, show ¬ (7 : Int) = 3 by decide, show ¬ (7 : Int) = 4 by decide, show ¬ (7 : Int) = 5 by decide, show ¬ (7 : Int) = 6 by decide, show ¬ (7 : Int) = 8 by decide, show ¬ (7 : Int) = 9 by decide, show ¬ (7 : Int) = 10 by decide, if_false]
    have hk0 := head_at (l := x.kids) (by have := (f7 k7).1; omega)
    repeat' (first
 | refine RunsL.step tabOk hn rfl ?_
 | refine RunsL.nil ?_
 | refine Runs.toRegion 30 rfl ?_
 | ((first | refine RunsL.pe hn rfl rfl rfl ?_ | refine RunsD.pe rfl rfl ?_); first
 | refine ⟨_, pu_nilCheck rfl, ?_⟩
 | refine ⟨_, pu_callR hL rfl, ?_⟩
 | refine ⟨_, pu_callR hM rfl, ?_⟩
 | refine ⟨_, pu_callR (impl_Min _ _) rfl, ?_⟩
 | refine ⟨_, pu_callR (inRange_ac _ _ _) rfl, ?_⟩)
 | (refine Runs.ctls 30 rfl ?_; first | refine Runs.cond_t rfl ?_ | refine Runs.cond_f rfl ?_ | ((first | refine Runs.cond_yes rfl ?_ ?_ | refine Runs.cond_nno rfl ?_ ?_); · first | omega | rfl | assumption | (simp only [List.length_map]; omega)) | ((first | refine Runs.cond_no rfl ?_ ?_ | refine Runs.cond_nyes rfl ?_ ?_); · first | omega | rfl | assumption | (simp only [List.length_map]; omega)) | refine Runs.cond_ndec rfl (fun h => ?_) (fun h => ?_) | refine Runs.ret (ends_ro hm rfl rfl ?_) | exact Runs.ret (ends_cellR hm rfl rfl rfl (Nat.le_of_ble_eq_true rfl) rfl rfl))
 | refine op_box rfl (tl hn rfl) ?_
 | refine RunsD.step tabOk hn rfl rfl ?_
 | refine RunsD.nil ?_
 | refine Runs.toDraw 30 mixed hn rfl (by kernel_rfl) rfl ?_
 | ((first | refine RunsL.pe hn rfl rfl rfl ?_ | refine RunsD.pe rfl rfl ?_); first
 | refine ⟨_, pu_add rfl rfl (by omega), ?_⟩
 | refine ⟨_, pu_indexAddr_map rfl rfl (by omega) (by assumption), ?_⟩
 | refine ⟨_, pu_sub rfl rfl (by omega), ?_⟩
 | refine ⟨_, pu_pick_b rfl rfl rfl, ?_⟩
 | refine ⟨_, pu_mul rfl rfl (by omega), ?_⟩
 | refine ⟨_, pu_build rfl rfl rfl rfl rfl rfl, ?_⟩)
 | ((first | refine RunsL.guard_dec rfl rfl rfl ?_ ?_ | refine RunsL.guard_ndec rfl rfl rfl ?_ ?_ | refine RunsL.guard_nb rfl rfl rfl ?_ ?_ | refine RunsL.guard_b rfl rfl rfl ?_ ?_ | refine RunsD.guard_dec rfl rfl rfl ?_ ?_ | refine RunsD.guard_ndec rfl rfl rfl ?_ ?_ | refine RunsD.guard_nb rfl rfl rfl ?_ ?_ | refine RunsD.guard_b rfl rfl rfl ?_ ?_) <;> intro h <;> try (exfalso; first | omega | contradiction | (simp only [List.length_map] at h; omega))))
    all_goals first
      | exact rr_bool (decide_eq_true (p := FitV d x v) (hF.2 (by omega))).symm
      | exact rr_bool (decide_eq_false (p := FitV d x v) fun hh => by have := hF.1 hh; omega).symm
      | exact rr_bool (decide_eq_decide.2 ⟨fun q => hF.2 (by omega), fun q => by have := hF.1 q; omega⟩)
      | (exfalso; omega)
  by_cases k8 : x.kind = 8
  · have hF : FitV d x v ↔ v.number = 0 ∧ v.bytes.length = 0 ∧ v.items.length ≤ 1 := by
      unfold FitV OwnV
      simp only [k8, if_true, show ¬ (8 : Int) = 1 by decide, show ¬ (8 : Int) = 2 by decide, show ¬ (8 : Int) = 3 by decide, show ¬ (8 : Int) = 4 by decide, show ¬ (8 : Int) = 5 by decide, show ¬ (8 : Int) = 6 by decide, show ¬ (8 : Int) = 7 by decide, show ¬ (8 : Int) = 9 by decide, show ¬ (8 : Int) = 10 by decide, if_false]
    repeat' (first
 | refine RunsL.step tabOk hn rfl ?_
 | refine RunsL.nil ?_
 | refine Runs.toRegion 30 rfl ?_
 | ((first | refine RunsL.pe hn rfl rfl rfl ?_ | refine RunsD.pe rfl rfl ?_); first
 | refine ⟨_, pu_nilCheck rfl, ?_⟩
 | refine ⟨_, pu_callR hL rfl, ?_⟩
 | refine ⟨_, pu_callR hM rfl, ?_⟩
 | refine ⟨_, pu_callR (impl_Min _ _) rfl, ?_⟩
 | refine ⟨_, pu_callR (inRange_ac _ _ _) rfl, ?_⟩)
 | (refine Runs.ctls 30 rfl ?_; first | refine Runs.cond_t rfl ?_ | refine Runs.cond_f rfl ?_ | ((first | refine Runs.cond_yes rfl ?_ ?_ | refine Runs.cond_nno rfl ?_ ?_); · first | omega | rfl | assumption | (simp only [List.length_map]; omega)) | ((first | refine Runs.cond_no rfl ?_ ?_ | refine Runs.cond_nyes rfl ?_ ?_); · first | omega | rfl | assumption | (simp only [List.length_map]; omega)) | refine Runs.cond_ndec rfl (fun h => ?_) (fun h => ?_) | refine Runs.ret (ends_ro hm rfl rfl ?_) | exact Runs.ret (ends_cellR hm rfl rfl rfl (Nat.le_of_ble_eq_true rfl) rfl rfl))
 | refine op_box rfl (tl hn rfl) ?_
 | refine RunsD.step tabOk hn rfl rfl ?_
 | refine RunsD.nil ?_
 | refine Runs.toDraw 30 mixed hn rfl (by kernel_rfl) rfl ?_
 | ((first | refine RunsL.pe hn rfl rfl rfl ?_ | refine RunsD.pe rfl rfl ?_); first
 | refine ⟨_, pu_add rfl rfl (by omega), ?_⟩
 | refine ⟨_, pu_indexAddr_map rfl rfl (by omega) (by assumption), ?_⟩
 | refine ⟨_, pu_sub rfl rfl (by omega), ?_⟩
 | refine ⟨_, pu_pick_b rfl rfl rfl, ?_⟩
 | refine ⟨_, pu_mul rfl rfl (by omega), ?_⟩
 | refine ⟨_, pu_build rfl rfl rfl rfl rfl rfl, ?_⟩)
 | ((first | refine RunsL.guard_dec rfl rfl rfl ?_ ?_ | refine RunsL.guard_ndec rfl rfl rfl ?_ ?_ | refine RunsL.guard_nb rfl rfl rfl ?_ ?_ | refine RunsL.guard_b rfl rfl rfl ?_ ?_ | refine RunsD.guard_dec rfl rfl rfl ?_ ?_ | refine RunsD.guard_ndec rfl rfl rfl ?_ ?_ | refine RunsD.guard_nb rfl rfl rfl ?_ ?_ | refine RunsD.guard_b rfl rfl rfl ?_ ?_) <;> intro h <;> try (exfalso; first | omega | contradiction | (simp only [List.length_map] at h; omega))))
    all_goals first
      | exact rr_bool (decide_eq_true (p := FitV d x v) (hF.2 (by omega))).symm
      | exact rr_bool (decide_eq_false (p := FitV d x v) fun hh => by have := hF.1 hh; omega).symm
      | exact rr_bool (decide_eq_decide.2 ⟨fun q => hF.2 (by omega), fun q => by have := hF.1 q; omega⟩)
      | (exfalso; omega)
  by_cases k9 : x.kind = 9
  · have hF : FitV d x v ↔ v.number = 0 ∧ v.bytes.length = 0 ∧ v.items.length = 1 := by
      unfold FitV OwnV
      simp only [k9, if_true, show ¬ (9 : Int) = 1 by decide, show ¬ (9 : Int) = 2 by decide, show ¬ (9 : Int) = 3 by decide, show ¬ (9 : Int) = 4 by decide, show ¬ (9 : Int) = 5 by decide, show ¬ (9 : Int) = 6 by decide, show ¬ (9 : Int) = 7 by decide, show ¬ (9 : Int) = 8 by decide, show ¬ (9 : Int) = 10 by decide, if_false]
    repeat' (first
 | refine RunsL.step tabOk hn rfl ?_
 | refine RunsL.nil ?_
 | refine Runs.toRegion 30 rfl ?_
 | ((first | refine RunsL.pe hn rfl rfl rfl ?_ | refine RunsD.pe rfl rfl ?_); first
 | refine ⟨_, pu_nilCheck rfl, ?_⟩
 | refine ⟨_, pu_callR hL rfl, ?_⟩
 | refine ⟨_, pu_callR hM rfl, ?_⟩
 | refine ⟨_, pu_callR (impl_Min _ _) rfl, ?_⟩
 | refine ⟨_, pu_callR (inRange_ac _ _ _) rfl, ?_⟩)
 | (refine Runs.ctls 30 rfl ?_; first | refine Runs.cond_t rfl ?_ | refine Runs.cond_f rfl ?_ | ((first | refine Runs.cond_yes rfl ?_ ?_ | refine Runs.cond_nno rfl ?_ ?_); · first | omega | rfl | assumption | (simp only [List.length_map]; omega)) | ((first | refine Runs.cond_no rfl ?_ ?_ | refine Runs.cond_nyes rfl ?_ ?_); · first | omega | rfl | assumption | (simp only [List.length_map]; omega)) | refine Runs.cond_ndec rfl (fun h => ?_) (fun h => ?_) | refine Runs.ret (ends_ro hm rfl rfl ?_) | exact Runs.ret (ends_cellR hm rfl rfl rfl (Nat.le_of_ble_eq_true rfl) rfl rfl))
 | refine op_box rfl (tl hn rfl) ?_
 | refine RunsD.step tabOk hn rfl rfl ?_
 | refine RunsD.nil ?_
 | refine Runs.toDraw 30 mixed hn rfl (by kernel_rfl) rfl ?_
 | ((first | refine RunsL.pe hn rfl rfl rfl ?_ | refine RunsD.pe rfl rfl ?_); first
 | refine ⟨_, pu_add rfl rfl (by omega), ?_⟩
 | refine ⟨_, pu_indexAddr_map rfl rfl (by omega) (by assumption), ?_⟩
 | refine ⟨_, pu_sub rfl rfl (by omega), ?_⟩
 | refine ⟨_, pu_pick_b rfl rfl rfl, ?_⟩
 | refine ⟨_, pu_mul rfl rfl (by omega), ?_⟩
 | refine ⟨_, pu_build rfl rfl rfl rfl rfl rfl, ?_⟩)
 | ((first | refine RunsL.guard_dec rfl rfl rfl ?_ ?_ | refine RunsL.guard_ndec rfl rfl rfl ?_ ?_ | refine RunsL.guard_nb rfl rfl rfl ?_ ?_ | refine RunsL.guard_b rfl rfl rfl ?_ ?_ | refine RunsD.guard_dec rfl rfl rfl ?_ ?_ | refine RunsD.guard_ndec rfl rfl rfl ?_ ?_ | refine RunsD.guard_nb rfl rfl rfl ?_ ?_ | refine RunsD.guard_b rfl rfl rfl ?_ ?_) <;> intro h <;> try (exfalso; first | omega | contradiction | (simp only [List.length_map] at h; omega))))
    all_goals first
      | exact rr_bool (decide_eq_true (p := FitV d x v) (hF.2 (by omega))).symm
      | exact rr_bool (decide_eq_false (p := FitV d x v) fun hh => by have := hF.1 hh; omega).symm
      | exact rr_bool (decide_eq_decide.2 ⟨fun q => hF.2 (by omega), fun q => by have := hF.1 q; omega⟩)
      | (exfalso; omega)
  · exfalso
    unfold KindOk at hk
    omega
end Go.Proofs.Ytnecoghfhcimeaa
/- The fields of a value: the law's words. -/
namespace Go.Proofs.Ytnecoghfhcimeaa
set_option linter.unusedSimpArgs false
set_option linter.unusedVariables false
open Go.RowKit
end Go.Proofs.Ytnecoghfhcimeaa
/- Which values a rule has: the walks of both sides. -/
namespace Go.Proofs.Ytnecoghfhcimeaa
set_option linter.unusedSimpArgs false
set_option linter.unusedVariables false
open Go.RowKit
set_option maxHeartbeats 4000000 in
theorem validValue_ac {d : Des} (hG : Good' d) (hl : d.length ≤ 1048576) : ∀ v : Tre, v.Ok → ∀ (r : Nat) (x : Rul), d[r]? = some x → ACv Try.prog 71 [desR d, .int (r : Int), .rp v.cells] (.bool (decide (Vld d r v))) := by
  refine Tre.ind fun v ih hv r x hx => ?_
  have hx' : d[(r : Int).toNat]? = some x := hx
  have hr : r < d.length := (List.getElem?_eq_some_iff.1 hx).1
  obtain ⟨o1, o2, o3, o4⟩ := hv.out
  have o3' := o3
  unfold maxLen at o3'
  have hlm : (d.map rulR).length = d.length := List.length_map ..
  have hlv : (v.items.map Tre.cells).length = v.items.length := List.length_map ..
  have hk := kind_at hG hx
  have hfit := fitsRule_ac hl hx' hk v hv
  have hiff := vld_iff (v := v) hx
  have hof := own_fit (v := v) hk
  rw [Tre.cells_eq]
  refine ac_enter Try.func71 rfl _ Try.ntmps71 (by simp) fun C hn hm => ?_
  by_cases hF : FitV d x v
  · rw [decide_eq_true hF] at hfit
    repeat' (first
 | refine RunsL.step tabOk hn rfl ?_
 | refine RunsL.nil ?_
 | refine Runs.toRegion 30 rfl ?_
 | ((first | refine RunsL.pe hn rfl rfl rfl ?_ | refine RunsD.pe rfl rfl ?_); first
 | refine ⟨_, pu_callR hfit rfl, ?_⟩
 | refine ⟨_, pu_nilCheck rfl, ?_⟩)
 | (refine Runs.ctls 30 rfl ?_; first | refine Runs.cond_t rfl ?_ | refine Runs.cond_f rfl ?_ | ((first | refine Runs.cond_yes rfl ?_ ?_ | refine Runs.cond_nno rfl ?_ ?_); · first | omega | rfl | assumption | (simp only [List.length_map]; omega)) | ((first | refine Runs.cond_no rfl ?_ ?_ | refine Runs.cond_nyes rfl ?_ ?_); · first | omega | rfl | assumption | (simp only [List.length_map]; omega)) | refine Runs.ret (ends_ro hm rfl rfl ?_) | exact Runs.ret (ends_cellR hm rfl rfl rfl (Nat.le_of_ble_eq_true rfl) rfl rfl))
 | refine op_box rfl (tl hn rfl) ?_
 | refine RunsD.step tabOk hn rfl rfl ?_
 | refine RunsD.nil ?_
 | refine Runs.toDraw 30 mixed hn rfl (by kernel_rfl) rfl ?_
 | ((first | refine RunsL.pe hn rfl rfl rfl ?_ | refine RunsD.pe rfl rfl ?_); first
 | refine ⟨_, pu_add rfl rfl (by omega), ?_⟩
 | refine ⟨_, pu_indexAddr_map rfl rfl (by omega) (by assumption), ?_⟩
 | refine ⟨_, pu_sub rfl rfl (by omega), ?_⟩
 | refine ⟨_, pu_pick_b rfl rfl rfl, ?_⟩
 | refine ⟨_, pu_mul rfl rfl (by omega), ?_⟩
 | refine ⟨_, pu_build rfl rfl rfl rfl rfl rfl, ?_⟩)
 | ((first | refine RunsL.guard_dec rfl rfl rfl ?_ ?_ | refine RunsL.guard_ndec rfl rfl rfl ?_ ?_ | refine RunsL.guard_nb rfl rfl rfl ?_ ?_ | refine RunsL.guard_b rfl rfl rfl ?_ ?_ | refine RunsD.guard_dec rfl rfl rfl ?_ ?_ | refine RunsD.guard_ndec rfl rfl rfl ?_ ?_ | refine RunsD.guard_nb rfl rfl rfl ?_ ?_ | refine RunsD.guard_b rfl rfl rfl ?_ ?_) <;> intro h <;> try (exfalso; first | omega | contradiction | (simp only [List.length_map] at h; omega))))
    refine Runs.loopN 30 rfl (fun j => [(1, .int (r : Int)), (2, .ro (.rp [.int v.number, bytesR v.bytes, tresR v.items])), (3, .obj 0 0), (18, .int (v.items.length : Int)), (19, .int (j : Int))]) (fun _ => [⟨38, 0, [.ro (rulsR d)]⟩]) (fun j => ∀ (i : Nat) y, i < j → v.items[i]? = some y → 0 ≤ itemR x v.number i ∧ Vld d (itemR x v.number i).toNat y) v.items.length 0 (Nat.zero_le _) (fun i y h => absurd h (by omega)) ⟨rfl, rfl, rfl, by simp [look], rfl, trivial⟩ rfl fun j hj hQ next => ?_
    by_cases hlt : j < v.items.length
    · obtain ⟨y, hy⟩ : ∃ y, v.items[(j : Int).toNat]? = some y := ⟨_, List.getElem?_eq_getElem hlt⟩
      have hy' : v.items[j]? = some y := hy
      have hm' := List.mem_of_getElem? hy'
      have hI := childRule_ac (d := d) (r := r) (x := x) (by unfold maxLen; omega) hx' hk v.number (bytesR v.bytes) (tresR v.items) (j : Int) (by omega)
      by_cases hneg : itemR x v.number j < 0
      · repeat' (first
 | refine RunsL.step tabOk hn rfl ?_
 | refine RunsL.nil ?_
 | refine Runs.toRegion 30 rfl ?_
 | ((first | refine RunsL.pe hn rfl rfl rfl ?_ | refine RunsD.pe rfl rfl ?_); first
 | refine ⟨_, pu_callR hI rfl, ?_⟩
 | refine ⟨_, pu_nilCheck rfl, ?_⟩)
 | (refine Runs.ctls 30 rfl ?_; first | refine Runs.cond_t rfl ?_ | refine Runs.cond_f rfl ?_ | ((first | refine Runs.cond_yes rfl ?_ ?_ | refine Runs.cond_nno rfl ?_ ?_); · first | omega | rfl | assumption | (simp only [List.length_map]; omega)) | ((first | refine Runs.cond_no rfl ?_ ?_ | refine Runs.cond_nyes rfl ?_ ?_); · first | omega | rfl | assumption | (simp only [List.length_map]; omega)) | refine Runs.ret (ends_ro hm rfl rfl ?_) | exact Runs.ret (ends_cellR hm rfl rfl rfl (Nat.le_of_ble_eq_true rfl) rfl rfl))
 | refine op_box rfl (tl hn rfl) ?_
 | refine RunsD.step tabOk hn rfl rfl ?_
 | refine RunsD.nil ?_
 | refine Runs.toDraw 30 mixed hn rfl (by kernel_rfl) rfl ?_
 | ((first | refine RunsL.pe hn rfl rfl rfl ?_ | refine RunsD.pe rfl rfl ?_); first
 | refine ⟨_, pu_add rfl rfl (by omega), ?_⟩
 | refine ⟨_, pu_indexAddr_map rfl rfl (by omega) (by assumption), ?_⟩
 | refine ⟨_, pu_sub rfl rfl (by omega), ?_⟩
 | refine ⟨_, pu_pick_b rfl rfl rfl, ?_⟩
 | refine ⟨_, pu_mul rfl rfl (by omega), ?_⟩
 | refine ⟨_, pu_build rfl rfl rfl rfl rfl rfl, ?_⟩)
 | ((first | refine RunsL.guard_dec rfl rfl rfl ?_ ?_ | refine RunsL.guard_ndec rfl rfl rfl ?_ ?_ | refine RunsL.guard_nb rfl rfl rfl ?_ ?_ | refine RunsL.guard_b rfl rfl rfl ?_ ?_ | refine RunsD.guard_dec rfl rfl rfl ?_ ?_ | refine RunsD.guard_ndec rfl rfl rfl ?_ ?_ | refine RunsD.guard_nb rfl rfl rfl ?_ ?_ | refine RunsD.guard_b rfl rfl rfl ?_ ?_) <;> intro h <;> try (exfalso; first | omega | contradiction | (simp only [List.length_map] at h; omega))))
        all_goals first
          | exact rr_bool (decide_eq_false fun hh => by have := own_item hG hx (hiff.1 hh).1 hlt; omega).symm
          | (exfalso; omega)
      · have k1 : itemR x v.number j < r := by rcases itemR_lt hG hx v.number j with e | e <;> omega
        have hcall := ih y hm' (o4 y hm') (itemR x v.number j).toNat _ (List.getElem?_eq_getElem (by omega))
        rw [show (((itemR x v.number j).toNat : Nat) : Int) = itemR x v.number j by omega] at hcall
        by_cases hz : Vld d (itemR x v.number j).toNat y
        · rw [decide_eq_true hz] at hcall
          repeat' (first
 | refine RunsL.step tabOk hn rfl ?_
 | refine RunsL.nil ?_
 | refine Runs.toRegion 30 rfl ?_
 | ((first | refine RunsL.pe hn rfl rfl rfl ?_ | refine RunsD.pe rfl rfl ?_); first
 | refine ⟨_, pu_callR hI rfl, ?_⟩
 | refine ⟨_, pu_callR hcall rfl, ?_⟩
 | refine ⟨_, pu_nilCheck rfl, ?_⟩)
 | (refine Runs.ctls 30 rfl ?_; first | refine Runs.cond_t rfl ?_ | refine Runs.cond_f rfl ?_ | ((first | refine Runs.cond_yes rfl ?_ ?_ | refine Runs.cond_nno rfl ?_ ?_); · first | omega | rfl | assumption | (simp only [List.length_map]; omega)) | ((first | refine Runs.cond_no rfl ?_ ?_ | refine Runs.cond_nyes rfl ?_ ?_); · first | omega | rfl | assumption | (simp only [List.length_map]; omega)) | refine Runs.ret (ends_ro hm rfl rfl ?_) | exact Runs.ret (ends_cellR hm rfl rfl rfl (Nat.le_of_ble_eq_true rfl) rfl rfl))
 | refine op_box rfl (tl hn rfl) ?_
 | refine RunsD.step tabOk hn rfl rfl ?_
 | refine RunsD.nil ?_
 | refine Runs.toDraw 30 mixed hn rfl (by kernel_rfl) rfl ?_
 | ((first | refine RunsL.pe hn rfl rfl rfl ?_ | refine RunsD.pe rfl rfl ?_); first
 | refine ⟨_, pu_add rfl rfl (by omega), ?_⟩
 | refine ⟨_, pu_indexAddr_map rfl rfl (by omega) (by assumption), ?_⟩
 | refine ⟨_, pu_sub rfl rfl (by omega), ?_⟩
 | refine ⟨_, pu_pick_b rfl rfl rfl, ?_⟩
 | refine ⟨_, pu_mul rfl rfl (by omega), ?_⟩
 | refine ⟨_, pu_build rfl rfl rfl rfl rfl rfl, ?_⟩)
 | ((first | refine RunsL.guard_dec rfl rfl rfl ?_ ?_ | refine RunsL.guard_ndec rfl rfl rfl ?_ ?_ | refine RunsL.guard_nb rfl rfl rfl ?_ ?_ | refine RunsL.guard_b rfl rfl rfl ?_ ?_ | refine RunsD.guard_dec rfl rfl rfl ?_ ?_ | refine RunsD.guard_ndec rfl rfl rfl ?_ ?_ | refine RunsD.guard_nb rfl rfl rfl ?_ ?_ | refine RunsD.guard_b rfl rfl rfl ?_ ?_) <;> intro h <;> try (exfalso; first | omega | contradiction | (simp only [List.length_map] at h; omega))))
          all_goals first
            | (exfalso; omega)
            | (refine next _ _ ⟨rfl, rfl, rfl, rfl, rfl, trivial⟩ hlt (fun i z hi hz' => ?_) rfl
               by_cases e : i = j
               · subst e; rw [hy'] at hz'; injection hz' with hz'; rw [← hz']; exact ⟨by omega, hz⟩
               · exact hQ i z (by omega) hz')
        · rw [decide_eq_false hz] at hcall
          repeat' (first
 | refine RunsL.step tabOk hn rfl ?_
 | refine RunsL.nil ?_
 | refine Runs.toRegion 30 rfl ?_
 | ((first | refine RunsL.pe hn rfl rfl rfl ?_ | refine RunsD.pe rfl rfl ?_); first
 | refine ⟨_, pu_callR hI rfl, ?_⟩
 | refine ⟨_, pu_callR hcall rfl, ?_⟩
 | refine ⟨_, pu_nilCheck rfl, ?_⟩)
 | (refine Runs.ctls 30 rfl ?_; first | refine Runs.cond_t rfl ?_ | refine Runs.cond_f rfl ?_ | ((first | refine Runs.cond_yes rfl ?_ ?_ | refine Runs.cond_nno rfl ?_ ?_); · first | omega | rfl | assumption | (simp only [List.length_map]; omega)) | ((first | refine Runs.cond_no rfl ?_ ?_ | refine Runs.cond_nyes rfl ?_ ?_); · first | omega | rfl | assumption | (simp only [List.length_map]; omega)) | refine Runs.ret (ends_ro hm rfl rfl ?_) | exact Runs.ret (ends_cellR hm rfl rfl rfl (Nat.le_of_ble_eq_true rfl) rfl rfl))
 | refine op_box rfl (tl hn rfl) ?_
 | refine RunsD.step tabOk hn rfl rfl ?_
 | refine RunsD.nil ?_
 | refine Runs.toDraw 30 mixed hn rfl (by kernel_rfl) rfl ?_
 | ((first | refine RunsL.pe hn rfl rfl rfl ?_ | refine RunsD.pe rfl rfl ?_); first
 | refine ⟨_, pu_add rfl rfl (by omega), ?_⟩
 | refine ⟨_, pu_indexAddr_map rfl rfl (by omega) (by assumption), ?_⟩
 | refine ⟨_, pu_sub rfl rfl (by omega), ?_⟩
 | refine ⟨_, pu_pick_b rfl rfl rfl, ?_⟩
 | refine ⟨_, pu_mul rfl rfl (by omega), ?_⟩
 | refine ⟨_, pu_build rfl rfl rfl rfl rfl rfl, ?_⟩)
 | ((first | refine RunsL.guard_dec rfl rfl rfl ?_ ?_ | refine RunsL.guard_ndec rfl rfl rfl ?_ ?_ | refine RunsL.guard_nb rfl rfl rfl ?_ ?_ | refine RunsL.guard_b rfl rfl rfl ?_ ?_ | refine RunsD.guard_dec rfl rfl rfl ?_ ?_ | refine RunsD.guard_ndec rfl rfl rfl ?_ ?_ | refine RunsD.guard_nb rfl rfl rfl ?_ ?_ | refine RunsD.guard_b rfl rfl rfl ?_ ?_) <;> intro h <;> try (exfalso; first | omega | contradiction | (simp only [List.length_map] at h; omega))))
          all_goals first
            | (exfalso; omega)
            | exact rr_bool (decide_eq_false fun hh => hz ((hiff.1 hh).2 j y hy')).symm
    · repeat' (first
 | refine RunsL.step tabOk hn rfl ?_
 | refine RunsL.nil ?_
 | refine Runs.toRegion 30 rfl ?_
 | (refine Runs.ctls 30 rfl ?_; first | refine Runs.cond_t rfl ?_ | refine Runs.cond_f rfl ?_ | ((first | refine Runs.cond_yes rfl ?_ ?_ | refine Runs.cond_nno rfl ?_ ?_); · first | omega | rfl | assumption | (simp only [List.length_map]; omega)) | ((first | refine Runs.cond_no rfl ?_ ?_ | refine Runs.cond_nyes rfl ?_ ?_); · first | omega | rfl | assumption | (simp only [List.length_map]; omega)) | refine Runs.ret (ends_ro hm rfl rfl ?_) | exact Runs.ret (ends_cellR hm rfl rfl rfl (Nat.le_of_ble_eq_true rfl) rfl rfl))
 | refine op_box rfl (tl hn rfl) ?_
 | refine RunsD.step tabOk hn rfl rfl ?_
 | refine RunsD.nil ?_
 | refine Runs.toDraw 30 mixed hn rfl (by kernel_rfl) rfl ?_
 | ((first | refine RunsL.pe hn rfl rfl rfl ?_ | refine RunsD.pe rfl rfl ?_); first
 | refine ⟨_, pu_add rfl rfl (by omega), ?_⟩
 | refine ⟨_, pu_indexAddr_map rfl rfl (by omega) (by assumption), ?_⟩
 | refine ⟨_, pu_sub rfl rfl (by omega), ?_⟩
 | refine ⟨_, pu_pick_b rfl rfl rfl, ?_⟩
 | refine ⟨_, pu_mul rfl rfl (by omega), ?_⟩
 | refine ⟨_, pu_build rfl rfl rfl rfl rfl rfl, ?_⟩)
 | ((first | refine RunsL.guard_dec rfl rfl rfl ?_ ?_ | refine RunsL.guard_ndec rfl rfl rfl ?_ ?_ | refine RunsL.guard_nb rfl rfl rfl ?_ ?_ | refine RunsL.guard_b rfl rfl rfl ?_ ?_ | refine RunsD.guard_dec rfl rfl rfl ?_ ?_ | refine RunsD.guard_ndec rfl rfl rfl ?_ ?_ | refine RunsD.guard_nb rfl rfl rfl ?_ ?_ | refine RunsD.guard_b rfl rfl rfl ?_ ?_) <;> intro h <;> try (exfalso; first | omega | contradiction | (simp only [List.length_map] at h; omega))))
      have hown : OwnV d x v := hof.2 ⟨hF, fun k7 => by
        have h7 := hF
        unfold FitV at h7
        rw [if_pos k7] at h7
        have hy' : v.items[0]? = some _ := List.getElem?_eq_getElem (show 0 < v.items.length by omega)
        exact (hQ 0 _ (by omega) hy').1⟩
      exact rr_bool (decide_eq_true (hiff.2 ⟨hown, fun i y hy => (hQ i y (by have := (List.getElem?_eq_some_iff.1 hy).1; omega) hy).2⟩)).symm
  · rw [decide_eq_false hF] at hfit
    repeat' (first
 | refine RunsL.step tabOk hn rfl ?_
 | refine RunsL.nil ?_
 | refine Runs.toRegion 30 rfl ?_
 | ((first | refine RunsL.pe hn rfl rfl rfl ?_ | refine RunsD.pe rfl rfl ?_); first
 | refine ⟨_, pu_callR hfit rfl, ?_⟩)
 | (refine Runs.ctls 30 rfl ?_; first | refine Runs.cond_t rfl ?_ | refine Runs.cond_f rfl ?_ | ((first | refine Runs.cond_yes rfl ?_ ?_ | refine Runs.cond_nno rfl ?_ ?_); · first | omega | rfl | assumption | (simp only [List.length_map]; omega)) | ((first | refine Runs.cond_no rfl ?_ ?_ | refine Runs.cond_nyes rfl ?_ ?_); · first | omega | rfl | assumption | (simp only [List.length_map]; omega)) | refine Runs.ret (ends_ro hm rfl rfl ?_) | exact Runs.ret (ends_cellR hm rfl rfl rfl (Nat.le_of_ble_eq_true rfl) rfl rfl))
 | refine op_box rfl (tl hn rfl) ?_
 | refine RunsD.step tabOk hn rfl rfl ?_
 | refine RunsD.nil ?_
 | refine Runs.toDraw 30 mixed hn rfl (by kernel_rfl) rfl ?_
 | ((first | refine RunsL.pe hn rfl rfl rfl ?_ | refine RunsD.pe rfl rfl ?_); first
 | refine ⟨_, pu_add rfl rfl (by omega), ?_⟩
 | refine ⟨_, pu_indexAddr_map rfl rfl (by omega) (by assumption), ?_⟩
 | refine ⟨_, pu_sub rfl rfl (by omega), ?_⟩
 | refine ⟨_, pu_pick_b rfl rfl rfl, ?_⟩
 | refine ⟨_, pu_mul rfl rfl (by omega), ?_⟩
 | refine ⟨_, pu_build rfl rfl rfl rfl rfl rfl, ?_⟩)
 | ((first | refine RunsL.guard_dec rfl rfl rfl ?_ ?_ | refine RunsL.guard_ndec rfl rfl rfl ?_ ?_ | refine RunsL.guard_nb rfl rfl rfl ?_ ?_ | refine RunsL.guard_b rfl rfl rfl ?_ ?_ | refine RunsD.guard_dec rfl rfl rfl ?_ ?_ | refine RunsD.guard_ndec rfl rfl rfl ?_ ?_ | refine RunsD.guard_nb rfl rfl rfl ?_ ?_ | refine RunsD.guard_b rfl rfl rfl ?_ ?_) <;> intro h <;> try (exfalso; first | omega | contradiction | (simp only [List.length_map] at h; omega))))
    exact rr_bool (decide_eq_false fun hh => hF (hof.1 (hiff.1 hh).1).1).symm
def VldI (d : Des) (r : Int) (v : Tre) : Prop := Kn d r ∧ Vld d r.toNat v
noncomputable instance (d : Des) (r : Int) (v : Tre) : Decidable (VldI d r v) := Classical.propDecidable _
end Go.Proofs.Ytnecoghfhcimeaa
/- The draw of a value of a rule: what it may be; the kinds without items. -/
namespace Go.Proofs.Ytnecoghfhcimeaa
set_option linter.unusedSimpArgs false
set_option linter.unusedVariables false
open Go.RowKit
open AV (Mem Keeps)
def tb (r : Nat) : Nat := 16 * 4 ^ r
structure MkV (d : Des) (r : Nat) (v : Tre) : Prop where
  vld : Vld d r v
  ok : v.Ok
  total : v.total ≤ tb r
def treRR (v : Tre) : RR := .agg [.ro (.int v.number), .row 5 1 (v.bytes.map RV.u8), .row 29 3 (v.items.flatMap Tre.cells)]
theorem treRR_ok (v : Tre) : Seals (treRR v) (treR v) := by
  have h1 := seals_bytes 5 v.bytes
  have h2 := seals_rowN 29 3 v.items Tre.cells fun x _ => Tre.cells_len x
  rw [← List.flatMap_def] at h2
  unfold treRR
  rw [Seals]
  refine ⟨_, rfl, ?_⟩
  rw [SealsL]
  refine ⟨_, _, rfl, by rw [Seals], ?_⟩
  rw [SealsL]
  refine ⟨_, _, rfl, h1, ?_⟩
  rw [SealsL]
  refine ⟨_, _, rfl, h2, ?_⟩
  rw [SealsL]
def rowT (l : List Tre) : Ob := ⟨29, 3, (l.flatMap Tre.cells).map .ro⟩
theorem harv_tre {σ : List Ob} {v : Tre} {a b : Nat} (h1 : σ[a]? = some (rowU v.bytes)) (h2 : σ[b]? = some (rowT v.items)) : Harv σ (treRR v) (.agg [.int v.number, .own a, .own b]) [a, b] := by
  simp only [treRR, Harv, Harvs, rowU, rowT] at *
  exact ⟨_, rfl, _, _, [], _, rfl, rfl, ⟨rfl, rfl⟩, _, _, [a], _, rfl, rfl, ⟨a, rfl, h1, rfl⟩, _, _, [b], _, rfl, rfl, ⟨b, rfl, h2, rfl⟩, rfl, rfl⟩
def QTre (p : Tre → Prop) (rr : RR) : Prop := ∃ v, Seals rr (treR v) ∧ p v
theorem qtre_ok {p : Tre → Prop} : ∀ rr, QTre p rr → ∃ r, Seals rr r ∧ ∃ v, r = treR v ∧ p v := by
  rintro _ ⟨v, hs, hv⟩
  exact ⟨_, hs, v, rfl, hv⟩
theorem ends_tre {C : Ctx} {fn : Func} {ct : TypeId} {b : List UInt8} {g : Nat} {u : Value} {p : Tre → Prop} {env : Env} {σ : List Ob} {i h : Int} {more : List Ob} {t j : Nat} {v : Tre} {tt : TypeId} {x y : Nat} (hm : ∀ x, C.mu x → x = g) (hr : fn.results = #[.cell t 29]) (hσ : σ = curOb ct u i h :: more) (ht : look env 0 = .pin 0 0 g) (hi : CurOk b i)
    (h1 : look env t = .obj j 0) (h2 : σ[j]? = some ⟨tt, 0, [.int v.number, .own x, .own y]⟩) (k1 : σ[x]? = some (rowU v.bytes)) (k2 : σ[y]? = some (rowT v.items)) (hn : [x, y].Nodup) (h0 : 0 ∉ [x, y]) (hQ : p v) : ∀ a w, Sim C ⟨env, σ⟩ a w → EndsD Try.prog C fn ct b g u (QTre p) a w :=
  endsD1 hm hr hσ ht hi (.agg [.int v.number, .own x, .own y]) (by
    simp only [ResV]
    exact ⟨j, 0, _, h1, h2, .inr ⟨3, by infer_instance, Nat.le_refl _, rfl⟩⟩) (treRR v) [x, y] (harv_tre k1 k2) hn h0 ⟨v, treRR_ok v, hQ⟩
theorem ends_treD {C : Ctx} {fn : Func} {ct : TypeId} {b : List UInt8} {g : Nat} {u : Value} {p : Tre → Prop} {env : Env} {σ : List Ob} {i h : Int} {more : List Ob} {t j : Nat} {v : Tre} {tt : TypeId} {x : Nat} (hm : ∀ x, C.mu x → x = g) (hr : fn.results = #[.cell t 29]) (hσ : σ = curOb ct u i h :: more) (ht : look env 0 = .pin 0 0 g) (hi : CurOk b i)
    (h1 : look env t = .obj j 0) (h2 : σ[j]? = some ⟨tt, 0, [.int v.number, .own x, .ro (tresR v.items)]⟩) (k1 : σ[x]? = some (rowU v.bytes)) (h0 : 0 ∉ [x]) (hQ : p v) : ∀ a w, Sim C ⟨env, σ⟩ a w → EndsD Try.prog C fn ct b g u (QTre p) a w :=
  endsD1 hm hr hσ ht hi (.agg [.int v.number, .own x, .ro (tresR v.items)]) (by
    simp only [ResV]
    exact ⟨j, 0, _, h1, h2, .inr ⟨3, by infer_instance, Nat.le_refl _, rfl⟩⟩) (.agg [.ro (.int v.number), .row 5 1 (v.bytes.map RV.u8), .ro (tresR v.items)]) [x] (by
    simp only [Harv, Harvs, rowU] at *
    exact ⟨_, rfl, _, _, [], _, rfl, rfl, ⟨rfl, rfl⟩, _, _, [x], _, rfl, rfl, ⟨x, rfl, k1, rfl⟩, _, _, [], _, rfl, rfl, ⟨rfl, rfl⟩, rfl, rfl⟩) (by simp) h0 ⟨v, by
    have h1 := seals_bytes 5 v.bytes
    rw [Seals]
    refine ⟨_, rfl, ?_⟩
    rw [SealsL]
    refine ⟨_, _, rfl, by rw [Seals], ?_⟩
    rw [SealsL]
    refine ⟨_, _, rfl, h1, ?_⟩
    rw [SealsL]
    refine ⟨_, _, rfl, by rw [Seals], ?_⟩
    rw [SealsL], hQ⟩
theorem pow8_ge {s : Int} (h : 1 ≤ s ∧ s ≤ 4) : 256 ≤ pow8 s := by
  rcases (show s = 1 ∨ s = 2 ∨ s = 3 ∨ s = 4 by omega) with rfl | rfl | rfl | rfl <;> decide
theorem mk_number {d : Des} {r : Nat} {x : Rul} (hx : d[r]? = some x) (k : x.kind = 1) (hs : 1 ≤ x.size ∧ x.size ≤ 4) {n : Int} (h : 0 ≤ n ∧ n < mn (pow8 x.size) 70000) : MkV d r (.mk n [] []) := by
  have h1 : n ≤ pow8 x.size - 1 ∧ n < 70000 := by unfold mn at h; split at h <;> omega
  refine ⟨(vld_iff hx).2 ⟨?_, by simp [Tre.items]⟩, by simp [Tre.Ok, Tre.OkL, I64, maxLen]; omega, by simp [Tre.total, Tre.totalL]⟩
  unfold OwnV
  rw [if_pos k]
  exact ⟨⟨h.1, h1.1⟩, rfl, rfl⟩
set_option maxHeartbeats 8000000 in
theorem l9Make1_d (b : List UInt8) (hb : b.length ≤ 1048576) (d : Des) (hD : DrawD d) (r : Nat) (x : Rul) (hx : d[(r : Int).toNat]? = some x) (k : x.kind = 1) (most : Int) : Drw Try.prog 123 66 b [desR d, .int (r : Int), .int most] (QTre (MkV d r)) := by
  have hx' : d[r]? = some x := hx
  obtain ⟨k', _, _, hr, hk', _, _⟩ := hD.kinds hx'
  have hs : 1 ≤ x.size ∧ x.size ≤ 4 := by have := hr.hsize.1 (by omega); omega
  have hP := l2Power_ac x.size hs
  have hM := spec_Min (pow8 x.size) 70000
  refine drw_enter Try.func66 rfl _ Try.ntmps66 (by simp) fun C g u i h hn hm hu hi => ?_
  have hp : 1 ≤ mn (pow8 x.size) 70000 ∧ mn (pow8 x.size) 70000 ≤ 70000 := by have := pow8_ge hs; unfold mn; split <;> omega
  repeat' (first
 | (refine op_drawI (l1Below_d b hb _ (by omega)) rfl hu hi rfl (LendsPL.ros [.int _]) rfl (by first | rfl | repeat' (first | rfl | exact clns_ro _ | refine clnO_cons ?_ ?_)) (tl hn rfl) ?_; intro i h y hi hy; obtain ⟨hya, hyb⟩ := hy.2 (by omega))
 | refine RunsL.step tabOk hn rfl ?_
 | refine RunsL.nil ?_
 | refine Runs.toRegion 30 rfl ?_
 | ((first | refine RunsL.pe hn rfl rfl rfl ?_ | refine RunsD.pe rfl rfl ?_); first
 | refine ⟨_, pu_callR hP rfl, ?_⟩
 | refine ⟨_, pu_callR hM rfl, ?_⟩
 | refine ⟨_, pu_buildS rfl, ?_⟩)
 | (refine Runs.ctls 30 rfl ?_; first | ((first | refine Runs.cond_yes rfl ?_ ?_ | refine Runs.cond_nno rfl ?_ ?_); · first | omega | rfl | assumption | (simp only [List.length_map]; omega)) | ((first | refine Runs.cond_no rfl ?_ ?_ | refine Runs.cond_nyes rfl ?_ ?_); · first | omega | rfl | assumption | (simp only [List.length_map]; omega)) | refine Runs.ret (ends_ro hm rfl rfl ?_) | exact Runs.ret (ends_cellR hm rfl rfl rfl (Nat.le_of_ble_eq_true rfl) rfl rfl))
 | refine op_box rfl (tl hn rfl) ?_
 | refine op_storeF rfl rfl rfl rfl (Nat.le_of_ble_eq_true rfl) ?_
 | refine op_alloc (tl hn rfl) ?_
 | refine op_storeN rfl rfl rfl rfl (Nat.le_of_ble_eq_true rfl) ?_
 | ((first | refine RunsL.pe hn rfl rfl rfl ?_ | refine RunsD.pe rfl rfl ?_); first
 | refine ⟨_, pu_add rfl rfl (by omega), ?_⟩
 | refine ⟨_, pu_indexAddr_map rfl rfl (by omega) (by assumption), ?_⟩
 | refine ⟨_, pu_sub rfl rfl (by omega), ?_⟩
 | refine ⟨_, pu_pick_b rfl rfl rfl, ?_⟩
 | refine ⟨_, pu_mul rfl rfl (by omega), ?_⟩
 | refine ⟨_, pu_build rfl rfl rfl rfl rfl rfl, ?_⟩)
 | ((first | refine RunsL.guard_dec rfl rfl rfl ?_ ?_ | refine RunsL.guard_ndec rfl rfl rfl ?_ ?_ | refine RunsL.guard_nb rfl rfl rfl ?_ ?_ | refine RunsL.guard_b rfl rfl rfl ?_ ?_ | refine RunsD.guard_dec rfl rfl rfl ?_ ?_ | refine RunsD.guard_ndec rfl rfl rfl ?_ ?_ | refine RunsD.guard_nb rfl rfl rfl ?_ ?_ | refine RunsD.guard_b rfl rfl rfl ?_ ?_) <;> intro h <;> try (exfalso; first | omega | contradiction | (simp only [List.length_map] at h; omega))))
  refine Runs.nilCell (e := 5) (sz := 1) 2 1 (by decide) rfl rfl ?_
  refine Runs.nilCell (e := 29) (sz := 3) 2 2 (by decide) rfl rfl ?_
  exact Runs.ctls 30 rfl (Runs.ret (ends_tre (v := .mk y [] []) (j := 2) (x := 5) (y := 6) hm rfl rfl rfl hi rfl rfl rfl rfl (by decide) (by decide) (mk_number hx' k hs ⟨hya, hyb⟩)))
theorem mk_flat {d : Des} {r : Nat} {x : Rul} (hx : d[r]? = some x) {l : List UInt8} (hl : l.length ≤ 10) (ho : OwnV d x (.mk 0 l [])) : MkV d r (.mk 0 l []) := by
  have h4 : 0 < 4 ^ r := Nat.pow_pos (by omega)
  exact ⟨(vld_iff hx).2 ⟨ho, by simp [Tre.items]⟩, by simp [Tre.Ok, Tre.OkL, I64, maxLen]; omega, by simp [Tre.total, Tre.totalL, tb]; omega⟩
set_option maxHeartbeats 8000000 in
theorem l9Make2_d (b : List UInt8) (hb : b.length ≤ 1048576) (d : Des) (hD : DrawD d) (r : Nat) (x : Rul) (hx : d[(r : Int).toNat]? = some x) (k : x.kind = 2) (most : Int) : Drw Try.prog 123 66 b [desR d, .int (r : Int), .int most] (QTre (MkV d r)) := by
  have hx' : d[r]? = some x := hx
  refine drw_enter Try.func66 rfl _ Try.ntmps66 (by simp) fun C g u i h hn hm hu hi => ?_
  repeat' (first
 | refine RunsL.step tabOk hn rfl ?_
 | refine RunsL.nil ?_
 | refine Runs.toRegion 30 rfl ?_
 | ((first | refine RunsL.pe hn rfl rfl rfl ?_ | refine RunsD.pe rfl rfl ?_); first
 | refine ⟨_, pu_buildS rfl, ?_⟩)
 | (refine Runs.ctls 30 rfl ?_; first | ((first | refine Runs.cond_yes rfl ?_ ?_ | refine Runs.cond_nno rfl ?_ ?_); · first | omega | rfl | assumption | (simp only [List.length_map]; omega)) | ((first | refine Runs.cond_no rfl ?_ ?_ | refine Runs.cond_nyes rfl ?_ ?_); · first | omega | rfl | assumption | (simp only [List.length_map]; omega)) | refine Runs.ret (ends_ro hm rfl rfl ?_) | exact Runs.ret (ends_cellR hm rfl rfl rfl (Nat.le_of_ble_eq_true rfl) rfl rfl))
 | refine op_box rfl (tl hn rfl) ?_
 | refine op_alloc (tl hn rfl) ?_
 | refine op_storeN rfl rfl rfl rfl (Nat.le_of_ble_eq_true rfl) ?_
 | ((first | refine RunsL.pe hn rfl rfl rfl ?_ | refine RunsD.pe rfl rfl ?_); first
 | refine ⟨_, pu_add rfl rfl (by omega), ?_⟩
 | refine ⟨_, pu_indexAddr_map rfl rfl (by omega) (by assumption), ?_⟩
 | refine ⟨_, pu_sub rfl rfl (by omega), ?_⟩
 | refine ⟨_, pu_pick_b rfl rfl rfl, ?_⟩
 | refine ⟨_, pu_mul rfl rfl (by omega), ?_⟩
 | refine ⟨_, pu_build rfl rfl rfl rfl rfl rfl, ?_⟩)
 | ((first | refine RunsL.guard_dec rfl rfl rfl ?_ ?_ | refine RunsL.guard_ndec rfl rfl rfl ?_ ?_ | refine RunsL.guard_nb rfl rfl rfl ?_ ?_ | refine RunsL.guard_b rfl rfl rfl ?_ ?_ | refine RunsD.guard_dec rfl rfl rfl ?_ ?_ | refine RunsD.guard_ndec rfl rfl rfl ?_ ?_ | refine RunsD.guard_nb rfl rfl rfl ?_ ?_ | refine RunsD.guard_b rfl rfl rfl ?_ ?_) <;> intro h <;> try (exfalso; first | omega | contradiction | (simp only [List.length_map] at h; omega))))
  refine Runs.nilCell (e := 5) (sz := 1) 2 1 (by decide) rfl rfl ?_
  refine Runs.nilCell (e := 29) (sz := 3) 2 2 (by decide) rfl rfl ?_
  exact Runs.ctls 30 rfl (Runs.ret (ends_tre (v := .mk 0 [] []) (j := 2) (x := 5) (y := 6) hm rfl rfl rfl hi rfl rfl rfl rfl (by decide) (by decide) (mk_flat hx' (by simp) (by unfold OwnV; rw [if_neg (by omega), if_pos k]; exact ⟨rfl, rfl, rfl⟩))))
set_option maxHeartbeats 8000000 in
theorem l9Make3_d (b : List UInt8) (hb : b.length ≤ 1048576) (d : Des) (hD : DrawD d) (r : Nat) (x : Rul) (hx : d[(r : Int).toNat]? = some x) (k : x.kind = 3) (most : Int) : Drw Try.prog 123 66 b [desR d, .int (r : Int), .int most] (QTre (MkV d r)) := by
  have hx' : d[r]? = some x := hx
  obtain ⟨k', _, _, hr, hk', _, _⟩ := hD.kinds hx'
  have hs : 1 ≤ x.size ∧ x.size ≤ 4 := hr.hsize.2.1 (by omega)
  obtain ⟨n3, hn3⟩ : ∃ n3 : Nat, x.size = n3 := ⟨x.size.toNat, by omega⟩
  have hB := l1Bytes_d b hb n3 (by omega)
  rw [← hn3] at hB
  refine drw_enter Try.func66 rfl _ Try.ntmps66 (by simp) fun C g u i h hn hm hu hi => ?_
  repeat' (first
 | (refine op_drawO hB rfl hu hi rfl rfl rfl (by first | rfl | repeat' (first | rfl | exact clns_ro _ | refine clnO_cons ?_ ?_)) (tl hn rfl) ?_; rintro i h _ hi ⟨z, rfl, hz⟩)
 | refine RunsL.step tabOk hn rfl ?_
 | refine RunsL.nil ?_
 | refine Runs.toRegion 30 rfl ?_
 | ((first | refine RunsL.pe hn rfl rfl rfl ?_ | refine RunsD.pe rfl rfl ?_); first
 | refine ⟨_, pu_buildS rfl, ?_⟩)
 | (refine Runs.ctls 30 rfl ?_; first | ((first | refine Runs.cond_yes rfl ?_ ?_ | refine Runs.cond_nno rfl ?_ ?_); · first | omega | rfl | assumption | (simp only [List.length_map]; omega)) | ((first | refine Runs.cond_no rfl ?_ ?_ | refine Runs.cond_nyes rfl ?_ ?_); · first | omega | rfl | assumption | (simp only [List.length_map]; omega)) | refine Runs.ret (ends_ro hm rfl rfl ?_) | exact Runs.ret (ends_cellR hm rfl rfl rfl (Nat.le_of_ble_eq_true rfl) rfl rfl))
 | refine op_box rfl (tl hn rfl) ?_
 | refine op_storeF rfl rfl rfl rfl (Nat.le_of_ble_eq_true rfl) ?_
 | refine op_alloc (tl hn rfl) ?_
 | refine op_storeN rfl rfl rfl rfl (Nat.le_of_ble_eq_true rfl) ?_
 | ((first | refine RunsL.pe hn rfl rfl rfl ?_ | refine RunsD.pe rfl rfl ?_); first
 | refine ⟨_, pu_add rfl rfl (by omega), ?_⟩
 | refine ⟨_, pu_indexAddr_map rfl rfl (by omega) (by assumption), ?_⟩
 | refine ⟨_, pu_sub rfl rfl (by omega), ?_⟩
 | refine ⟨_, pu_pick_b rfl rfl rfl, ?_⟩
 | refine ⟨_, pu_mul rfl rfl (by omega), ?_⟩
 | refine ⟨_, pu_build rfl rfl rfl rfl rfl rfl, ?_⟩)
 | ((first | refine RunsL.guard_dec rfl rfl rfl ?_ ?_ | refine RunsL.guard_ndec rfl rfl rfl ?_ ?_ | refine RunsL.guard_nb rfl rfl rfl ?_ ?_ | refine RunsL.guard_b rfl rfl rfl ?_ ?_ | refine RunsD.guard_dec rfl rfl rfl ?_ ?_ | refine RunsD.guard_ndec rfl rfl rfl ?_ ?_ | refine RunsD.guard_nb rfl rfl rfl ?_ ?_ | refine RunsD.guard_b rfl rfl rfl ?_ ?_) <;> intro h <;> try (exfalso; first | omega | contradiction | (simp only [List.length_map] at h; omega))))
  refine Runs.nilCell (e := 29) (sz := 3) 2 2 (by decide) rfl rfl ?_
  exact Runs.ctls 30 rfl (Runs.ret (ends_tre (v := .mk 0 z []) (j := 2) (x := 5) (y := 6) hm rfl rfl rfl hi rfl rfl rfl rfl (by decide) (by decide) (mk_flat hx' (by omega) (by unfold OwnV; rw [if_neg (by omega), if_neg (by omega), if_pos k]; exact ⟨rfl, by show (z.length : Int) = _; omega, rfl⟩))))
set_option maxHeartbeats 8000000 in
theorem l9Make4_d (b : List UInt8) (hb : b.length ≤ 1048576) (d : Des) (hD : DrawD d) (r : Nat) (x : Rul) (hx : d[(r : Int).toNat]? = some x) (k : x.kind = 4) (most : Int) (hmo : 0 ≤ most) : Drw Try.prog 123 66 b [desR d, .int (r : Int), .int most] (QTre (MkV d r)) := by
  have hx' : d[r]? = some x := hx
  obtain ⟨k', _, _, hr, hk', _, _⟩ := hD.kinds hx'
  obtain ⟨x0, hI, hkd⟩ := hr.hkids.1 (by omega)
  have hlim := hD.int hI.up.1
  have hM := spec_Min most 6
  have hm6 : 0 ≤ mn most 6 ∧ mn most 6 ≤ 6 := by unfold mn; split <;> omega
  refine drw_enter Try.func66 rfl _ Try.ntmps66 (by simp) fun C g u i h hn hm hu hi => ?_
  repeat' (first
 | (refine op_drawI (l1Below_d b hb _ (by omega)) rfl hu hi rfl (LendsPL.ros [.int _]) rfl (by first | rfl | repeat' (first | rfl | exact clns_ro _ | refine clnO_cons ?_ ?_)) (tl hn rfl) ?_; intro i h y hi hy; obtain ⟨n3, rfl, hn3⟩ : ∃ n3 : Nat, y = n3 ∧ n3 ≤ 6 := ⟨y.toNat, by unfold Bel at hy; omega, by unfold Bel at hy; omega⟩)
 | (refine op_drawO (l1Bytes_d b hb n3 (by omega)) rfl hu hi rfl rfl rfl (by first | rfl | repeat' (first | rfl | exact clns_ro _ | refine clnO_cons ?_ ?_)) (tl hn rfl) ?_; rintro i h _ hi ⟨z, rfl, hz⟩)
 | refine RunsL.step tabOk hn rfl ?_
 | refine RunsL.nil ?_
 | refine Runs.toRegion 30 rfl ?_
 | ((first | refine RunsL.pe hn rfl rfl rfl ?_ | refine RunsD.pe rfl rfl ?_); first
 | refine ⟨_, pu_buildS rfl, ?_⟩
 | refine ⟨_, pu_callR hM rfl, ?_⟩)
 | (refine Runs.ctls 30 rfl ?_; first | refine Runs.cond_t rfl ?_ | refine Runs.cond_f rfl ?_ | ((first | refine Runs.cond_yes rfl ?_ ?_ | refine Runs.cond_nno rfl ?_ ?_); · first | omega | rfl | assumption | (simp only [List.length_map]; omega)) | ((first | refine Runs.cond_no rfl ?_ ?_ | refine Runs.cond_nyes rfl ?_ ?_); · first | omega | rfl | assumption | (simp only [List.length_map]; omega)) | refine Runs.ret (ends_ro hm rfl rfl ?_) | exact Runs.ret (ends_cellR hm rfl rfl rfl (Nat.le_of_ble_eq_true rfl) rfl rfl))
 | refine op_box rfl (tl hn rfl) ?_
 | refine op_storeF rfl rfl rfl rfl (Nat.le_of_ble_eq_true rfl) ?_
 | refine op_alloc (tl hn rfl) ?_
 | refine op_storeN rfl rfl rfl rfl (Nat.le_of_ble_eq_true rfl) ?_
 | ((first | refine RunsL.pe hn rfl rfl rfl ?_ | refine RunsD.pe rfl rfl ?_); first
 | refine ⟨_, pu_add rfl rfl (by omega), ?_⟩
 | refine ⟨_, pu_indexAddr_map rfl rfl (by omega) (by assumption), ?_⟩
 | refine ⟨_, pu_sub rfl rfl (by omega), ?_⟩
 | refine ⟨_, pu_pick_b rfl rfl rfl, ?_⟩
 | refine ⟨_, pu_mul rfl rfl (by omega), ?_⟩
 | refine ⟨_, pu_build rfl rfl rfl rfl rfl rfl, ?_⟩)
 | ((first | refine RunsL.guard_dec rfl rfl rfl ?_ ?_ | refine RunsL.guard_ndec rfl rfl rfl ?_ ?_ | refine RunsL.guard_nb rfl rfl rfl ?_ ?_ | refine RunsL.guard_b rfl rfl rfl ?_ ?_ | refine RunsD.guard_dec rfl rfl rfl ?_ ?_ | refine RunsD.guard_ndec rfl rfl rfl ?_ ?_ | refine RunsD.guard_nb rfl rfl rfl ?_ ?_ | refine RunsD.guard_b rfl rfl rfl ?_ ?_) <;> intro h <;> try (exfalso; first | omega | contradiction | (simp only [List.length_map] at h; omega))))
  refine Runs.nilCell (e := 29) (sz := 3) 2 2 (by decide) rfl rfl ?_
  exact Runs.ctls 30 rfl (Runs.ret (ends_tre (v := .mk 0 z []) (j := 2) (x := 5) (y := 6) hm rfl rfl rfl hi rfl rfl rfl rfl (by decide) (by decide) (mk_flat hx' (by omega) (by
    unfold OwnV; rw [if_neg (by omega), if_neg (by omega), if_neg (by omega), if_pos k]
    refine ⟨rfl, ?_, rfl⟩
    show (z.length : Int) ≤ _
    rw [hkd]
    show (z.length : Int) ≤ mn 400 (lim d x0)
    unfold mn; split <;> omega))))
end Go.Proofs.Ytnecoghfhcimeaa
/- The draw of a value of a rule: kinds with items. -/
namespace Go.Proofs.Ytnecoghfhcimeaa
set_option linter.unusedSimpArgs false
set_option linter.unusedVariables false
open Go.RowKit
open AV (Mem Keeps)
theorem MkV.bound {d : Des} {r q : Nat} {v : Tre} (h : MkV d q v) (hq : q < r) : 4 * v.total ≤ tb r := by
  have h1 := h.total
  have h2 : 4 ^ (q + 1) ≤ 4 ^ r := Nat.pow_le_pow_right (by omega) hq
  unfold tb at *
  rw [Nat.pow_succ] at h2
  omega
theorem mk_one {d : Des} {r q : Nat} {x : Rul} (hx : d[r]? = some x) {v : Tre} (hv : MkV d q v) (hq : q < r) (ho : OwnV d x (.mk 0 [] [v])) (hi : itemR x 0 0 = q) : MkV d r (.mk 0 [] [v]) := by
  have hb := hv.bound hq
  have h4 : 0 < 4 ^ r := Nat.pow_pos (by omega)
  refine ⟨(vld_iff hx).2 ⟨ho, fun i y hy => ?_⟩, ?_, ?_⟩
  · have hi0 : i = 0 := by
      have := (List.getElem?_eq_some_iff.1 hy).1
      simp [Tre.items] at this; omega
    subst hi0
    simp [Tre.items] at hy
    subst hy
    show Vld d (itemR x 0 0).toNat v
    rw [hi]; exact hv.vld
  · simp only [Tre.Ok, Tre.OkL]; exact ⟨by unfold I64; omega, by simp [maxLen], by simp [maxLen], hv.ok, trivial⟩
  · simp only [Tre.total, Tre.totalL, List.length_nil, List.length_cons]
    have : 16 ≤ tb r := by unfold tb; omega
    omega
set_option maxHeartbeats 8000000 in
theorem l9Make9_d (b : List UInt8) (hb : b.length ≤ 1048576) (d : Des) (hD : DrawD d) (r : Nat) (x : Rul) (hx : d[(r : Int).toNat]? = some x) (k : x.kind = 9) (most : Int) (hmo : 0 ≤ most ∧ most ≤ 1048576)
    (ih : ∀ q : Nat, q < r → ∀ m : Int, 0 ≤ m ∧ m ≤ 1048576 → Drw Try.prog 123 66 b [desR d, .int (q : Int), .int m] (QTre (MkV d q))) : Drw Try.prog 123 66 b [desR d, .int (r : Int), .int most] (QTre (MkV d r)) := by
  have hx' : d[r]? = some x := hx
  obtain ⟨k', _, _, hr, hk', _, _⟩ := hD.kinds hx'
  obtain ⟨z, hz, hkd⟩ := hr.hkids.2.2.2.2.1 (by omega)
  have hzr := hD.kid hx' z (by rw [hkd]; simp)
  obtain ⟨q, rfl⟩ : ∃ q : Nat, z = q := ⟨z.toNat, by omega⟩
  have hk0 : x.kids[(0 : Int).toNat]? = some (q : Int) := by rw [hkd]; rfl
  have hI := ih q (by omega) (most / 2) (by omega)
  refine drw_enter Try.func66 rfl _ Try.ntmps66 (by simp) fun C g u i h hn hm hu hi => ?_
  repeat' (first
 | refine Runs.toLate (id := 31) 30 [0, 1, 2, 3, 4, 5, 6, 7] [8, 9, 10, 11] mixed rfl rfl (by kernel_rfl) (by kernel_rfl) (by kernel_rfl) ?_
 | (refine RunsP.drawN (t := 174) hI qtre_ok rfl hu hi rfl rfl (by first | rfl | repeat' (first | rfl | exact clns_ro _ | refine clnO_cons ?_ ?_)) (tl hn rfl) ?_; rintro i h _ hi ⟨v, rfl, hv⟩)
 | refine RunsH.pur (fun _ _ => pu_auto tabOk rfl) rfl (tl hn rfl) rfl ?_
 | refine RunsH.pur (fun _ _ => pu_buildS rfl) rfl (tl hn rfl) rfl ?_
 | refine RunsH.pur (fun _ _ => pu_quo rfl rfl (by omega)) rfl (tl hn rfl) rfl ?_
 | refine RunsH.pur (fun _ _ => pu_build rfl rfl rfl rfl rfl rfl) rfl (tl hn rfl) rfl ?_
 | refine RunsH.pur (fun _ _ => pu_indexAddr_map rfl rfl (by omega) (by assumption)) rfl (tl hn rfl) rfl ?_
 | refine RunsH.pur (fun _ _ => pu_build rfl rfl rfl rfl rfl rfl) rfl (tl hn rfl) rfl ?_
 | refine RunsH.nil ?_
 | refine RunsP.pur (pu_auto tabOk rfl) rfl rfl (tl hn rfl) (by first | rfl | repeat' (first | rfl | exact clns_ro _ | refine clnO_cons ?_ ?_)) ?_
 | refine RunsP.pur (pu_buildS rfl) rfl rfl (tl hn rfl) (by first | rfl | repeat' (first | rfl | exact clns_ro _ | refine clnO_cons ?_ ?_)) ?_
 | refine RunsP.pur (pu_quo rfl rfl (by omega)) rfl rfl (tl hn rfl) (by first | rfl | repeat' (first | rfl | exact clns_ro _ | refine clnO_cons ?_ ?_)) ?_
 | refine RunsP.pur (pu_build rfl rfl rfl rfl rfl rfl) rfl rfl (tl hn rfl) (by first | rfl | repeat' (first | rfl | exact clns_ro _ | refine clnO_cons ?_ ?_)) ?_
 | refine RunsP.pur (pu_indexAddr_map rfl rfl (by omega) (by assumption)) rfl rfl (tl hn rfl) (by first | rfl | repeat' (first | rfl | exact clns_ro _ | refine clnO_cons ?_ ?_)) ?_
 | refine RunsP.pur (pu_build rfl rfl rfl rfl rfl rfl) rfl rfl (tl hn rfl) (by first | rfl | repeat' (first | rfl | exact clns_ro _ | refine clnO_cons ?_ ?_)) ?_
 | refine RunsL.step tabOk hn rfl ?_
 | refine RunsL.nil ?_
 | refine Runs.toRegion 30 rfl ?_
 | refine RunsP.done 11 rfl (Nat.le_of_ble_eq_true rfl) (by kernel_rfl) (by kernel_rfl) ?_
 | ((first | refine RunsL.pe hn rfl rfl rfl ?_ | refine RunsD.pe rfl rfl ?_); first
 | refine ⟨_, pu_buildS rfl, ?_⟩
 | refine ⟨_, pu_quo rfl rfl (by omega), ?_⟩
 | refine ⟨_, pu_build rfl rfl rfl rfl rfl rfl, ?_⟩)
 | (refine Runs.ctls 30 rfl ?_; first | ((first | refine Runs.cond_yes rfl ?_ ?_ | refine Runs.cond_nno rfl ?_ ?_); · first | omega | rfl | assumption | (simp only [List.length_map]; omega)) | ((first | refine Runs.cond_no rfl ?_ ?_ | refine Runs.cond_nyes rfl ?_ ?_); · first | omega | rfl | assumption | (simp only [List.length_map]; omega)) | refine Runs.ret (ends_ro hm rfl rfl ?_) | exact Runs.ret (ends_cellR hm rfl rfl rfl (Nat.le_of_ble_eq_true rfl) rfl rfl))
 | refine op_box rfl (tl hn rfl) ?_
 | refine op_storeF rfl rfl rfl rfl (Nat.le_of_ble_eq_true rfl) ?_
 | refine op_alloc (tl hn rfl) ?_
 | refine op_storeN rfl rfl rfl rfl (Nat.le_of_ble_eq_true rfl) ?_
 | ((first | refine RunsL.pe hn rfl rfl rfl ?_ | refine RunsD.pe rfl rfl ?_); first
 | refine ⟨_, pu_add rfl rfl (by omega), ?_⟩
 | refine ⟨_, pu_indexAddr_map rfl rfl (by omega) (by assumption), ?_⟩
 | refine ⟨_, pu_sub rfl rfl (by omega), ?_⟩
 | refine ⟨_, pu_pick_b rfl rfl rfl, ?_⟩
 | refine ⟨_, pu_mul rfl rfl (by omega), ?_⟩
 | refine ⟨_, pu_build rfl rfl rfl rfl rfl rfl, ?_⟩)
 | ((first | refine RunsL.guard_dec rfl rfl rfl ?_ ?_ | refine RunsL.guard_ndec rfl rfl rfl ?_ ?_ | refine RunsL.guard_nb rfl rfl rfl ?_ ?_ | refine RunsL.guard_b rfl rfl rfl ?_ ?_ | refine RunsD.guard_dec rfl rfl rfl ?_ ?_ | refine RunsD.guard_ndec rfl rfl rfl ?_ ?_ | refine RunsD.guard_nb rfl rfl rfl ?_ ?_ | refine RunsD.guard_b rfl rfl rfl ?_ ?_) <;> intro h <;> try (exfalso; first | omega | contradiction | (simp only [List.length_map] at h; omega))))
  refine Runs.nilCell (e := 5) (sz := 1) 2 1 (by decide) rfl rfl ?_
  have hv1 : tresR [v] = .seq 3 [[.int v.number, bytesR v.bytes, tresR v.items]] := by unfold tresR; simp [Tre.cells_eq, tresR]
  refine Runs.ctls 30 rfl (Runs.ret (ends_treD (tt := 29) (v := .mk 0 [] [v]) (j := 2) (x := 5) hm rfl rfl rfl hi rfl ?_ rfl (by decide) (mk_one hx' hv (by omega) ?_ ?_)))
  · show _ = some (Ob.mk _ _ [_, _, AV.ro (tresR [v])])
    rw [hv1]; rfl
  · unfold OwnV
    rw [if_neg (by omega), if_neg (by omega), if_neg (by omega), if_neg (by omega), if_neg (by omega), if_neg (by omega), if_neg (by omega), if_neg (by omega), if_neg (by omega)]
    exact ⟨rfl, rfl, rfl⟩
  · unfold itemR
    rw [if_neg (by omega), if_neg (by omega), if_neg (by omega), if_pos (.inr k), hkd]; rfl
end Go.Proofs.Ytnecoghfhcimeaa
/- spec.CopyValue; copies as data. -/
namespace Go.Proofs.Ytnecoghfhcimeaa
set_option linter.unusedSimpArgs false
set_option linter.unusedVariables false
open Go.RowKit
open AV (Mem Keeps)
theorem ACo.data {P : Program} {f : FuncId} {args : List RV} {ov : OV} {r : RV} (h : ACo P f args ov) (hs : OV.Seal ov r) : ACv P f args r :=
  fun w ok us h0 hu => (h w us (RV.rels_mono ⟨Nat.le_refl _, fun b _ hb => ⟨trivial, rfl⟩⟩ _ _ hu)).mono fun _ _ ⟨u, bs, e, h1, h2, h3, h4⟩ => ⟨u, .ro r, [], e, rfl, by
    simp only [RR.rel]
    exact ⟨OV.seal_rel _ _ _ _ hs h1 fun b hb => ⟨h0 b (h3 b hb).1, by simp⟩, trivial⟩, by simp, by simp, h4⟩
theorem cells_flat (l : List Tre) : (l.flatMap Tre.cells).length = l.length * 3 := by
  induction l with
  | nil => rfl
  | cons x l ih => rw [List.flatMap_cons, List.length_append, ih, Tre.cells_len, List.length_cons]; omega
def cqS (v : Tre) (j : Nat) : List Ob := [⟨29, 0, [.int v.number, .ro (bytesR v.bytes), .ro (tresR v.items)]⟩, ⟨29, 0, [.int 0, .nil, .nil]⟩, ⟨5, 1, ((v.bytes.map fun z => [RV.u8 z]).flatten).map .ro⟩, ⟨29, 0, [.int v.number, .own 2, .own 4]⟩, ⟨29, 3, ((v.items.take j).flatMap Tre.cells).map .ro⟩]
set_option maxHeartbeats 16000000 in
theorem spec_CopyValue : ∀ v : Tre, v.total ≤ 1048576 → ACv Try.prog 11 [treR v] (treR v) := by
  refine Tre.ind fun v ih ht => ?_
  have he := v.total_eq
  have hb : (v.bytes.map fun z => [RV.u8 z]).length = v.bytes.length := List.length_map ..
  have hl' : (v.items.map Tre.cells).length = v.items.length := List.length_map ..
  refine ac_enter Try.func11 rfl _ Try.ntmps11 (by simp) fun C hn hm => ?_
  repeat' (first
 | refine Runs.toDrawV (id := 1) 30 [] [0, 1, 2, 3, 4, 5, 6, 7] 8 [⟨5, some (2, 7), 5, 1, (v.bytes.map fun z => [RV.u8 z]).flatten⟩, ⟨7, none, 29, 0, [Value.int .i64 0, .slice none 0 0, .slice none 0 0].map RV.c⟩] mixed hn rfl (by kernel_rfl) rfl rfl (by kernel_rfl) ?_
 | refine RunsL.step tabOk hn rfl ?_
 | refine RunsL.nil ?_
 | refine Runs.toRegion 30 rfl ?_
 | (refine Runs.ctls 30 rfl ?_; first | ((first | refine Runs.cond_yes rfl ?_ ?_ | refine Runs.cond_nno rfl ?_ ?_); · first | omega | rfl | assumption | (simp only [List.length_map]; omega)) | ((first | refine Runs.cond_no rfl ?_ ?_ | refine Runs.cond_nyes rfl ?_ ?_); · first | omega | rfl | assumption | (simp only [List.length_map]; omega)) | refine Runs.ret (ends_ro hm rfl rfl ?_) | exact Runs.ret (ends_cellR hm rfl rfl rfl (Nat.le_of_ble_eq_true rfl) rfl rfl))
 | refine op_box rfl (tl hn rfl) ?_
 | refine op_storeF rfl rfl rfl rfl (Nat.le_of_ble_eq_true rfl) ?_
 | refine op_alloc (tl hn rfl) ?_
 | refine op_storeN rfl rfl rfl rfl (Nat.le_of_ble_eq_true rfl) ?_
 | ((first | refine RunsL.pe hn rfl rfl rfl ?_ | refine RunsD.pe rfl rfl ?_); first
 | refine ⟨_, pu_add rfl rfl (by omega), ?_⟩
 | refine ⟨_, pu_indexAddr_map rfl rfl (by omega) (by assumption), ?_⟩
 | refine ⟨_, pu_sub rfl rfl (by omega), ?_⟩
 | refine ⟨_, pu_pick_b rfl rfl rfl, ?_⟩
 | refine ⟨_, pu_mul rfl rfl (by omega), ?_⟩
 | refine ⟨_, pu_build rfl rfl rfl rfl rfl rfl, ?_⟩))
  refine RunsU.step tabOk rfl rfl (fun _ => rfl) rfl (fun p r hp hr => .inl (by simp [AV.only, AV.onlys] <;> omega)) ?_
  refine RunsU.step tabOk rfl rfl (fun _ => rfl) rfl (fun p r hp hr => .inl (by simp [AV.only, AV.onlys] <;> omega)) ?_
  refine RunsU.lay (t := 7) (p := 0) rfl rfl rfl rfl mk_build0 ?_
  refine RunsU.step tabOk rfl rfl (fun _ => rfl) rfl (fun p r hp hr => .inl (by simp [AV.only, AV.onlys] <;> omega)) ?_
  refine RunsU.step tabOk rfl rfl (fun _ => rfl) rfl (fun p r hp hr => .inl (by simp [AV.only, AV.onlys] <;> omega)) ?_
  refine RunsU.gro (t := 10) (p := 0) rfl rfl rfl rfl rfl (mk_append (els := v.bytes.map fun z => [RV.u8 z]) rfl (by omega) (by omega)) ?_
  refine RunsU.pur (fun _ => pu_buildS rfl) rfl (staged_lateC (by kernel_rfl) rfl) rfl rfl ?_
  refine RunsU.made (t := 3) (p := 1) rfl rfl rfl rfl rfl (mk_alloc (zs := [.int .i64 0, .slice none 0 0, .slice none 0 0]) inferInstance) ?_
  refine RunsU.nil ?_
  repeat' (first
 | refine RunsL.step tabOk hn rfl ?_
 | refine RunsL.nil ?_
 | refine Runs.toRegion 30 rfl ?_
 | (refine Runs.ctls 30 rfl ?_; first | ((first | refine Runs.cond_yes rfl ?_ ?_ | refine Runs.cond_nno rfl ?_ ?_); · first | omega | rfl | assumption | (simp only [List.length_map]; omega)) | ((first | refine Runs.cond_no rfl ?_ ?_ | refine Runs.cond_nyes rfl ?_ ?_); · first | omega | rfl | assumption | (simp only [List.length_map]; omega)) | refine Runs.ret (ends_ro hm rfl rfl ?_) | exact Runs.ret (ends_cellR hm rfl rfl rfl (Nat.le_of_ble_eq_true rfl) rfl rfl))
 | refine op_box rfl (tl hn rfl) ?_
 | refine op_storeF rfl rfl rfl rfl (Nat.le_of_ble_eq_true rfl) ?_
 | refine op_alloc (tl hn rfl) ?_
 | refine op_storeN rfl rfl rfl rfl (Nat.le_of_ble_eq_true rfl) ?_
 | ((first | refine RunsL.pe hn rfl rfl rfl ?_ | refine RunsD.pe rfl rfl ?_); first
 | refine ⟨_, pu_add rfl rfl (by omega), ?_⟩
 | refine ⟨_, pu_indexAddr_map rfl rfl (by omega) (by assumption), ?_⟩
 | refine ⟨_, pu_sub rfl rfl (by omega), ?_⟩
 | refine ⟨_, pu_pick_b rfl rfl rfl, ?_⟩
 | refine ⟨_, pu_mul rfl rfl (by omega), ?_⟩
 | refine ⟨_, pu_build rfl rfl rfl rfl rfl rfl, ?_⟩))
  refine Runs.nilCell 3 2 (e := 29) (sz := 3) (by decide) rfl rfl ?_
  refine Runs.ctls 30 rfl ?_
  refine Runs.loopN 30 rfl (fun j => [(1, .obj 0 0), (2, .obj 1 0), (3, .obj 3 0), (4, .int (j : Int))]) (fun j => cqS v j) (fun _ => True) v.items.length 0 (Nat.zero_le _) trivial ⟨rfl, rfl, rfl, rfl, trivial⟩ rfl fun j hj _ next => ?_
  by_cases hlt : j < v.items.length
  · obtain ⟨x, hx⟩ : ∃ x, v.items[(j : Int).toNat]? = some x := ⟨_, List.getElem?_eq_getElem hlt⟩
    have hx' : v.items[j]? = some x := hx
    have hm' := List.mem_of_getElem? hx'
    have hcall := ih x hm' (Nat.le_trans (sum_mem_le Tre.total hm') (by omega))
    repeat' (first
 | refine Runs.toDrawT (id := 5) 30 [] [0, 1, 2, 3, 4, 5, 6, 7, 8] 9 [] mixed hn rfl (by kernel_rfl) rfl .nil (by decide) (by decide) (by decide) ?_
 | refine RunsT.nil ?_
 | refine RunsT.nil ?_
 | refine RunsT.step tabOk rfl rfl (fun _ => rfl) (by decide) ?_
 | refine RunsT.pur (fun _ => pu_loadN_eq rfl (Tre.cells_eq _) rfl) (by decide) rfl rfl ?_
 | refine RunsT.pur (fun _ => pu_callR hcall rfl) (by decide) rfl rfl ?_
 | refine RunsT.pur (fun _ => pu_build rfl rfl rfl rfl rfl rfl) (by decide) rfl rfl ?_
 | refine RunsT.pur (fun _ => pu_add rfl rfl (by omega)) (by decide) rfl rfl ?_
 | refine RunsT.pur (fun _ => pu_indexAddr_map rfl rfl (by omega) (by assumption)) (by decide) rfl rfl ?_
 | refine RunsL.step tabOk hn rfl ?_
 | refine RunsL.nil ?_
 | refine Runs.toRegion 30 rfl ?_
 | ((first | refine RunsL.pe hn rfl rfl rfl ?_ | refine RunsD.pe rfl rfl ?_); first
 | refine ⟨_, pu_loadN_eq rfl (Tre.cells_eq _) rfl, ?_⟩
 | refine ⟨_, pu_callR hcall rfl, ?_⟩
 | refine ⟨_, pu_build rfl rfl rfl rfl rfl rfl, ?_⟩)
 | (refine Runs.ctls 30 rfl ?_; first | ((first | refine Runs.cond_yes rfl ?_ ?_ | refine Runs.cond_nno rfl ?_ ?_); · first | omega | rfl | assumption | (simp only [List.length_map]; omega)) | ((first | refine Runs.cond_no rfl ?_ ?_ | refine Runs.cond_nyes rfl ?_ ?_); · first | omega | rfl | assumption | (simp only [List.length_map]; omega)) | refine Runs.ret (ends_ro hm rfl rfl ?_) | exact Runs.ret (ends_cellR hm rfl rfl rfl (Nat.le_of_ble_eq_true rfl) rfl rfl))
 | refine op_box rfl (tl hn rfl) ?_
 | refine op_storeF rfl rfl rfl rfl (Nat.le_of_ble_eq_true rfl) ?_
 | refine op_alloc (tl hn rfl) ?_
 | refine op_storeN rfl rfl rfl rfl (Nat.le_of_ble_eq_true rfl) ?_
 | ((first | refine RunsL.pe hn rfl rfl rfl ?_ | refine RunsD.pe rfl rfl ?_); first
 | refine ⟨_, pu_add rfl rfl (by omega), ?_⟩
 | refine ⟨_, pu_indexAddr_map rfl rfl (by omega) (by assumption), ?_⟩
 | refine ⟨_, pu_sub rfl rfl (by omega), ?_⟩
 | refine ⟨_, pu_pick_b rfl rfl rfl, ?_⟩
 | refine ⟨_, pu_mul rfl rfl (by omega), ?_⟩
 | refine ⟨_, pu_build rfl rfl rfl rfl rfl rfl, ?_⟩))
    refine RunsL.junk 3 2 rfl (op_append (t := 28) (i := 4) (n := j) (rs := (v.items.take j).flatMap Tre.cells) (els := [[.int x.number, bytesR x.bytes, tresR x.items]]) rfl rfl rfl rfl rfl rfl (by rw [cells_flat, List.length_take, Nat.min_eq_left (by omega)]) (FreeI.at_ (i := 4) ⟨by simp [AV.onlys, AV.only], by simp [AV.onlys, AV.only], onlys_rv _ _, by simp [AV.onlys, AV.only], onlys_rv _ _, trivial⟩) (by simp; omega) (by simp; omega) (tl hn rfl) ?_)
    repeat' (first
 | refine RunsL.step tabOk hn rfl ?_
 | refine RunsL.nil ?_
 | refine Runs.toRegion 30 rfl ?_
 | (refine Runs.ctls 30 rfl ?_; first | ((first | refine Runs.cond_yes rfl ?_ ?_ | refine Runs.cond_nno rfl ?_ ?_); · first | omega | rfl | assumption | (simp only [List.length_map]; omega)) | ((first | refine Runs.cond_no rfl ?_ ?_ | refine Runs.cond_nyes rfl ?_ ?_); · first | omega | rfl | assumption | (simp only [List.length_map]; omega)) | refine Runs.ret (ends_ro hm rfl rfl ?_) | exact Runs.ret (ends_cellR hm rfl rfl rfl (Nat.le_of_ble_eq_true rfl) rfl rfl))
 | refine op_box rfl (tl hn rfl) ?_
 | refine op_storeF rfl rfl rfl rfl (Nat.le_of_ble_eq_true rfl) ?_
 | refine op_alloc (tl hn rfl) ?_
 | refine op_storeN rfl rfl rfl rfl (Nat.le_of_ble_eq_true rfl) ?_
 | ((first | refine RunsL.pe hn rfl rfl rfl ?_ | refine RunsD.pe rfl rfl ?_); first
 | refine ⟨_, pu_add rfl rfl (by omega), ?_⟩
 | refine ⟨_, pu_indexAddr_map rfl rfl (by omega) (by assumption), ?_⟩
 | refine ⟨_, pu_sub rfl rfl (by omega), ?_⟩
 | refine ⟨_, pu_pick_b rfl rfl rfl, ?_⟩
 | refine ⟨_, pu_mul rfl rfl (by omega), ?_⟩
 | refine ⟨_, pu_build rfl rfl rfl rfl rfl rfl, ?_⟩))
    refine next _ _ ⟨rfl, rfl, rfl, rfl, trivial⟩ hlt trivial ?_
    have e : (v.items.take (j + 1)).flatMap Tre.cells = (v.items.take j).flatMap Tre.cells ++ [[RV.int x.number, bytesR x.bytes, tresR x.items]].flatten := by
      rw [List.take_add_one, hx', List.flatMap_append]
      simp [Tre.cells_eq, tresR]
    unfold cqS
    rw [e]
    rfl
  · obtain rfl : j = v.items.length := by omega
    repeat' (first
 | refine RunsL.step tabOk hn rfl ?_
 | refine RunsL.nil ?_
 | refine Runs.toRegion 30 rfl ?_
 | (refine Runs.ctls 30 rfl ?_; first | ((first | refine Runs.cond_yes rfl ?_ ?_ | refine Runs.cond_nno rfl ?_ ?_); · first | omega | rfl | assumption | (simp only [List.length_map]; omega)) | ((first | refine Runs.cond_no rfl ?_ ?_ | refine Runs.cond_nyes rfl ?_ ?_); · first | omega | rfl | assumption | (simp only [List.length_map]; omega)) | refine Runs.ret (ends_ro hm rfl rfl ?_) | exact Runs.ret (ends_cellR hm rfl rfl rfl (Nat.le_of_ble_eq_true rfl) rfl rfl))
 | refine op_box rfl (tl hn rfl) ?_
 | refine op_storeF rfl rfl rfl rfl (Nat.le_of_ble_eq_true rfl) ?_
 | refine op_alloc (tl hn rfl) ?_
 | refine op_storeN rfl rfl rfl rfl (Nat.le_of_ble_eq_true rfl) ?_
 | ((first | refine RunsL.pe hn rfl rfl rfl ?_ | refine RunsD.pe rfl rfl ?_); first
 | refine ⟨_, pu_add rfl rfl (by omega), ?_⟩
 | refine ⟨_, pu_indexAddr_map rfl rfl (by omega) (by assumption), ?_⟩
 | refine ⟨_, pu_sub rfl rfl (by omega), ?_⟩
 | refine ⟨_, pu_pick_b rfl rfl rfl, ?_⟩
 | refine ⟨_, pu_mul rfl rfl (by omega), ?_⟩
 | refine ⟨_, pu_build rfl rfl rfl rfl rfl rfl, ?_⟩))
    exact Runs.ret (ends_lend (r := treR v) hm rfl (v := .agg [.int v.number, .own 2, .own 4]) ⟨1, 0, _, rfl, rfl, .inr ⟨3, inferInstance, Nat.le_of_ble_eq_true rfl, rfl⟩⟩ rfl
      (Lends.agg (.cons .ro (.cons (Lends.own (i := 2) (o := ⟨5, 1, ((v.bytes.map fun z => [RV.u8 z]).flatten).map .ro⟩) (els := v.bytes.map fun z => [RV.u8 z]) rfl rfl fun x hx => by obtain ⟨y, _, rfl⟩ := List.mem_map.1 hx; rfl)
        (.cons (Lends.own (i := 4) (o := ⟨29, 3, ((v.items.take v.items.length).flatMap Tre.cells).map .ro⟩) (els := v.items.map Tre.cells) rfl (by rw [List.take_length, List.flatMap_def]) fun x hx => by obtain ⟨y, _, rfl⟩ := List.mem_map.1 hx; exact Tre.cells_len y) .nil)))))
end Go.Proofs.Ytnecoghfhcimeaa
/- The draw of a value of a rule: the other kinds with items; all kinds. -/
namespace Go.Proofs.Ytnecoghfhcimeaa
set_option linter.unusedSimpArgs false
set_option linter.unusedVariables false
open Go.RowKit
open AV (Mem Keeps)
theorem mk_many {d : Des} {r : Nat} {x : Rul} {n : Int} {vs : List Tre} (hx : d[r]? = some x) (hn : I64 n) (hl : vs.length ≤ 3)
    (hv : ∀ (i : Nat) y, vs[i]? = some y → ∃ q : Nat, q < r ∧ itemR x n i = q ∧ MkV d q y) (ho : OwnV d x (.mk n [] vs)) : MkV d r (.mk n [] vs) := by
  have h4 : 0 < 4 ^ r := Nat.pow_pos (by omega)
  have hm : ∀ y ∈ vs, ∃ q : Nat, q < r ∧ MkV d q y := fun y hy => by
    obtain ⟨i, hi⟩ := List.getElem?_of_mem hy
    obtain ⟨q, h1, _, h2⟩ := hv i y hi
    exact ⟨q, h1, h2⟩
  refine ⟨(vld_iff hx).2 ⟨ho, fun i y hy => ?_⟩, ?_, ?_⟩
  · obtain ⟨q, h1, h2, h3⟩ := hv i y hy
    show Vld d (itemR x n i).toNat y
    rw [h2]; exact h3.vld
  · simp only [Tre.Ok]
    refine ⟨hn, by simp [maxLen], by unfold maxLen; omega, Tre.OkL_iff.2 fun y hy => ?_⟩
    obtain ⟨q, _, h⟩ := hm y hy
    exact h.ok
  · have hs := sum_le_mul Tre.total (4 * 4 ^ r) vs fun y hy => by
      obtain ⟨q, h1, h2⟩ := hm y hy
      have h3 := h2.bound h1
      unfold tb at h3; omega
    have he := Tre.total_eq (.mk n [] vs)
    have hle : vs.length * (4 * 4 ^ r) ≤ 3 * (4 * 4 ^ r) := Nat.mul_le_mul_right _ hl
    simp only [Tre.bytes, Tre.items, List.length_nil] at he
    unfold tb
    omega
theorem ownV8 {d : Des} {x : Rul} {l : List Tre} (k : x.kind = 8) (h : l.length ≤ 1) : OwnV d x (.mk 0 [] l) := by
  unfold OwnV
  rw [if_neg (by omega), if_neg (by omega), if_neg (by omega), if_neg (by omega), if_neg (by omega), if_neg (by omega), if_neg (by omega), if_neg (by omega), if_pos k]
  exact ⟨rfl, rfl, h⟩
set_option maxHeartbeats 8000000 in
theorem l9Make8_d (b : List UInt8) (hb : b.length ≤ 1048576) (d : Des) (hD : DrawD d) (r : Nat) (x : Rul) (hx : d[(r : Int).toNat]? = some x) (k : x.kind = 8) (most : Int) (hmo : 0 ≤ most ∧ most ≤ 1048576)
    (ih : ∀ q : Nat, q < r → ∀ m : Int, 0 ≤ m ∧ m ≤ 1048576 → Drw Try.prog 123 66 b [desR d, .int (q : Int), .int m] (QTre (MkV d q))) : Drw Try.prog 123 66 b [desR d, .int (r : Int), .int most] (QTre (MkV d r)) := by
  have hx' : d[r]? = some x := hx
  obtain ⟨k', _, _, hr, hk', _, _⟩ := hD.kinds hx'
  obtain ⟨z, hz, hkd⟩ := hr.hkids.2.2.2.2.1 (by omega)
  have hzr := hD.kid hx' z (by rw [hkd]; simp)
  obtain ⟨q, rfl⟩ : ∃ q : Nat, z = q := ⟨z.toNat, by omega⟩
  have hk0 : x.kids[(0 : Int).toNat]? = some (q : Int) := by rw [hkd]; rfl
  have hI := ih q (by omega) (most / 2) (by omega)
  refine drw_enter Try.func66 rfl _ Try.ntmps66 (by simp) fun C g u i h hn hm hu hi => ?_
  repeat' (first
 | (refine op_drawB (l1Once_d b hb 2 (by decide)) rfl hu hi rfl (LendsPL.ros [.int 2]) rfl (by first | rfl | repeat' (first | rfl | exact clns_ro _ | refine clnO_cons ?_ ?_)) (tl hn rfl) ?_; intro i h y hi; cases y)
 | refine Runs.toLate (id := 29) 30 [0, 1, 2, 3, 4, 5, 6, 7] [8, 9, 10, 11] mixed rfl rfl (by kernel_rfl) (by kernel_rfl) (by kernel_rfl) ?_
 | (refine RunsP.drawN (t := 161) hI qtre_ok rfl hu hi rfl rfl (by first | rfl | repeat' (first | rfl | exact clns_ro _ | refine clnO_cons ?_ ?_)) (tl hn rfl) ?_; rintro i h _ hi ⟨v, rfl, hv⟩)
 | refine RunsH.pur (fun _ _ => pu_auto tabOk rfl) rfl (tl hn rfl) rfl ?_
 | refine RunsH.pur (fun _ _ => pu_buildS rfl) rfl (tl hn rfl) rfl ?_
 | refine RunsH.pur (fun _ _ => pu_quo rfl rfl (by omega)) rfl (tl hn rfl) rfl ?_
 | refine RunsH.pur (fun _ _ => pu_build rfl rfl rfl rfl rfl rfl) rfl (tl hn rfl) rfl ?_
 | refine RunsH.pur (fun _ _ => pu_indexAddr_map rfl rfl (by omega) (by assumption)) rfl (tl hn rfl) rfl ?_
 | refine RunsH.pur (fun _ _ => pu_build rfl rfl rfl rfl rfl rfl) rfl (tl hn rfl) rfl ?_
 | refine RunsH.nil ?_
 | refine RunsP.pur (pu_auto tabOk rfl) rfl rfl (tl hn rfl) (by first | rfl | repeat' (first | rfl | exact clns_ro _ | refine clnO_cons ?_ ?_)) ?_
 | refine RunsP.pur (pu_buildS rfl) rfl rfl (tl hn rfl) (by first | rfl | repeat' (first | rfl | exact clns_ro _ | refine clnO_cons ?_ ?_)) ?_
 | refine RunsP.pur (pu_quo rfl rfl (by omega)) rfl rfl (tl hn rfl) (by first | rfl | repeat' (first | rfl | exact clns_ro _ | refine clnO_cons ?_ ?_)) ?_
 | refine RunsP.pur (pu_build rfl rfl rfl rfl rfl rfl) rfl rfl (tl hn rfl) (by first | rfl | repeat' (first | rfl | exact clns_ro _ | refine clnO_cons ?_ ?_)) ?_
 | refine RunsP.pur (pu_indexAddr_map rfl rfl (by omega) (by assumption)) rfl rfl (tl hn rfl) (by first | rfl | repeat' (first | rfl | exact clns_ro _ | refine clnO_cons ?_ ?_)) ?_
 | refine RunsP.pur (pu_build rfl rfl rfl rfl rfl rfl) rfl rfl (tl hn rfl) (by first | rfl | repeat' (first | rfl | exact clns_ro _ | refine clnO_cons ?_ ?_)) ?_
 | refine RunsL.step tabOk hn rfl ?_
 | refine RunsL.nil ?_
 | refine Runs.toRegion 30 rfl ?_
 | refine RunsP.done 11 rfl (Nat.le_of_ble_eq_true rfl) (by kernel_rfl) (by kernel_rfl) ?_
 | ((first | refine RunsL.pe hn rfl rfl rfl ?_ | refine RunsD.pe rfl rfl ?_); first
 | refine ⟨_, pu_buildS rfl, ?_⟩
 | refine ⟨_, pu_quo rfl rfl (by omega), ?_⟩
 | refine ⟨_, pu_build rfl rfl rfl rfl rfl rfl, ?_⟩)
 | (refine Runs.ctls 30 rfl ?_; first | refine Runs.cond_t rfl ?_ | refine Runs.cond_f rfl ?_ | ((first | refine Runs.cond_yes rfl ?_ ?_ | refine Runs.cond_nno rfl ?_ ?_); · first | omega | rfl | assumption | (simp only [List.length_map]; omega)) | ((first | refine Runs.cond_no rfl ?_ ?_ | refine Runs.cond_nyes rfl ?_ ?_); · first | omega | rfl | assumption | (simp only [List.length_map]; omega)) | refine Runs.ret (ends_ro hm rfl rfl ?_) | exact Runs.ret (ends_cellR hm rfl rfl rfl (Nat.le_of_ble_eq_true rfl) rfl rfl))
 | refine op_box rfl (tl hn rfl) ?_
 | refine op_storeF rfl rfl rfl rfl (Nat.le_of_ble_eq_true rfl) ?_
 | refine op_alloc (tl hn rfl) ?_
 | refine op_storeN rfl rfl rfl rfl (Nat.le_of_ble_eq_true rfl) ?_
 | ((first | refine RunsL.pe hn rfl rfl rfl ?_ | refine RunsD.pe rfl rfl ?_); first
 | refine ⟨_, pu_add rfl rfl (by omega), ?_⟩
 | refine ⟨_, pu_indexAddr_map rfl rfl (by omega) (by assumption), ?_⟩
 | refine ⟨_, pu_sub rfl rfl (by omega), ?_⟩
 | refine ⟨_, pu_pick_b rfl rfl rfl, ?_⟩
 | refine ⟨_, pu_mul rfl rfl (by omega), ?_⟩
 | refine ⟨_, pu_build rfl rfl rfl rfl rfl rfl, ?_⟩)
 | ((first | refine RunsL.guard_dec rfl rfl rfl ?_ ?_ | refine RunsL.guard_ndec rfl rfl rfl ?_ ?_ | refine RunsL.guard_nb rfl rfl rfl ?_ ?_ | refine RunsL.guard_b rfl rfl rfl ?_ ?_ | refine RunsD.guard_dec rfl rfl rfl ?_ ?_ | refine RunsD.guard_ndec rfl rfl rfl ?_ ?_ | refine RunsD.guard_nb rfl rfl rfl ?_ ?_ | refine RunsD.guard_b rfl rfl rfl ?_ ?_) <;> intro h <;> try (exfalso; first | omega | contradiction | (simp only [List.length_map] at h; omega))))
  · refine Runs.nilCell (e := 5) (sz := 1) 2 1 (by decide) rfl rfl ?_
    refine Runs.nilCell (e := 29) (sz := 3) 2 2 (by decide) rfl rfl ?_
    exact Runs.ctls 30 rfl (Runs.ret (ends_tre (v := .mk 0 [] []) (j := 2) (x := 5) (y := 6) hm rfl rfl rfl hi rfl rfl rfl rfl (by decide) (by decide) (mk_flat hx' (by simp) (ownV8 k (by simp)))))
  · refine Runs.nilCell (e := 5) (sz := 1) 2 1 (by decide) rfl rfl ?_
    have hv1 : tresR [v] = .seq 3 [[.int v.number, bytesR v.bytes, tresR v.items]] := by unfold tresR; simp [Tre.cells_eq, tresR]
    refine Runs.ctls 30 rfl (Runs.ret (ends_treD (tt := 29) (v := .mk 0 [] [v]) (j := 2) (x := 5) hm rfl rfl rfl hi rfl ?_ rfl (by decide) (mk_one hx' hv (by omega) (ownV8 k (by simp)) ?_)))
    · show _ = some (Ob.mk _ _ [_, _, AV.ro (tresR [v])])
      rw [hv1]; rfl
    · unfold itemR
      rw [if_neg (by omega), if_neg (by omega), if_neg (by omega), if_pos (.inl k), hkd]; rfl
set_option maxHeartbeats 8000000 in
theorem l9Make7_d (b : List UInt8) (hb : b.length ≤ 1048576) (d : Des) (hD : DrawD d) (r : Nat) (x : Rul) (hx : d[(r : Int).toNat]? = some x) (k : x.kind = 7) (most : Int) (hmo : 0 ≤ most ∧ most ≤ 1048576)
    (ih : ∀ q : Nat, q < r → ∀ m : Int, 0 ≤ m ∧ m ≤ 1048576 → Drw Try.prog 123 66 b [desR d, .int (q : Int), .int m] (QTre (MkV d q))) : Drw Try.prog 123 66 b [desR d, .int (r : Int), .int most] (QTre (MkV d r)) := by
  have hx' : d[r]? = some x := hx
  obtain ⟨k', _, _, hr, hk', _, _⟩ := hD.kinds hx'
  obtain ⟨z, kl, hz, hkl, hkz, hkd⟩ := hr.hkids.2.2.2.1 (by omega)
  obtain ⟨ht1, ht3, htg⟩ := hr.htags.1 (by omega)
  have htl : (x.tags.map fun z => [RV.int z]).length = x.tags.length := List.length_map ..
  have hki : ∀ j : Nat, j < x.tags.length → ∃ q : Nat, q < r ∧ x.kids[((j : Int) + 1).toNat]? = some (q : Int) := fun j hj => by
    have hj2 : j < kl.length := by omega
    have hm := List.getElem_mem hj2
    have hb2 := hD.kid hx' kl[j] (by rw [hkd]; exact List.mem_cons_of_mem _ hm)
    refine ⟨(kl[j]).toNat, by omega, ?_⟩
    have e : ((j : Int) + 1).toNat = j + 1 := by omega
    rw [e, hkd, List.getElem?_cons_succ, List.getElem?_eq_getElem hj2]
    congr 1; omega
  refine drw_enter Try.func66 rfl _ Try.ntmps66 (by simp) fun C g u i h hn hm hu hi => ?_
  repeat' (first
 | (refine op_drawI (l1Below_d b hb _ (by omega)) rfl hu hi rfl (LendsPL.ros [.int _]) rfl (by first | rfl | repeat' (first | rfl | exact clns_ro _ | refine clnO_cons ?_ ?_)) (tl hn rfl) ?_; intro i h y hi hy; have hyB := hy.2 (by omega); obtain ⟨n3, rfl, hn3⟩ : ∃ n3 : Nat, y = n3 ∧ n3 < x.tags.length := ⟨y.toNat, by omega, by omega⟩; obtain ⟨tg, htgx⟩ : ∃ tg, x.tags[(n3 : Int).toNat]? = some tg := ⟨_, List.getElem?_eq_getElem hn3⟩; obtain ⟨q, hqr, hkq⟩ := hki n3 hn3; have hI := ih q hqr (most / 2) (by omega))
 | refine Runs.toLate (id := 26) 30 [0, 1, 2, 3, 4, 5, 6, 7, 8, 9] [10, 11, 12, 13] mixed rfl rfl (by kernel_rfl) (by kernel_rfl) (by kernel_rfl) ?_
 | (refine RunsP.drawN (t := 146) hI qtre_ok rfl hu hi rfl rfl (by first | rfl | repeat' (first | rfl | exact clns_ro _ | refine clnO_cons ?_ ?_)) (tl hn rfl) ?_; rintro i h _ hi ⟨v, rfl, hv⟩)
 | refine RunsH.pur (fun _ _ => pu_auto tabOk rfl) rfl (tl hn rfl) rfl ?_
 | refine RunsH.pur (fun _ _ => pu_len_seqN x.tags.length rfl htl) rfl (tl hn rfl) rfl ?_
 | refine RunsH.pur (fun _ _ => pu_buildS rfl) rfl (tl hn rfl) rfl ?_
 | refine RunsH.pur (fun _ _ => pu_quo rfl rfl (by omega)) rfl (tl hn rfl) rfl ?_
 | refine RunsH.pur (fun _ _ => pu_add rfl rfl (by omega)) rfl (tl hn rfl) rfl ?_
 | refine RunsH.pur (fun _ _ => pu_build rfl rfl rfl rfl rfl rfl) rfl (tl hn rfl) rfl ?_
 | refine RunsH.pur (fun _ _ => pu_add rfl rfl (by omega)) rfl (tl hn rfl) rfl ?_
 | refine RunsH.pur (fun _ _ => pu_indexAddr_map rfl rfl (by omega) (by assumption)) rfl (tl hn rfl) rfl ?_
 | refine RunsH.pur (fun _ _ => pu_build rfl rfl rfl rfl rfl rfl) rfl (tl hn rfl) rfl ?_
 | refine RunsH.nil ?_
 | refine RunsP.pur (pu_auto tabOk rfl) rfl rfl (tl hn rfl) (by first | rfl | repeat' (first | rfl | exact clns_ro _ | refine clnO_cons ?_ ?_)) ?_
 | refine RunsP.pur (pu_len_seqN x.tags.length rfl htl) rfl rfl (tl hn rfl) (by first | rfl | repeat' (first | rfl | exact clns_ro _ | refine clnO_cons ?_ ?_)) ?_
 | refine RunsP.pur (pu_buildS rfl) rfl rfl (tl hn rfl) (by first | rfl | repeat' (first | rfl | exact clns_ro _ | refine clnO_cons ?_ ?_)) ?_
 | refine RunsP.pur (pu_quo rfl rfl (by omega)) rfl rfl (tl hn rfl) (by first | rfl | repeat' (first | rfl | exact clns_ro _ | refine clnO_cons ?_ ?_)) ?_
 | refine RunsP.pur (pu_add rfl rfl (by omega)) rfl rfl (tl hn rfl) (by first | rfl | repeat' (first | rfl | exact clns_ro _ | refine clnO_cons ?_ ?_)) ?_
 | refine RunsP.pur (pu_build rfl rfl rfl rfl rfl rfl) rfl rfl (tl hn rfl) (by first | rfl | repeat' (first | rfl | exact clns_ro _ | refine clnO_cons ?_ ?_)) ?_
 | refine RunsP.pur (pu_add rfl rfl (by omega)) rfl rfl (tl hn rfl) (by first | rfl | repeat' (first | rfl | exact clns_ro _ | refine clnO_cons ?_ ?_)) ?_
 | refine RunsP.pur (pu_indexAddr_map rfl rfl (by omega) (by assumption)) rfl rfl (tl hn rfl) (by first | rfl | repeat' (first | rfl | exact clns_ro _ | refine clnO_cons ?_ ?_)) ?_
 | refine RunsP.pur (pu_build rfl rfl rfl rfl rfl rfl) rfl rfl (tl hn rfl) (by first | rfl | repeat' (first | rfl | exact clns_ro _ | refine clnO_cons ?_ ?_)) ?_
 | ((first | refine RunsL.pe hn rfl rfl rfl ?_ | refine RunsD.pe rfl rfl ?_); first
 | refine ⟨_, pu_len_seqN x.tags.length rfl htl, ?_⟩)
 | refine RunsL.step tabOk hn rfl ?_
 | refine RunsL.nil ?_
 | refine Runs.toRegion 30 rfl ?_
 | refine RunsP.done 13 rfl (Nat.le_of_ble_eq_true rfl) (by kernel_rfl) (by kernel_rfl) ?_
 | ((first | refine RunsL.pe hn rfl rfl rfl ?_ | refine RunsD.pe rfl rfl ?_); first
 | refine ⟨_, pu_buildS rfl, ?_⟩
 | refine ⟨_, pu_quo rfl rfl (by omega), ?_⟩
 | refine ⟨_, pu_add rfl rfl (by omega), ?_⟩
 | refine ⟨_, pu_build rfl rfl rfl rfl rfl rfl, ?_⟩)
 | (refine Runs.ctls 30 rfl ?_; first | ((first | refine Runs.cond_yes rfl ?_ ?_ | refine Runs.cond_nno rfl ?_ ?_); · first | omega | rfl | assumption | (simp only [List.length_map]; omega)) | ((first | refine Runs.cond_no rfl ?_ ?_ | refine Runs.cond_nyes rfl ?_ ?_); · first | omega | rfl | assumption | (simp only [List.length_map]; omega)) | refine Runs.ret (ends_ro hm rfl rfl ?_) | exact Runs.ret (ends_cellR hm rfl rfl rfl (Nat.le_of_ble_eq_true rfl) rfl rfl))
 | refine op_box rfl (tl hn rfl) ?_
 | refine op_storeF rfl rfl rfl rfl (Nat.le_of_ble_eq_true rfl) ?_
 | refine op_alloc (tl hn rfl) ?_
 | refine op_storeN rfl rfl rfl rfl (Nat.le_of_ble_eq_true rfl) ?_
 | ((first | refine RunsL.pe hn rfl rfl rfl ?_ | refine RunsD.pe rfl rfl ?_); first
 | refine ⟨_, pu_add rfl rfl (by omega), ?_⟩
 | refine ⟨_, pu_indexAddr_map rfl rfl (by omega) (by assumption), ?_⟩
 | refine ⟨_, pu_sub rfl rfl (by omega), ?_⟩
 | refine ⟨_, pu_pick_b rfl rfl rfl, ?_⟩
 | refine ⟨_, pu_mul rfl rfl (by omega), ?_⟩
 | refine ⟨_, pu_build rfl rfl rfl rfl rfl rfl, ?_⟩)
 | ((first | refine RunsL.guard_dec rfl rfl rfl ?_ ?_ | refine RunsL.guard_ndec rfl rfl rfl ?_ ?_ | refine RunsL.guard_nb rfl rfl rfl ?_ ?_ | refine RunsL.guard_b rfl rfl rfl ?_ ?_ | refine RunsD.guard_dec rfl rfl rfl ?_ ?_ | refine RunsD.guard_ndec rfl rfl rfl ?_ ?_ | refine RunsD.guard_nb rfl rfl rfl ?_ ?_ | refine RunsD.guard_b rfl rfl rfl ?_ ?_) <;> intro h <;> try (exfalso; first | omega | contradiction | (simp only [List.length_map] at h; omega))))
  refine Runs.nilCell (e := 5) (sz := 1) 2 1 (by decide) rfl rfl ?_
  have hv1 : tresR [v] = .seq 3 [[.int v.number, bytesR v.bytes, tresR v.items]] := by unfold tresR; simp [Tre.cells_eq, tresR]
  have htgb := htg n3 tg htgx
  have hti : itemR x tg 0 = q := by
    unfold itemR
    rw [if_neg (by omega), if_neg (by omega), if_pos k, tagIx_hit htgx fun k2 t2 hk2 ht2 e => by have := htg k2 t2 ht2; omega]
    have e : ((n3 : Int) + 1).toNat = n3 + 1 := by omega
    rw [e] at hkq
    rw [Int.toNat_natCast, hkq]; rfl
  refine Runs.ctls 30 rfl (Runs.ret (ends_treD (tt := 29) (v := .mk tg [] [v]) (j := 2) (x := 5) hm rfl rfl rfl hi rfl ?_ rfl (by decide) (mk_many hx' (by constructor <;> omega) (by simp) (fun i y hy => ?_) ?_)))
  · show _ = some (Ob.mk _ _ [_, _, AV.ro (tresR [v])])
    rw [hv1]; rfl
  · obtain rfl : i = 0 := by
      have := (List.getElem?_eq_some_iff.1 hy).1
      simp at this; omega
    simp at hy
    subst hy
    exact ⟨q, hqr, hti, hv⟩
  · unfold OwnV
    rw [if_neg (by omega), if_neg (by omega), if_neg (by omega), if_neg (by omega), if_neg (by omega), if_neg (by omega), if_neg (by omega), if_pos k]
    exact ⟨rfl, rfl, by show 0 ≤ itemR x tg 0; omega⟩
end Go.Proofs.Ytnecoghfhcimeaa
/- The draw of a value of a rule: lists. -/
namespace Go.Proofs.Ytnecoghfhcimeaa
set_option linter.unusedSimpArgs false
set_option linter.unusedVariables false
open Go.RowKit
open AV (Mem Keeps)
theorem cells_app (l : List Tre) (v : Tre) : (l.flatMap Tre.cells ++ [[RV.int v.number, bytesR v.bytes, tresR v.items]].flatten) = (l ++ [v]).flatMap Tre.cells := by
  rw [List.flatMap_append]
  simp [Tre.cells_eq, tresR]
def mkS (d : Des) (x : Rul) (u : Value) (i h : Int) (l : List Tre) : List Ob := [curOb 123 u i h, ⟨38, 0, [.ro (rulsR d)]⟩, ⟨29, 0, [.int 0, .nil, .nil]⟩, ⟨52, 0, (rulR x).map .ro⟩, ⟨29, 0, [.int 0, .nil, .own 5]⟩, ⟨29, 3, (l.flatMap Tre.cells).map .ro⟩]
set_option maxHeartbeats 8000000 in
theorem l9Make5_d (b : List UInt8) (hb : b.length ≤ 1048576) (d : Des) (hD : DrawD d) (r : Nat) (x : Rul) (hx : d[(r : Int).toNat]? = some x) (k : x.kind = 5) (most : Int) (hmo : 0 ≤ most ∧ most ≤ 1048576)
    (ih : ∀ q : Nat, q < r → ∀ m : Int, 0 ≤ m ∧ m ≤ 1048576 → Drw Try.prog 123 66 b [desR d, .int (q : Int), .int m] (QTre (MkV d q))) : Drw Try.prog 123 66 b [desR d, .int (r : Int), .int most] (QTre (MkV d r)) := by
  have hx' : d[r]? = some x := hx
  obtain ⟨k', _, _, hr, hk', _, _⟩ := hD.kinds hx'
  obtain ⟨x0, z, hI0, hz, hkd⟩ := hr.hkids.2.1 (by omega)
  have hzr := hD.kid hx' z (by rw [hkd]; simp)
  have hlim := hD.int hI0.up.1
  obtain ⟨q, rfl⟩ : ∃ q : Nat, z = q := ⟨z.toNat, by omega⟩
  have hk1 : x.kids[(1 : Int).toNat]? = some (q : Int) := by rw [hkd]; rfl
  have hI := ih q (by omega) (most / 2) (by omega)
  have hM := spec_Min most 3
  have hm3 : 0 ≤ mn most 3 ∧ mn most 3 ≤ 3 := by unfold mn; split <;> omega
  refine drw_enter Try.func66 rfl _ Try.ntmps66 (by simp) fun C g u i h hn hm hu hi => ?_
  repeat' (first
 | (refine op_drawI (l1Below_d b hb _ (by omega)) rfl hu hi rfl (LendsPL.ros [.int _]) rfl (by first | rfl | repeat' (first | rfl | exact clns_ro _ | refine clnO_cons ?_ ?_)) (tl hn rfl) ?_; intro i h y hi hy; obtain ⟨c, rfl, hc⟩ : ∃ c : Nat, y = c ∧ c ≤ 3 := ⟨y.toNat, by unfold Bel at hy; omega, by unfold Bel at hy; omega⟩)
 | refine RunsL.step tabOk hn rfl ?_
 | refine RunsL.nil ?_
 | refine Runs.toRegion 30 rfl ?_
 | ((first | refine RunsL.pe hn rfl rfl rfl ?_ | refine RunsD.pe rfl rfl ?_); first
 | refine ⟨_, pu_callR hM rfl, ?_⟩
 | refine ⟨_, pu_buildS rfl, ?_⟩
 | refine ⟨_, pu_add rfl rfl (by omega), ?_⟩)
 | (refine Runs.ctls 30 rfl ?_; first | ((first | refine Runs.cond_yes rfl ?_ ?_ | refine Runs.cond_nno rfl ?_ ?_); · first | omega | rfl | assumption | (simp only [List.length_map]; omega)) | ((first | refine Runs.cond_no rfl ?_ ?_ | refine Runs.cond_nyes rfl ?_ ?_); · first | omega | rfl | assumption | (simp only [List.length_map]; omega)) | refine Runs.ret (ends_ro hm rfl rfl ?_) | exact Runs.ret (ends_cellR hm rfl rfl rfl (Nat.le_of_ble_eq_true rfl) rfl rfl))
 | refine op_box rfl (tl hn rfl) ?_
 | refine op_storeF rfl rfl rfl rfl (Nat.le_of_ble_eq_true rfl) ?_
 | refine op_alloc (tl hn rfl) ?_
 | refine op_storeN rfl rfl rfl rfl (Nat.le_of_ble_eq_true rfl) ?_
 | ((first | refine RunsL.pe hn rfl rfl rfl ?_ | refine RunsD.pe rfl rfl ?_); first
 | refine ⟨_, pu_add rfl rfl (by omega), ?_⟩
 | refine ⟨_, pu_indexAddr_map rfl rfl (by omega) (by assumption), ?_⟩
 | refine ⟨_, pu_sub rfl rfl (by omega), ?_⟩
 | refine ⟨_, pu_pick_b rfl rfl rfl, ?_⟩
 | refine ⟨_, pu_mul rfl rfl (by omega), ?_⟩
 | refine ⟨_, pu_build rfl rfl rfl rfl rfl rfl, ?_⟩)
 | ((first | refine RunsL.guard_dec rfl rfl rfl ?_ ?_ | refine RunsL.guard_ndec rfl rfl rfl ?_ ?_ | refine RunsL.guard_nb rfl rfl rfl ?_ ?_ | refine RunsL.guard_b rfl rfl rfl ?_ ?_ | refine RunsD.guard_dec rfl rfl rfl ?_ ?_ | refine RunsD.guard_ndec rfl rfl rfl ?_ ?_ | refine RunsD.guard_nb rfl rfl rfl ?_ ?_ | refine RunsD.guard_b rfl rfl rfl ?_ ?_) <;> intro h <;> try (exfalso; first | omega | contradiction | (simp only [List.length_map] at h; omega))))
  refine Runs.nilCell (e := 29) (sz := 3) 4 2 (by decide) rfl rfl ?_
  refine Runs.loopI 30 rfl (fun m E s => ∃ (l : List Tre) (i h : Int), l.length + m = c ∧ (∀ y ∈ l, MkV d q y) ∧ CurOk b i ∧ E = [(0, .pin 0 0 g), (3, .int most), (5, .obj 1 0), (8, .obj 2 0), (9, .obj 3 0), (10, .obj 4 0), (11, .int m)] ∧ s = mkS d x u i h l) c [(0, .pin 0 0 g), (3, .int most), (5, .obj 1 0), (8, .obj 2 0), (9, .obj 3 0), (10, .obj 4 0), (11, .int c)] ⟨rfl, rfl, rfl, rfl, rfl, rfl, rfl, trivial⟩ ⟨[], i, h, by simp, by simp, hi, rfl, rfl⟩ fun m E s ⟨l, i, h, hlc, hl, hi, hE, hs⟩ next => ?_
  subst hE; subst hs
  by_cases hm0 : 0 < m
  · repeat' (first
 | refine Runs.toLate (id := 17) 30 [0, 1, 2, 3, 4, 5, 6, 7, 8, 9] [10, 11, 12, 13, 14] mixed rfl rfl (by kernel_rfl) (by kernel_rfl) (by kernel_rfl) ?_
 | (refine RunsP.drawN (t := 95) hI qtre_ok rfl hu hi rfl rfl (by first | rfl | repeat' (first | rfl | exact clns_ro _ | refine clnO_cons ?_ ?_)) (tl hn rfl) ?_; rintro i h _ hi ⟨v, rfl, hv⟩)
 | refine RunsH.pur (fun _ _ => pu_auto tabOk rfl) rfl (tl hn rfl) rfl ?_
 | refine RunsH.pur (fun _ _ => pu_quo rfl rfl (by omega)) rfl (tl hn rfl) rfl ?_
 | refine RunsH.pur (fun _ _ => pu_build rfl rfl rfl rfl rfl rfl) rfl (tl hn rfl) rfl ?_
 | refine RunsH.pur (fun _ _ => pu_add rfl rfl (by omega)) rfl (tl hn rfl) rfl ?_
 | refine RunsH.pur (fun _ _ => pu_indexAddr_map rfl rfl (by omega) (by assumption)) rfl (tl hn rfl) rfl ?_
 | refine RunsH.pur (fun _ _ => pu_sub rfl rfl (by omega)) rfl (tl hn rfl) rfl ?_
 | refine RunsH.pur (fun _ _ => pu_build rfl rfl rfl rfl rfl rfl) rfl (tl hn rfl) rfl ?_
 | refine RunsH.nil ?_
 | refine RunsP.pur (pu_auto tabOk rfl) rfl rfl (tl hn rfl) (by first | rfl | repeat' (first | rfl | exact clns_ro _ | refine clnO_cons ?_ ?_)) ?_
 | refine RunsP.pur (pu_quo rfl rfl (by omega)) rfl rfl (tl hn rfl) (by first | rfl | repeat' (first | rfl | exact clns_ro _ | refine clnO_cons ?_ ?_)) ?_
 | refine RunsP.pur (pu_build rfl rfl rfl rfl rfl rfl) rfl rfl (tl hn rfl) (by first | rfl | repeat' (first | rfl | exact clns_ro _ | refine clnO_cons ?_ ?_)) ?_
 | refine RunsP.pur (pu_add rfl rfl (by omega)) rfl rfl (tl hn rfl) (by first | rfl | repeat' (first | rfl | exact clns_ro _ | refine clnO_cons ?_ ?_)) ?_
 | refine RunsP.pur (pu_indexAddr_map rfl rfl (by omega) (by assumption)) rfl rfl (tl hn rfl) (by first | rfl | repeat' (first | rfl | exact clns_ro _ | refine clnO_cons ?_ ?_)) ?_
 | refine RunsP.pur (pu_sub rfl rfl (by omega)) rfl rfl (tl hn rfl) (by first | rfl | repeat' (first | rfl | exact clns_ro _ | refine clnO_cons ?_ ?_)) ?_
 | refine RunsP.pur (pu_build rfl rfl rfl rfl rfl rfl) rfl rfl (tl hn rfl) (by first | rfl | repeat' (first | rfl | exact clns_ro _ | refine clnO_cons ?_ ?_)) ?_
 | refine RunsL.step tabOk hn rfl ?_
 | refine RunsL.nil ?_
 | refine Runs.toRegion 30 rfl ?_
 | refine RunsP.done 12 rfl (Nat.le_of_ble_eq_true rfl) (by kernel_rfl) (by kernel_rfl) ?_
 | ((first | refine RunsL.pe hn rfl rfl rfl ?_ | refine RunsD.pe rfl rfl ?_); first
 | refine ⟨_, pu_quo rfl rfl (by omega), ?_⟩
 | refine ⟨_, pu_build rfl rfl rfl rfl rfl rfl, ?_⟩)
 | (refine Runs.ctls 30 rfl ?_; first | ((first | refine Runs.cond_yes rfl ?_ ?_ | refine Runs.cond_nno rfl ?_ ?_); · first | omega | rfl | assumption | (simp only [List.length_map]; omega)) | ((first | refine Runs.cond_no rfl ?_ ?_ | refine Runs.cond_nyes rfl ?_ ?_); · first | omega | rfl | assumption | (simp only [List.length_map]; omega)) | refine Runs.ret (ends_ro hm rfl rfl ?_) | exact Runs.ret (ends_cellR hm rfl rfl rfl (Nat.le_of_ble_eq_true rfl) rfl rfl))
 | refine op_box rfl (tl hn rfl) ?_
 | refine op_storeF rfl rfl rfl rfl (Nat.le_of_ble_eq_true rfl) ?_
 | refine op_alloc (tl hn rfl) ?_
 | refine op_storeN rfl rfl rfl rfl (Nat.le_of_ble_eq_true rfl) ?_
 | ((first | refine RunsL.pe hn rfl rfl rfl ?_ | refine RunsD.pe rfl rfl ?_); first
 | refine ⟨_, pu_add rfl rfl (by omega), ?_⟩
 | refine ⟨_, pu_indexAddr_map rfl rfl (by omega) (by assumption), ?_⟩
 | refine ⟨_, pu_sub rfl rfl (by omega), ?_⟩
 | refine ⟨_, pu_pick_b rfl rfl rfl, ?_⟩
 | refine ⟨_, pu_mul rfl rfl (by omega), ?_⟩
 | refine ⟨_, pu_build rfl rfl rfl rfl rfl rfl, ?_⟩)
 | ((first | refine RunsL.guard_dec rfl rfl rfl ?_ ?_ | refine RunsL.guard_ndec rfl rfl rfl ?_ ?_ | refine RunsL.guard_nb rfl rfl rfl ?_ ?_ | refine RunsL.guard_b rfl rfl rfl ?_ ?_ | refine RunsD.guard_dec rfl rfl rfl ?_ ?_ | refine RunsD.guard_ndec rfl rfl rfl ?_ ?_ | refine RunsD.guard_nb rfl rfl rfl ?_ ?_ | refine RunsD.guard_b rfl rfl rfl ?_ ?_) <;> intro h <;> try (exfalso; first | omega | contradiction | (simp only [List.length_map] at h; omega))))
    refine RunsL.junk 4 2 rfl (op_append (t := 97) (i := 5) (n := l.length) (rs := l.flatMap Tre.cells) (els := [[.int v.number, bytesR v.bytes, tresR v.items]]) rfl rfl rfl rfl rfl rfl (cells_flat l) (FreeI.at_ (i := 5) ⟨by simp [curOb, AV.onlys, AV.only], by simp [AV.onlys, AV.only], by simp [AV.onlys, AV.only], onlys_ro _ _, by simp [AV.onlys, AV.only], onlys_ro _ _, trivial⟩) (by simp; omega) (by simp; omega) (tl hn rfl) ?_)
    repeat' (first
 | refine RunsL.step tabOk hn rfl ?_
 | refine RunsL.nil ?_
 | refine Runs.toRegion 30 rfl ?_
 | (refine Runs.ctls 30 rfl ?_; first | ((first | refine Runs.cond_yes rfl ?_ ?_ | refine Runs.cond_nno rfl ?_ ?_); · first | omega | rfl | assumption | (simp only [List.length_map]; omega)) | ((first | refine Runs.cond_no rfl ?_ ?_ | refine Runs.cond_nyes rfl ?_ ?_); · first | omega | rfl | assumption | (simp only [List.length_map]; omega)) | refine Runs.ret (ends_ro hm rfl rfl ?_) | exact Runs.ret (ends_cellR hm rfl rfl rfl (Nat.le_of_ble_eq_true rfl) rfl rfl))
 | refine op_box rfl (tl hn rfl) ?_
 | refine op_storeF rfl rfl rfl rfl (Nat.le_of_ble_eq_true rfl) ?_
 | refine op_alloc (tl hn rfl) ?_
 | refine op_storeN rfl rfl rfl rfl (Nat.le_of_ble_eq_true rfl) ?_
 | ((first | refine RunsL.pe hn rfl rfl rfl ?_ | refine RunsD.pe rfl rfl ?_); first
 | refine ⟨_, pu_add rfl rfl (by omega), ?_⟩
 | refine ⟨_, pu_indexAddr_map rfl rfl (by omega) (by assumption), ?_⟩
 | refine ⟨_, pu_sub rfl rfl (by omega), ?_⟩
 | refine ⟨_, pu_pick_b rfl rfl rfl, ?_⟩
 | refine ⟨_, pu_mul rfl rfl (by omega), ?_⟩
 | refine ⟨_, pu_build rfl rfl rfl rfl rfl rfl, ?_⟩)
 | ((first | refine RunsL.guard_dec rfl rfl rfl ?_ ?_ | refine RunsL.guard_ndec rfl rfl rfl ?_ ?_ | refine RunsL.guard_nb rfl rfl rfl ?_ ?_ | refine RunsL.guard_b rfl rfl rfl ?_ ?_ | refine RunsD.guard_dec rfl rfl rfl ?_ ?_ | refine RunsD.guard_ndec rfl rfl rfl ?_ ?_ | refine RunsD.guard_nb rfl rfl rfl ?_ ?_ | refine RunsD.guard_b rfl rfl rfl ?_ ?_) <;> intro h <;> try (exfalso; first | omega | contradiction | (simp only [List.length_map] at h; omega))))
    refine next (m - 1) _ _ _ (by omega) ⟨l ++ [v], i, h, by simp; omega, fun y hy => ?_, hi, rfl, ?_⟩ ⟨rfl, rfl, rfl, rfl, rfl, rfl, ?_, trivial⟩
    · rcases List.mem_append.1 hy with h1 | h1
      · exact hl y h1
      · simp at h1; subst h1; exact hv
    · unfold mkS
      rw [← cells_app]
      rfl
    · show AV.int _ = AV.int _
      congr 1; omega
  · have em : m = 0 := by omega
    repeat' (first
 | refine RunsL.step tabOk hn rfl ?_
 | refine RunsL.nil ?_
 | refine Runs.toRegion 30 rfl ?_
 | (refine Runs.ctls 30 rfl ?_; first | ((first | refine Runs.cond_yes rfl ?_ ?_ | refine Runs.cond_nno rfl ?_ ?_); · first | omega | rfl | assumption | (simp only [List.length_map]; omega)) | ((first | refine Runs.cond_no rfl ?_ ?_ | refine Runs.cond_nyes rfl ?_ ?_); · first | omega | rfl | assumption | (simp only [List.length_map]; omega)) | refine Runs.ret (ends_ro hm rfl rfl ?_) | exact Runs.ret (ends_cellR hm rfl rfl rfl (Nat.le_of_ble_eq_true rfl) rfl rfl))
 | refine op_box rfl (tl hn rfl) ?_
 | refine op_storeF rfl rfl rfl rfl (Nat.le_of_ble_eq_true rfl) ?_
 | refine op_alloc (tl hn rfl) ?_
 | refine op_storeN rfl rfl rfl rfl (Nat.le_of_ble_eq_true rfl) ?_
 | ((first | refine RunsL.pe hn rfl rfl rfl ?_ | refine RunsD.pe rfl rfl ?_); first
 | refine ⟨_, pu_add rfl rfl (by omega), ?_⟩
 | refine ⟨_, pu_indexAddr_map rfl rfl (by omega) (by assumption), ?_⟩
 | refine ⟨_, pu_sub rfl rfl (by omega), ?_⟩
 | refine ⟨_, pu_pick_b rfl rfl rfl, ?_⟩
 | refine ⟨_, pu_mul rfl rfl (by omega), ?_⟩
 | refine ⟨_, pu_build rfl rfl rfl rfl rfl rfl, ?_⟩)
 | ((first | refine RunsL.guard_dec rfl rfl rfl ?_ ?_ | refine RunsL.guard_ndec rfl rfl rfl ?_ ?_ | refine RunsL.guard_nb rfl rfl rfl ?_ ?_ | refine RunsL.guard_b rfl rfl rfl ?_ ?_ | refine RunsD.guard_dec rfl rfl rfl ?_ ?_ | refine RunsD.guard_ndec rfl rfl rfl ?_ ?_ | refine RunsD.guard_nb rfl rfl rfl ?_ ?_ | refine RunsD.guard_b rfl rfl rfl ?_ ?_) <;> intro h <;> try (exfalso; first | omega | contradiction | (simp only [List.length_map] at h; omega))))
    refine Runs.nilCell (e := 5) (sz := 1) 2 1 (by decide) rfl rfl ?_
    refine Runs.ctls 30 rfl (Runs.ret (ends_tre (v := .mk 0 [] l) (j := 2) (x := 6) (y := 5) hm rfl rfl rfl hi rfl rfl rfl rfl (by decide) (by decide) (mk_many hx' (by constructor <;> omega) (by omega) (fun i y hy => ⟨q, by omega, ?_, hl y (List.mem_of_getElem? hy)⟩) ?_)))
    · unfold itemR
      rw [if_pos k, hkd]; rfl
    · unfold OwnV
      rw [if_neg (by omega), if_neg (by omega), if_neg (by omega), if_neg (by omega), if_neg (by omega), if_pos k]
      refine ⟨rfl, rfl, ?_⟩
      show (l.length : Int) ≤ _
      rw [hkd]
      show (l.length : Int) ≤ mn 40 (lim d x0)
      unfold mn; split <;> omega
set_option maxHeartbeats 8000000 in
theorem l9Make6_d (b : List UInt8) (hb : b.length ≤ 1048576) (d : Des) (hD : DrawD d) (r : Nat) (x : Rul) (hx : d[(r : Int).toNat]? = some x) (k : x.kind = 6) (most : Int) (hmo : 0 ≤ most ∧ most ≤ 1048576)
    (ih : ∀ q : Nat, q < r → ∀ m : Int, 0 ≤ m ∧ m ≤ 1048576 → Drw Try.prog 123 66 b [desR d, .int (q : Int), .int m] (QTre (MkV d q))) : Drw Try.prog 123 66 b [desR d, .int (r : Int), .int most] (QTre (MkV d r)) := by
  have hx' : d[r]? = some x := hx
  obtain ⟨k', _, _, hr, hk', _, _⟩ := hD.kinds hx'
  obtain ⟨hkl, hkz⟩ := hr.hkids.2.2.1 (by omega)
  have hnl := hr.hnames.1 (by omega)
  have hkk : (x.kids.map fun z => [RV.int z]).length = x.kids.length := List.length_map ..
  refine drw_enter Try.func66 rfl _ Try.ntmps66 (by simp) fun C g u i h hn hm hu hi => ?_
  repeat' (first
 | refine RunsL.step tabOk hn rfl ?_
 | refine RunsL.nil ?_
 | refine Runs.toRegion 30 rfl ?_
 | ((first | refine RunsL.pe hn rfl rfl rfl ?_ | refine RunsD.pe rfl rfl ?_); first
 | refine ⟨_, pu_buildS rfl, ?_⟩)
 | (refine Runs.ctls 30 rfl ?_; first | ((first | refine Runs.cond_yes rfl ?_ ?_ | refine Runs.cond_nno rfl ?_ ?_); · first | omega | rfl | assumption | (simp only [List.length_map]; omega)) | ((first | refine Runs.cond_no rfl ?_ ?_ | refine Runs.cond_nyes rfl ?_ ?_); · first | omega | rfl | assumption | (simp only [List.length_map]; omega)) | refine Runs.ret (ends_ro hm rfl rfl ?_) | exact Runs.ret (ends_cellR hm rfl rfl rfl (Nat.le_of_ble_eq_true rfl) rfl rfl))
 | refine op_box rfl (tl hn rfl) ?_
 | refine op_storeF rfl rfl rfl rfl (Nat.le_of_ble_eq_true rfl) ?_
 | refine op_alloc (tl hn rfl) ?_
 | refine op_storeN rfl rfl rfl rfl (Nat.le_of_ble_eq_true rfl) ?_
 | ((first | refine RunsL.pe hn rfl rfl rfl ?_ | refine RunsD.pe rfl rfl ?_); first
 | refine ⟨_, pu_add rfl rfl (by omega), ?_⟩
 | refine ⟨_, pu_indexAddr_map rfl rfl (by omega) (by assumption), ?_⟩
 | refine ⟨_, pu_sub rfl rfl (by omega), ?_⟩
 | refine ⟨_, pu_pick_b rfl rfl rfl, ?_⟩
 | refine ⟨_, pu_mul rfl rfl (by omega), ?_⟩
 | refine ⟨_, pu_build rfl rfl rfl rfl rfl rfl, ?_⟩)
 | ((first | refine RunsL.guard_dec rfl rfl rfl ?_ ?_ | refine RunsL.guard_ndec rfl rfl rfl ?_ ?_ | refine RunsL.guard_nb rfl rfl rfl ?_ ?_ | refine RunsL.guard_b rfl rfl rfl ?_ ?_ | refine RunsD.guard_dec rfl rfl rfl ?_ ?_ | refine RunsD.guard_ndec rfl rfl rfl ?_ ?_ | refine RunsD.guard_nb rfl rfl rfl ?_ ?_ | refine RunsD.guard_b rfl rfl rfl ?_ ?_) <;> intro h <;> try (exfalso; first | omega | contradiction | (simp only [List.length_map] at h; omega))))
  refine Runs.nilCell (e := 29) (sz := 3) 4 2 (by decide) rfl rfl ?_
  refine Runs.loopI 30 rfl (fun m E s => ∃ (l : List Tre) (i h : Int), l.length + m = x.kids.length ∧ (∀ (j : Nat) y, l[j]? = some y → ∃ q : Nat, q < r ∧ x.kids[j]? = some (q : Int) ∧ MkV d q y) ∧ CurOk b i ∧ E = [(0, .pin 0 0 g), (3, .int most), (5, .obj 1 0), (8, .obj 2 0), (9, .obj 3 0), (10, .obj 4 0), (12, .int l.length)] ∧ s = mkS d x u i h l) x.kids.length [(0, .pin 0 0 g), (3, .int most), (5, .obj 1 0), (8, .obj 2 0), (9, .obj 3 0), (10, .obj 4 0), (12, .int 0)] ⟨rfl, rfl, rfl, rfl, rfl, rfl, rfl, trivial⟩ ⟨[], i, h, by simp, by simp, hi, rfl, rfl⟩ fun m E s ⟨l, i, h, hlc, hl, hi, hE, hs⟩ next => ?_
  subst hE; subst hs
  by_cases hm0 : 0 < m
  · obtain ⟨z, hz⟩ : ∃ z, x.kids[(l.length : Int).toNat]? = some z := ⟨_, List.getElem?_eq_getElem (by omega)⟩
    have hz' : x.kids[l.length]? = some z := hz
    have hzr := hD.kid hx' z (List.mem_of_getElem? hz')
    obtain ⟨q, rfl⟩ : ∃ q : Nat, z = q := ⟨z.toNat, by omega⟩
    have hI := ih q (by omega) (most / 2) (by omega)
    repeat' (first
 | refine Runs.toLate (id := 22) 30 [0, 1, 2, 3, 4, 5, 6, 7, 8, 9, 10] [11, 12, 13, 14, 15] mixed rfl rfl (by kernel_rfl) (by kernel_rfl) (by kernel_rfl) ?_
 | (refine RunsP.drawN (t := 119) hI qtre_ok rfl hu hi rfl rfl (by first | rfl | repeat' (first | rfl | exact clns_ro _ | refine clnO_cons ?_ ?_)) (tl hn rfl) ?_; rintro i h _ hi ⟨v, rfl, hv⟩)
 | refine RunsH.pur (fun _ _ => pu_auto tabOk rfl) rfl (tl hn rfl) rfl ?_
 | refine RunsH.pur (fun _ _ => pu_len_seqN x.kids.length rfl hkk) rfl (tl hn rfl) rfl ?_
 | refine RunsH.pur (fun _ _ => pu_quo rfl rfl (by omega)) rfl (tl hn rfl) rfl ?_
 | refine RunsH.pur (fun _ _ => pu_build rfl rfl rfl rfl rfl rfl) rfl (tl hn rfl) rfl ?_
 | refine RunsH.pur (fun _ _ => pu_add rfl rfl (by omega)) rfl (tl hn rfl) rfl ?_
 | refine RunsH.pur (fun _ _ => pu_indexAddr_map rfl rfl (by omega) (by assumption)) rfl (tl hn rfl) rfl ?_
 | refine RunsH.pur (fun _ _ => pu_build rfl rfl rfl rfl rfl rfl) rfl (tl hn rfl) rfl ?_
 | refine RunsH.nil ?_
 | refine RunsP.pur (pu_auto tabOk rfl) rfl rfl (tl hn rfl) (by first | rfl | repeat' (first | rfl | exact clns_ro _ | refine clnO_cons ?_ ?_)) ?_
 | refine RunsP.pur (pu_len_seqN x.kids.length rfl hkk) rfl rfl (tl hn rfl) (by first | rfl | repeat' (first | rfl | exact clns_ro _ | refine clnO_cons ?_ ?_)) ?_
 | refine RunsP.pur (pu_quo rfl rfl (by omega)) rfl rfl (tl hn rfl) (by first | rfl | repeat' (first | rfl | exact clns_ro _ | refine clnO_cons ?_ ?_)) ?_
 | refine RunsP.pur (pu_build rfl rfl rfl rfl rfl rfl) rfl rfl (tl hn rfl) (by first | rfl | repeat' (first | rfl | exact clns_ro _ | refine clnO_cons ?_ ?_)) ?_
 | refine RunsP.pur (pu_add rfl rfl (by omega)) rfl rfl (tl hn rfl) (by first | rfl | repeat' (first | rfl | exact clns_ro _ | refine clnO_cons ?_ ?_)) ?_
 | refine RunsP.pur (pu_indexAddr_map rfl rfl (by omega) (by assumption)) rfl rfl (tl hn rfl) (by first | rfl | repeat' (first | rfl | exact clns_ro _ | refine clnO_cons ?_ ?_)) ?_
 | refine RunsP.pur (pu_build rfl rfl rfl rfl rfl rfl) rfl rfl (tl hn rfl) (by first | rfl | repeat' (first | rfl | exact clns_ro _ | refine clnO_cons ?_ ?_)) ?_
 | ((first | refine RunsL.pe hn rfl rfl rfl ?_ | refine RunsD.pe rfl rfl ?_); first
 | refine ⟨_, pu_len_seqN x.kids.length rfl hkk, ?_⟩)
 | refine RunsL.step tabOk hn rfl ?_
 | refine RunsL.nil ?_
 | refine Runs.toRegion 30 rfl ?_
 | refine RunsP.done 13 rfl (Nat.le_of_ble_eq_true rfl) (by kernel_rfl) (by kernel_rfl) ?_
 | ((first | refine RunsL.pe hn rfl rfl rfl ?_ | refine RunsD.pe rfl rfl ?_); first
 | refine ⟨_, pu_quo rfl rfl (by omega), ?_⟩
 | refine ⟨_, pu_build rfl rfl rfl rfl rfl rfl, ?_⟩)
 | (refine Runs.ctls 30 rfl ?_; first | ((first | refine Runs.cond_yes rfl ?_ ?_ | refine Runs.cond_nno rfl ?_ ?_); · first | omega | rfl | assumption | (simp only [List.length_map]; omega)) | ((first | refine Runs.cond_no rfl ?_ ?_ | refine Runs.cond_nyes rfl ?_ ?_); · first | omega | rfl | assumption | (simp only [List.length_map]; omega)) | refine Runs.ret (ends_ro hm rfl rfl ?_) | exact Runs.ret (ends_cellR hm rfl rfl rfl (Nat.le_of_ble_eq_true rfl) rfl rfl))
 | refine op_box rfl (tl hn rfl) ?_
 | refine op_storeF rfl rfl rfl rfl (Nat.le_of_ble_eq_true rfl) ?_
 | refine op_alloc (tl hn rfl) ?_
 | refine op_storeN rfl rfl rfl rfl (Nat.le_of_ble_eq_true rfl) ?_
 | ((first | refine RunsL.pe hn rfl rfl rfl ?_ | refine RunsD.pe rfl rfl ?_); first
 | refine ⟨_, pu_add rfl rfl (by omega), ?_⟩
 | refine ⟨_, pu_indexAddr_map rfl rfl (by omega) (by assumption), ?_⟩
 | refine ⟨_, pu_sub rfl rfl (by omega), ?_⟩
 | refine ⟨_, pu_pick_b rfl rfl rfl, ?_⟩
 | refine ⟨_, pu_mul rfl rfl (by omega), ?_⟩
 | refine ⟨_, pu_build rfl rfl rfl rfl rfl rfl, ?_⟩)
 | ((first | refine RunsL.guard_dec rfl rfl rfl ?_ ?_ | refine RunsL.guard_ndec rfl rfl rfl ?_ ?_ | refine RunsL.guard_nb rfl rfl rfl ?_ ?_ | refine RunsL.guard_b rfl rfl rfl ?_ ?_ | refine RunsD.guard_dec rfl rfl rfl ?_ ?_ | refine RunsD.guard_ndec rfl rfl rfl ?_ ?_ | refine RunsD.guard_nb rfl rfl rfl ?_ ?_ | refine RunsD.guard_b rfl rfl rfl ?_ ?_) <;> intro h <;> try (exfalso; first | omega | contradiction | (simp only [List.length_map] at h; omega))))
    refine RunsL.junk 4 2 rfl (op_append (t := 121) (i := 5) (n := l.length) (rs := l.flatMap Tre.cells) (els := [[.int v.number, bytesR v.bytes, tresR v.items]]) rfl rfl rfl rfl rfl rfl (cells_flat l) (FreeI.at_ (i := 5) ⟨by simp [curOb, AV.onlys, AV.only], by simp [AV.onlys, AV.only], by simp [AV.onlys, AV.only], onlys_ro _ _, by simp [AV.onlys, AV.only], onlys_ro _ _, trivial⟩) (by simp; omega) (by simp; omega) (tl hn rfl) ?_)
    repeat' (first
 | refine RunsL.step tabOk hn rfl ?_
 | refine RunsL.nil ?_
 | refine Runs.toRegion 30 rfl ?_
 | (refine Runs.ctls 30 rfl ?_; first | ((first | refine Runs.cond_yes rfl ?_ ?_ | refine Runs.cond_nno rfl ?_ ?_); · first | omega | rfl | assumption | (simp only [List.length_map]; omega)) | ((first | refine Runs.cond_no rfl ?_ ?_ | refine Runs.cond_nyes rfl ?_ ?_); · first | omega | rfl | assumption | (simp only [List.length_map]; omega)) | refine Runs.ret (ends_ro hm rfl rfl ?_) | exact Runs.ret (ends_cellR hm rfl rfl rfl (Nat.le_of_ble_eq_true rfl) rfl rfl))
 | refine op_box rfl (tl hn rfl) ?_
 | refine op_storeF rfl rfl rfl rfl (Nat.le_of_ble_eq_true rfl) ?_
 | refine op_alloc (tl hn rfl) ?_
 | refine op_storeN rfl rfl rfl rfl (Nat.le_of_ble_eq_true rfl) ?_
 | ((first | refine RunsL.pe hn rfl rfl rfl ?_ | refine RunsD.pe rfl rfl ?_); first
 | refine ⟨_, pu_add rfl rfl (by omega), ?_⟩
 | refine ⟨_, pu_indexAddr_map rfl rfl (by omega) (by assumption), ?_⟩
 | refine ⟨_, pu_sub rfl rfl (by omega), ?_⟩
 | refine ⟨_, pu_pick_b rfl rfl rfl, ?_⟩
 | refine ⟨_, pu_mul rfl rfl (by omega), ?_⟩
 | refine ⟨_, pu_build rfl rfl rfl rfl rfl rfl, ?_⟩)
 | ((first | refine RunsL.guard_dec rfl rfl rfl ?_ ?_ | refine RunsL.guard_ndec rfl rfl rfl ?_ ?_ | refine RunsL.guard_nb rfl rfl rfl ?_ ?_ | refine RunsL.guard_b rfl rfl rfl ?_ ?_ | refine RunsD.guard_dec rfl rfl rfl ?_ ?_ | refine RunsD.guard_ndec rfl rfl rfl ?_ ?_ | refine RunsD.guard_nb rfl rfl rfl ?_ ?_ | refine RunsD.guard_b rfl rfl rfl ?_ ?_) <;> intro h <;> try (exfalso; first | omega | contradiction | (simp only [List.length_map] at h; omega))))
    refine next (m - 1) _ _ _ (by omega) ⟨l ++ [v], i, h, by simp; omega, fun j y hy => ?_, hi, rfl, ?_⟩ ⟨rfl, rfl, rfl, rfl, rfl, rfl, ?_, trivial⟩
    · rw [List.getElem?_append] at hy
      split at hy
      · exact hl j y hy
      · have hj' : j - l.length = 0 := by
          have := (List.getElem?_eq_some_iff.1 hy).1
          simp at this; omega
        rw [hj'] at hy
        simp at hy
        subst hy
        have : j = l.length := by omega
        subst this
        exact ⟨q, by omega, hz', hv⟩
    · unfold mkS
      rw [← cells_app]
      rfl
    · show AV.int _ = AV.int _
      congr 1; simp
  · have em : m = 0 := by omega
    repeat' (first
 | ((first | refine RunsL.pe hn rfl rfl rfl ?_ | refine RunsD.pe rfl rfl ?_); first
 | refine ⟨_, pu_len_seqN x.kids.length rfl hkk, ?_⟩)
 | refine RunsL.step tabOk hn rfl ?_
 | refine RunsL.nil ?_
 | refine Runs.toRegion 30 rfl ?_
 | (refine Runs.ctls 30 rfl ?_; first | ((first | refine Runs.cond_yes rfl ?_ ?_ | refine Runs.cond_nno rfl ?_ ?_); · first | omega | rfl | assumption | (simp only [List.length_map]; omega)) | ((first | refine Runs.cond_no rfl ?_ ?_ | refine Runs.cond_nyes rfl ?_ ?_); · first | omega | rfl | assumption | (simp only [List.length_map]; omega)) | refine Runs.ret (ends_ro hm rfl rfl ?_) | exact Runs.ret (ends_cellR hm rfl rfl rfl (Nat.le_of_ble_eq_true rfl) rfl rfl))
 | refine op_box rfl (tl hn rfl) ?_
 | refine op_storeF rfl rfl rfl rfl (Nat.le_of_ble_eq_true rfl) ?_
 | refine op_alloc (tl hn rfl) ?_
 | refine op_storeN rfl rfl rfl rfl (Nat.le_of_ble_eq_true rfl) ?_
 | ((first | refine RunsL.pe hn rfl rfl rfl ?_ | refine RunsD.pe rfl rfl ?_); first
 | refine ⟨_, pu_add rfl rfl (by omega), ?_⟩
 | refine ⟨_, pu_indexAddr_map rfl rfl (by omega) (by assumption), ?_⟩
 | refine ⟨_, pu_sub rfl rfl (by omega), ?_⟩
 | refine ⟨_, pu_pick_b rfl rfl rfl, ?_⟩
 | refine ⟨_, pu_mul rfl rfl (by omega), ?_⟩
 | refine ⟨_, pu_build rfl rfl rfl rfl rfl rfl, ?_⟩)
 | ((first | refine RunsL.guard_dec rfl rfl rfl ?_ ?_ | refine RunsL.guard_ndec rfl rfl rfl ?_ ?_ | refine RunsL.guard_nb rfl rfl rfl ?_ ?_ | refine RunsL.guard_b rfl rfl rfl ?_ ?_ | refine RunsD.guard_dec rfl rfl rfl ?_ ?_ | refine RunsD.guard_ndec rfl rfl rfl ?_ ?_ | refine RunsD.guard_nb rfl rfl rfl ?_ ?_ | refine RunsD.guard_b rfl rfl rfl ?_ ?_) <;> intro h <;> try (exfalso; first | omega | contradiction | (simp only [List.length_map] at h; omega))))
    refine Runs.nilCell (e := 5) (sz := 1) 2 1 (by decide) rfl rfl ?_
    refine Runs.ctls 30 rfl (Runs.ret (ends_tre (v := .mk 0 [] l) (j := 2) (x := 6) (y := 5) hm rfl rfl rfl hi rfl rfl rfl rfl (by decide) (by decide) (mk_many hx' (by constructor <;> omega) (by omega) (fun i y hy => ?_) ?_)))
    · obtain ⟨q, h1, h2, h3⟩ := hl i y hy
      refine ⟨q, h1, ?_, h3⟩
      unfold itemR
      rw [if_neg (by omega), if_pos k, Int.toNat_natCast, h2]; rfl
    · unfold OwnV
      rw [if_neg (by omega), if_neg (by omega), if_neg (by omega), if_neg (by omega), if_neg (by omega), if_neg (by omega), if_pos k]
      exact ⟨rfl, rfl, by show l.length = _; omega⟩
end Go.Proofs.Ytnecoghfhcimeaa
