/- Regions that draw their order, with allocations and a tail of effects: plain moves first, then pure operations and allocations in any order, then the rest as the text says. Over any program. -/
import Derived.Test.YtnbjncafoahclaaDoorOrd
import Derived.StillTail
namespace Go.Proofs.YtnbjncafoahclaaDoor
set_option linter.unusedSimpArgs false
set_option linter.unusedVariables false
open Go.RowKit
open AV (Mem Keeps)
/-! ### A block for an object that has none as yet. -/
section
variable {C : Ctx} {w : World} {φ : Nat → Option Nat} {σ : List Ob} {q : Nat} {e : TypeId} {cs : List AV} {us : Array Value}
mutual
theorem rel_fill (hq : σ[q]? = some ⟨e, 0, []⟩) (hφ : φ q = none) : ∀ (v : AV) (u : Value), AV.rel ⟨w, φ, σ, C.ok⟩ v u → AV.rel ⟨w.alloc (.cells us e), upd φ q (some w.heap.size), σ.set q ⟨e, 0, cs⟩, C.ok⟩ v u
  | .ro r, u, h => by
    simp only [AV.rel] at h ⊢
    refine RV.rel_mono ⟨(below_one w _).size, fun b hlt hok => ⟨⟨hok.1, fun i hi he => ?_⟩, (below_one w _).block b hlt⟩⟩ r u h
    by_cases hiq : i = q
    · subst hiq; simp only [upd_eq, Option.some.injEq] at he; omega
    · simp only [upd_ne hiq] at he; exact hok.2 i (by simpa using hi) he
  | .junk, u, _ => by simp [AV.rel]
  | .obj i off, u, h => by
    simp only [AV.rel] at h ⊢
    obtain ⟨h1, g, h2, h3⟩ := h
    have hiq : i ≠ q := by rintro rfl; rw [hφ] at h2; cases h2
    exact ⟨by simpa using h1, g, (upd_ne hiq).trans h2, h3⟩
  | .pin i off g, u, h => by
    simp only [AV.rel] at h ⊢
    obtain ⟨h1, h2, h3⟩ := h
    have hiq : i ≠ q := by rintro rfl; rw [hφ] at h2; cases h2
    exact ⟨by simpa using h1, (upd_ne hiq).trans h2, h3⟩
  | .own i, u, h => by
    simp only [AV.rel] at h ⊢
    obtain ⟨ob, n, h1, h2, h3, h4⟩ := h
    have hiq : i ≠ q := by rintro rfl; rw [hq] at h1; injection h1 with h1; subst h1; exact absurd h3 (Nat.lt_irrefl 0)
    refine ⟨ob, n, by rw [List.getElem?_set_ne (Ne.symm hiq)]; exact h1, h2, h3, ?_⟩
    rcases h4 with ⟨e1, e2, e3⟩ | ⟨g, cap, vs, hg, e1, hh, c1⟩
    · exact .inl ⟨e1, e2, (upd_ne hiq).trans e3⟩
    · exact .inr ⟨g, cap, vs, (upd_ne hiq).trans hg, e1, ((below_one w _).block g (Array.getElem?_eq_some_iff.1 hh).1).trans hh, c1⟩
  | .agg vs, u, h => by
    simp only [AV.rel] at h ⊢
    obtain ⟨us', e1, h1⟩ := h
    exact ⟨us', e1, rels_fill hq hφ vs _ h1⟩
  | .tup vs, u, h => by
    simp only [AV.rel] at h ⊢
    obtain ⟨us', e1, h1⟩ := h
    exact ⟨us', e1, rels_fill hq hφ vs _ h1⟩
  | .fn f a b, u, h => by
    simp only [AV.rel] at h ⊢
    obtain ⟨us', vs', e1, h1, h2⟩ := h
    exact ⟨us', vs', e1, rels_fill hq hφ a _ h1, rels_fill hq hφ b _ h2⟩
theorem rels_fill (hq : σ[q]? = some ⟨e, 0, []⟩) (hφ : φ q = none) : ∀ (vs : List AV) (us' : List Value), AV.rels ⟨w, φ, σ, C.ok⟩ vs us' → AV.rels ⟨w.alloc (.cells us e), upd φ q (some w.heap.size), σ.set q ⟨e, 0, cs⟩, C.ok⟩ vs us'
  | [], us', h => by simpa [AV.rels] using h
  | x :: xs, us', h => by
    simp only [AV.rels] at h ⊢
    obtain ⟨u, us'', e1, h1, h2⟩ := h
    exact ⟨u, us'', e1, rel_fill hq hφ x u h1, rels_fill hq hφ xs us'' h2⟩
end
theorem good_fill (hG : Good C ⟨w, φ, σ, C.ok⟩) (hq : σ[q]? = some ⟨e, 0, []⟩) (hφ : φ q = none) (zs : List Value) (h1 : ∀ x ∈ zs, x.oneCell' = true) :
    Good C ⟨w.alloc (.cells zs.toArray e), upd φ q (some w.heap.size), σ.set q ⟨e, 0, zs.map fun v => .ro (.c v)⟩, C.ok⟩ := by
  have hql : q < σ.length := (List.getElem?_eq_some_iff.1 hq).1
  have hb := below_one w (.cells zs.toArray e)
  refine ⟨rfl, fun i j g hi hj e1 e2 => ?_, fun i o hi => ?_, fun i g hi hg => ?_, hG.frm.below hb⟩
  · simp only [List.length_set] at hi hj
    by_cases hiq : i = q <;> by_cases hjq : j = q
    · omega
    · subst hiq; simp only [upd_eq, Option.some.injEq] at e1; simp only [upd_ne hjq] at e2
      have := hG.lt hj e2; simp only at this; omega
    · subst hjq; simp only [upd_eq, Option.some.injEq] at e2; simp only [upd_ne hiq] at e1
      have := hG.lt hi e1; simp only at this; omega
    · simp only [upd_ne hiq] at e1; simp only [upd_ne hjq] at e2
      exact hG.inj i j g hi hj e1 e2
  · by_cases hiq : i = q
    · subst hiq
      simp only [List.getElem?_set_self hql, Option.some.injEq] at hi
      subst hi
      simp only [upd_eq, ObRel]
      refine ⟨zs.toArray, heap_alloc_new w _, by simp, fun j v hj => ?_⟩
      rw [List.getElem?_map, Option.map_eq_some_iff] at hj
      obtain ⟨x, hx, rfl⟩ := hj
      exact ⟨x, by simpa using hx, h1 x (List.mem_of_getElem? hx), by simp [AV.rel, RV.rel]⟩
    · simp only [List.getElem?_set_ne (Ne.symm hiq)] at hi
      have h := hG.ob i o hi
      simp only [upd_ne hiq]
      simp only at h
      cases hg : φ i with
      | none => rw [hg] at h; exact h
      | some g =>
        rw [hg] at h
        obtain ⟨vs, q1, q2, q3⟩ := h
        refine ⟨vs, (hb.block g (Array.getElem?_eq_some_iff.1 q1).1).trans q1, q2, fun j v hj => ?_⟩
        obtain ⟨x, k1, k2, k3⟩ := q3 j v hj
        exact ⟨x, k1, k2, rel_fill hq hφ v x k3⟩
  · simp only [List.length_set] at hi
    by_cases hiq : i = q
    · subst hiq; simp only [upd_eq, Option.some.injEq] at hg; subst hg; exact .inr hG.frm.size
    · simp only [upd_ne hiq] at hg; exact hG.mine i g hi hg
end
/-! ### Any order, abstractly. -/
abbrev Res := List (Nat × TypeId × List Value)
def resOb (listed : Array Bool) (r : Nat × TypeId × List Value) : Ob := ⟨r.2.1, 0, if listed.getD r.1 false = true then r.2.2.map (fun v => .ro (.c v)) else []⟩
def res (rs : Res) (listed : Array Bool) : List Ob := rs.map (resOb listed)
def full (rs : Res) : List Ob := rs.map fun r => ⟨r.2.1, 0, r.2.2.map fun v => .ro (.c v)⟩
def YF (P : Program) (C : Ctx) (ops : Array Oper) (σ : List Ob) (rs : Res) (i : Nat) (o : Oper) (v : AV) (E : EE) : Prop :=
  ((∀ r ∈ rs, r.1 ≠ i) ∧ ((gsayE ops E o.guard = some true ∧ ∀ more, PurF P C o E (σ ++ more) v) ∨ (gsayE ops E o.guard = some false ∧ v = .ro (.c undef)))) ∨
  (∃ p e zs, rs[p]? = some (i, e, zs) ∧ o.op = .alloc e ∧ o.guard = none ∧ o.dst.isSome = true ∧ TZ P e zs ∧ v = .obj (σ.length + p) 0)
section
variable {P : Program} {C : Ctx} {ops : Array Oper} {σ : List Ob} {md : Region.Mode} {rs : Res}
theorem YF.put {i : Nat} {oi oj : Oper} {v u : AV} {E : EE} (hy : YF P C ops σ rs i oi v E) (h3 : ∀ d, oj.dst = some d → d ∉ oi.looksAt ops) : YF P C ops σ rs i oi v (putE E oj.dst u) := by
  unfold YF at *
  rw [gsay_put h3]
  rcases hy with ⟨h0, ⟨hw, hv⟩ | hy⟩ | hy
  · exact .inl ⟨h0, .inl ⟨hw, fun more => (hv more).congr fun x hx => evE_put fun t ht => mem_looks_op (h3 t ht) x hx⟩⟩
  · exact .inl ⟨h0, .inr hy⟩
  · exact .inr hy
theorem YF.unput {i : Nat} {oi : Oper} {d : Option Nat} {v u : AV} {E : EE} (hy : YF P C ops σ rs i oi v (putE E d u)) (h3 : ∀ t, d = some t → t ∉ oi.looksAt ops) : YF P C ops σ rs i oi v E := by
  unfold YF at *
  rw [gsay_put h3] at hy
  rcases hy with ⟨h0, ⟨hw, hv⟩ | hy⟩ | hy
  · exact .inl ⟨h0, .inl ⟨hw, fun more => (hv more).congr fun x hx => (evE_put fun t ht => mem_looks_op (h3 t ht) x hx).symm⟩⟩
  · exact .inl ⟨h0, .inr hy⟩
  · exact .inr hy
def aOpR (P : Program) (C : Ctx) (ops : Array Oper) (σ : List Ob) (rs : Res) (i : Nat) (K : EE → Prop) (E : EE) : Prop := ∃ o v, ops[i]? = some o ∧ YF P C ops σ rs i o v E ∧ K (putE E o.dst v)
theorem aOpR_mono {i : Nat} {E : EE} {K K' : EE → Prop} (h : ∀ E, K E → K' E) (hh : aOpR P C ops σ rs i K E) : aOpR P C ops σ rs i K' E := by
  obtain ⟨o, v, h1, h2, h3⟩ := hh
  exact ⟨o, v, h1, h2, h _ h3⟩
theorem aOpR_put {i j : Nat} {oi oj : Oper} {v : AV} (hj : ops[j]? = some oj) (hap : oi.apart ops oj = true) {K : EE → Prop} {E : EE} (hy : YF P C ops σ rs i oi v E) (h : aOpR P C ops σ rs j K (putE E oi.dst v)) :
    aOpR P C ops σ rs j (fun E' => YF P C ops σ rs i oi v E' ∧ K (putE E' oi.dst v)) E := by
  obtain ⟨h1, h2, h3⟩ := Oper.apart_spec hap
  obtain ⟨o, u, k1, k2, k3⟩ := h
  rw [hj] at k1; injection k1 with k1; subst k1
  refine ⟨oj, u, hj, k2.unput h1, hy.put h3, ?_⟩
  rw [← putE_comm h2]; exact k3
def wpAnyR (P : Program) (C : Ctx) (md : Region.Mode) (ops : Array Oper) (σ : List Ob) (rs : Res) (n : Nat) (L : Array Bool → EE → Prop) : Nat → Array Bool → EE → Prop
  | 0, listed, E => L listed E
  | f + 1, listed, E => Region.ready md ops listed ≠ [] ∧ ∀ i ∈ Region.ready md ops listed, i < n ∧ aOpR P C ops σ rs i (wpAnyR P C md ops σ rs n L f (listed.setIfInBounds i true)) E
/-- What comes ahead of n is waited for by something up to n, but for some that come first. -/
def sinkP (md : Region.Mode) (ops : Array Oper) (pre : List Nat) (n : Nat) : Bool :=
  (List.range n).all fun i => pre.contains i || (List.range (n + 1)).any fun j => decide (i < j) && Region.waitsFor md ops j i
theorem tail_waitsP {n : Nat} {pre : List Nat} {listed : Array Bool} (hs : sinkP md ops pre n = true) (hc : Region.chainB md ops n = true) (hn : n < ops.size) (inv : HeadInv md ops n listed) (hp : ∀ i ∈ pre, listed.getD i true = true) :
    ∀ (d i : Nat), n - i = d → i < n → listed.getD i true = false → ∀ t, n ≤ t → t ∉ Region.ready md ops listed := by
  intro d
  induction d using Nat.strongRecOn with
  | _ d ih =>
    intro i hd hi hun t ht hr
    obtain ⟨_, ot, hot, hall⟩ := mem_ready.1 hr
    have htlt : t < ops.size := (Array.getElem?_eq_some_iff.1 hot).1
    by_cases htn : t = n
    · subst htn
      have h1 := List.all_eq_true.1 hs i (List.mem_range.2 hi)
      rw [Bool.or_eq_true] at h1
      rcases h1 with h1 | h1
      · have := hp i (by simpa using h1)
        rw [hun] at this; cases this
      obtain ⟨j, hj, hj2⟩ := List.any_eq_true.1 h1
      simp only [Bool.and_eq_true, decide_eq_true_eq] at hj2
      obtain ⟨oj, hoj, e, he, hb, hon⟩ := Region.waitsFor_spec hj2.2
      have hjle : j ≤ t := by have := List.mem_range.1 hj; omega
      by_cases hjt : j = t
      · subst hjt
        have : oj = ot := Option.some.inj (hoj.symm.trans hot)
        subst this
        have h2 := hall e he hb
        rw [hon, getD_both hun] at h2
        cases h2
      · cases hl : listed.getD j false with
        | true =>
          have h2 := inv.closed j oj hoj hl e he hb
          rw [hon, getD_both hun] at h2
          cases h2
        | false =>
          have hjs : j < listed.size := by rw [inv.size]; omega
          exact ih (t - j) (by omega) j rfl (by omega) (getD_in hjs hl) t (Nat.le_refl _) hr
    · have h1 := List.all_eq_true.1 hc t (List.mem_range.2 htlt)
      simp only [Bool.or_eq_true, decide_eq_true_eq] at h1
      rcases h1 with h1 | h1
      · omega
      · obtain ⟨o', ho', e, he, hb, hon⟩ := Region.waitsFor_spec h1
        have : o' = ot := Option.some.inj (ho'.symm.trans hot)
        subst this
        have h2 := hall e he hb
        rw [hon, getD_both (inv.tail (t - 1) (by omega) (by omega))] at h2
        cases h2
theorem getD_set_keep {listed : Array Bool} {i j : Nat} (h : listed.getD i true = true) : (listed.setIfInBounds j true).getD i true = true := by
  by_cases e : j = i
  · subst e
    simp only [Array.getD_eq_getD_getElem?, Array.getElem?_setIfInBounds, if_true]
    split <;> rfl
  · rw [getD_set_ne true e]; exact h
theorem wpAnyR_first {n i : Nat} {pre : List Nat} {oi : Oper} {v : AV} {L : Array Bool → EE → Prop} (hi : ops[i]? = some oi)
    (hs : sinkP md ops pre n = true) (hc : Region.chainB md ops n = true) (hn : n < ops.size) (hin : i < n)
    (hdone : ∀ listed E, L listed E → ∀ j ∈ Region.ready md ops listed, n ≤ j) :
    ∀ (f : Nat) (listed : Array Bool) (E : EE), HeadInv md ops n listed → (∀ i ∈ pre, listed.getD i true = true) →
      (∀ j oj, ops[j]? = some oj → j ≠ i → listed.getD j true = false → (∀ e ∈ oj.after, Region.binds md e = true → e.on ≠ i) → oi.apart ops oj = true) →
      i ∈ Region.ready md ops listed → YF P C ops σ rs i oi v E →
      wpAnyR P C md ops σ rs n L f (listed.setIfInBounds i true) (putE E oi.dst v) → wpAnyR P C md ops σ rs n L (f + 1) listed E := by
  intro f
  induction f with
  | zero =>
    intro listed E inv hp _ hr hy H
    have hun := (mem_ready.1 hr).1
    refine ⟨fun h => (by rw [h] at hr; cases hr), fun j hj => ?_⟩
    have hjn : j < n := by
      rcases Nat.lt_or_ge j n with h | h
      · exact h
      · exact absurd hj (tail_waitsP hs hc hn inv hp _ i rfl hin hun j h)
    refine ⟨hjn, ?_⟩
    by_cases hji : j = i
    · subst hji; exact ⟨oi, v, hi, hy, H⟩
    · have := hdone _ _ H j (ready_mono hj hji)
      omega
  | succ f ih =>
    intro listed E inv hp hfree hr hy H
    have hun := (mem_ready.1 hr).1
    refine ⟨fun h => (by rw [h] at hr; cases hr), fun j hj => ?_⟩
    have hjn : j < n := by
      rcases Nat.lt_or_ge j n with h | h
      · exact h
      · exact absurd hj (tail_waitsP hs hc hn inv hp _ i rfl hin hun j h)
    refine ⟨hjn, ?_⟩
    by_cases hji : j = i
    · subst hji; exact ⟨oi, v, hi, hy, H⟩
    · have h1 := (H.2 j (ready_mono hj hji)).2
      obtain ⟨hjun, oj, hoj, hall⟩ := mem_ready.1 hj
      have hnot : ∀ e ∈ oj.after, Region.binds md e = true → e.on ≠ i := fun e he hb heq => by
        have h1 := hall e he hb
        rw [heq, getD_both hun] at h1
        cases h1
      have h2 := aOpR_put hoj (hfree j oj hoj hji hjun hnot) hy h1
      have hfree' : ∀ k ok, ops[k]? = some ok → k ≠ i → (listed.setIfInBounds j true).getD k true = false →
          (∀ e ∈ ok.after, Region.binds md e = true → e.on ≠ i) → oi.apart ops ok = true := fun k ok hk hki hun hno => by
        refine hfree k ok hk hki ?_ hno
        by_cases hjk : j = k
        · subst hjk; exact hjun
        · rw [getD_set_ne true hjk] at hun; exact hun
      refine aOpR_mono (fun a' h3 => ih (listed.setIfInBounds j true) a' (inv.set hj hjn) (fun i hi => getD_set_keep (hp i hi)) hfree' (ready_mono hr (Ne.symm hji)) h3.1 ?_) h2
      rw [Array.setIfInBounds_comm _ _ hji]
      exact h3.2
/-- The head in the order of the text. -/
def wpLexR (P : Program) (C : Ctx) (ops : Array Oper) (σ : List Ob) (rs : Res) (Q : EE → Prop) : List (Nat × Oper) → EE → Prop
  | [], E => Q E
  | (i, o) :: rest, E => ∃ v, YF P C ops σ rs i o v E ∧ wpLexR P C ops σ rs Q rest (putE E o.dst v)
def lexIdx (md : Region.Mode) (ops : Array Oper) (g n : Nat) : List Nat → Array Bool → Bool
  | [], listed => Region.seqB md ops g n listed && (List.range n).all fun j => listed.getD j false
  | k :: is, listed => (Region.ready md ops listed).contains k && Region.free md ops listed k && decide (k < n) && lexIdx md ops g n is (listed.setIfInBounds k true)
theorem wpAnyR_lex {n g : Nat} {pre : List Nat} {Lq : EE → Prop} (hs : sinkP md ops pre n = true) (hc : Region.chainB md ops n = true) (hn : n < ops.size) :
    ∀ (l : List (Nat × Oper)) (listed : Array Bool) (E : EE), (∀ p ∈ l, ops[p.1]? = some p.2) → HeadInv md ops n listed → (∀ i ∈ pre, listed.getD i true = true) →
    lexIdx md ops g n (l.map (·.1)) listed = true → wpLexR P C ops σ rs Lq l E →
    wpAnyR P C md ops σ rs n (fun listed' E' => Region.seqB md ops g n listed' = true ∧ (∀ j, j < n → listed'.getD j false = true) ∧ Lq E') l.length listed E
  | [], listed, E, _, _, _, hB, h => by
    simp only [List.map_nil, lexIdx, Bool.and_eq_true] at hB
    exact ⟨hB.1, fun j hj => List.all_eq_true.1 hB.2 j (List.mem_range.2 hj), h⟩
  | (k, o) :: l, listed, E, hl, inv, hp, hB, h => by
    have h0 : ops[k]? = some o := hl (k, o) (by simp)
    simp only [List.map_cons, lexIdx, Bool.and_eq_true, decide_eq_true_eq] at hB
    obtain ⟨⟨⟨hr, hf⟩, hkn⟩, hB'⟩ := hB
    have hr' : k ∈ Region.ready md ops listed := by simpa using hr
    obtain ⟨v, hy, hK⟩ := h
    exact wpAnyR_first h0 hs hc hn hkn (fun listed' E' hL => seqB_ready hL.1) l.length listed E inv hp (Region.free_spec h0 hf) hr' hy
      (wpAnyR_lex hs hc hn l _ _ (fun p hp => hl p (by simp [hp])) (inv.set hr' hkn) (fun i hi => getD_set_keep (hp i hi)) hB' hK)
end
/-! ### .. and what really runs. -/
structure SimR (C : Ctx) (σ : List Ob) (rs : Res) (listed : Array Bool) (E : EE) (a : Act) (w : World) : Prop where
  defers : a.defers = []
  size : a.tmps.size = C.n
  mem : ∃ φ, Good C ⟨w, φ, σ ++ res rs listed, C.ok⟩ ∧ (∀ p r, rs[p]? = some r → listed.getD r.1 false = false → φ (σ.length + p) = none) ∧ ∀ t, AV.rel ⟨w, φ, σ ++ res rs listed, C.ok⟩ (E t) (a.tmps.getD t undef)
theorem res_same {rs : Res} {listed : Array Bool} {i : Nat} (h : ∀ r ∈ rs, r.1 ≠ i) : res rs (listed.setIfInBounds i true) = res rs listed := by
  unfold res
  refine List.map_congr_left fun r hr => ?_
  unfold resOb
  rw [getD_set_ne false (Ne.symm (h r hr))]
theorem res_set {rs : Res} {listed : Array Bool} {i p : Nat} {e : TypeId} {zs : List Value} (hnd : (rs.map (·.1)).Nodup) (hp : rs[p]? = some (i, e, zs)) (hi : i < listed.size) :
    res rs (listed.setIfInBounds i true) = (res rs listed).set p ⟨e, 0, zs.map fun v => .ro (.c v)⟩ := by
  apply List.ext_getElem?
  intro j
  rw [List.getElem?_set]
  unfold res
  rw [List.getElem?_map]
  by_cases e : p = j
  · subst e
    have hlt : p < rs.length := (List.getElem?_eq_some_iff.1 hp).1
    rw [hp]
    simp [resOb, hlt, hi]
  · rw [if_neg e, List.getElem?_map]
    cases hj : rs[j]? with
    | none => rfl
    | some r =>
      simp only [Option.map_some, Option.some.injEq]
      have hne : r.1 ≠ i := by
        intro he
        have h1 : (rs.map (·.1))[p]? = some i := by simp [hp]
        have h2 : (rs.map (·.1))[j]? = some i := by simp [hj, he]
        have hpl := (List.getElem?_eq_some_iff.1 h1).1
        exact e ((List.getElem?_inj hpl hnd).1 (h1.trans h2.symm))
      unfold resOb
      rw [getD_set_ne false (Ne.symm hne)]
section
variable {P : Program} {C : Ctx} {ops : Array Oper} {σ : List Ob} {md : Region.Mode} {rs : Res} {listed : Array Bool} {E : EE} {a : Act} {w : World}
theorem ev_evE' {m : Mem} {a : Act} {E : EE} (hE : ∀ t, AV.rel m (E t) (a.tmps.getD t undef)) (x : Operand) : AV.rel m (evE E x) (a.eval x) := by
  have := ev_rel (env := []) (m := m) (a := a) (fun t => by simp [look, AV.rel]) x
  cases x with
  | tmp t => exact hE t
  | const c => cases c <;> simpa [ev, evE] using this
  | func f => simpa [ev, evE] using this
  | global g => simp [evE, AV.rel]
theorem SimR.op {Q : Exit → Act → World → Prop} {i : Nat} {o : Oper} {v : AV} {K : Act → World → Prop} (hnd : (rs.map (·.1)).Nodup) (hs : SimR C σ rs listed E a w) (hi : listed.getD i true = false) (ho : ops[i]? = some o) (hd : ∀ t, o.dst = some t → t < C.n)
    (hy : YF P C ops σ rs i o v E) (hK : ∀ a' w', SimR C σ rs (listed.setIfInBounds i true) (putE E o.dst v) a' w' → K a' w') : wpOp P ops Q i K a w := by
  obtain ⟨s1, s2, φ, hG, hφ, hE⟩ := hs
  obtain ⟨dst, op, ty, pos, after, g⟩ := o
  have putR : ∀ {φ' : Nat → Option Nat} {σ' : List Ob} {w' : World} {u : Value}, (∀ t, AV.rel ⟨w', φ', σ', C.ok⟩ (E t) (a.tmps.getD t undef)) → AV.rel ⟨w', φ', σ', C.ok⟩ v u → ∀ t, AV.rel ⟨w', φ', σ', C.ok⟩ (putE E dst v t) ((a.put dst u).tmps.getD t undef) := by
    intro φ' σ' w' u h1 h2 t
    cases dst with
    | none => exact h1 t
    | some s =>
      rw [getD_put a s t u (by rw [s2]; exact hd s rfl)]
      simp only [putE]
      split
      · exact h2
      · exact h1 t
  have szR : ∀ u, (a.put dst u).tmps.size = C.n := fun u => by cases dst <;> simp [Act.put, s2]
  have dfR : ∀ u, (a.put dst u).defers = [] := fun u => by cases dst <;> exact s1
  unfold wpOp
  simp only [ho]
  rcases hy with ⟨h0, ⟨hg, hv⟩ | ⟨hg, rfl⟩⟩ | ⟨p, e, zs, hp, hop, hgd, hds, hz, rfl⟩
  · rw [if_pos (gsay_yes hg a _ hE)]
    refine .inl (hv (res rs listed) a ⟨w, φ, σ ++ res rs listed, C.ok⟩ hG rfl (fun x _ => ev_evE' hE x) _ _ fun u w' hb hu => hK _ _ ?_)
    obtain ⟨g1, g2⟩ := good_below hG hb
    refine ⟨dfR u, szR u, φ, ?_, fun p r hp hl => hφ p r hp ?_, ?_⟩
    · rw [res_same h0]; exact g1
    · rwa [getD_set_ne false (Ne.symm (h0 r (List.mem_of_getElem? hp)))] at hl
    · rw [res_same h0]; exact putR (fun t => AV.rel_keeps g2 _ _ (AV.only_true _) (hE t)) hu
  · rw [gsay_no hg a _ hE, if_neg (by simp)]
    refine hK _ _ ⟨dfR _, szR _, φ, ?_, fun p r hp hl => hφ p r hp ?_, ?_⟩
    · rw [res_same h0]; exact hG
    · rwa [getD_set_ne false (Ne.symm (h0 r (List.mem_of_getElem? hp)))] at hl
    · rw [res_same h0]; exact putR hE (by simp [AV.rel, RV.rel])
  · simp only at hop hgd hds
    subst hop; subst hgd
    have his : i < listed.size := by
      rcases Nat.lt_or_ge i listed.size with h | h
      · exact h
      · simp [Array.getElem?_eq_none h] at hi
    have hlf : listed.getD i false = false := getD_both hi
    rw [if_pos (by simp [Region.wanted])]
    refine .inl ?_
    obtain ⟨inf, z, h1, h2, h3, h4⟩ := hz.h
    unfold Oper.wp
    have hrun : (execOp a.eval ⟨dst, .alloc e, ty, pos, after, none⟩).run P w = .ok (.value (.pointer (some ⟨w.heap.size, 0, none⟩))) (w.alloc (.cells zs.toArray e)) := by
      simp [execOp, Instr.alloc, zeroValue, typeInfo, h1, h2, newVar, newRow, newObj, h3]; rfl
    rw [hrun]
    simp only [Oper.upon]
    have hpl : p < rs.length := (List.getElem?_eq_some_iff.1 hp).1
    have hlf' : ¬ listed.getD i false = true := by rw [hlf]; simp
    have hq : (σ ++ res rs listed)[σ.length + p]? = some ⟨e, 0, []⟩ := by
      rw [List.getElem?_append_right (by omega), show σ.length + p - σ.length = p by omega]
      unfold res
      rw [List.getElem?_map, hp]
      simp only [Option.map_some, resOb]
      rw [if_neg hlf']
    have hφq := hφ p _ hp hlf
    refine hK _ _ ⟨dfR _, szR _, upd φ (σ.length + p) (some w.heap.size), ?_, fun p' r hp' hl => ?_, ?_⟩
    · have := good_fill hG hq hφq zs h4
      rwa [List.set_append_right _ _ (by omega), show σ.length + p - σ.length = p by omega, ← res_set hnd hp his] at this
    · by_cases hpp : p' = p
      · subst hpp
        rw [hp] at hp'; injection hp' with hp'; subst hp'
        simp [his] at hl
      · have hri : r.1 ≠ i := fun he => by rw [he] at hl; simp [his] at hl
        rw [getD_set_ne false (Ne.symm hri)] at hl
        rw [upd_ne (by omega)]
        exact hφ p' r hp' hl
    · have hall : ∀ t, AV.rel ⟨w.alloc (.cells zs.toArray e), upd φ (σ.length + p) (some w.heap.size), (σ ++ res rs listed).set (σ.length + p) ⟨e, 0, zs.map fun v => .ro (.c v)⟩, C.ok⟩ (E t) (a.tmps.getD t undef) := fun t => rel_fill hq hφq _ _ (hE t)
      rw [List.set_append_right _ _ (by omega), show σ.length + p - σ.length = p by omega, ← res_set hnd hp his] at hall
      refine putR hall ?_
      simp only [AV.rel]
      exact ⟨by simp [res]; omega, w.heap.size, upd_eq, rfl⟩
theorem wpAny_of_R {n g : Nat} {L : Array Bool → EE → Prop} {Q' : Exit → Act → World → Prop} (hnd : (rs.map (·.1)).Nodup) (hd : ∀ (i : Nat) o t, ops[i]? = some o → o.dst = some t → t < C.n)
    (hL : ∀ listed E a w, L listed E → SimR C σ rs listed E a w → wpAny P md ops Q' g listed a w) :
    ∀ (f : Nat) (listed : Array Bool) (E : EE) (a : Act) (w : World), SimR C σ rs listed E a w → wpAnyR P C md ops σ rs n L f listed E → wpAny P md ops Q' (f + g) listed a w
  | 0, listed, E, a, w, hs, h => by rw [Nat.zero_add]; exact hL _ _ _ _ h hs
  | f + 1, listed, E, a, w, hs, h => by
    rw [show f + 1 + g = (f + g) + 1 by omega]
    refine ⟨fun h0 => absurd h0 h.1, fun i hi => ?_⟩
    obtain ⟨o, v, ho, hy, hK⟩ := (h.2 i hi).2
    exact SimR.op hnd hs (mem_ready.1 hi).1 ho (fun t ht => hd i o t ho ht) hy fun a' w' hs' => wpAny_of_R hnd hd hL f _ _ a' w' hs' hK
end
/-! ### Moves that come first. -/
section
variable {P : Program} {md : Region.Mode} {ops : Array Oper} {Q' : Exit → Act → World → Prop}
def isMove (o : Oper) : Bool := match o with
  | ⟨some _, .move _, _, _, _, none⟩ => true
  | _ => false
def movedTo (o : Oper) (a : Act) : Value := match o.op with
  | .move x => a.eval x
  | _ => undef
theorem run_move {o : Oper} (h : isMove o = true) (a : Act) (w : World) : Region.wanted o (yielded ops a.tmps) = true ∧ (execOp a.eval o).run P w = .ok (.value (movedTo o a)) w := by
  obtain ⟨dst, op, ty, pos, after, g⟩ := o
  unfold isMove at h
  split at h
  · rename_i he; injection he with e1 e2 e3 e4 e5 e6; subst e1; subst e2; subst e6
    exact ⟨by simp [Region.wanted], by simp [execOp, movedTo]⟩
  · cases h
theorem movedTo_put {oi oj : Oper} (hm : isMove oi = true) (a : Act) (u : Value) (h3 : ∀ d, oj.dst = some d → d ∉ oi.looksAt ops) : movedTo oi (a.put oj.dst u) = movedTo oi a := by
  obtain ⟨dst, op, ty, pos, after, g⟩ := oi
  unfold isMove at hm
  split at hm
  · rename_i x _ _ _ he; injection he with e1 e2 e3 e4 e5 e6; subst e1; subst e2; subst e6
    simp only [movedTo]
    refine Act.eval_put fun d hd hxd => h3 d hd ?_
    subst hxd
    exact List.mem_append_left _ (List.mem_filterMap.2 ⟨.tmp d, by simp [Op.operands], rfl⟩)
  · cases hm
theorem wpOp_move {F : Act → World → Prop} {j : Nat} {oi oj : Oper} (hj : ops[j]? = some oj) (hm : isMove oi = true) (hap : oi.apart ops oj = true) (hsj : ∀ cs b, oj.op ≠ .select cs b) {K K' : Act → World → Prop} {a : Act} {w : World}
    (h : wpOp P ops (nrm F) j K' (a.put oi.dst (movedTo oi a)) w) (hK : ∀ a' w', movedTo oi a' = movedTo oi a → K' (a'.put oi.dst (movedTo oi a)) w' → K a' w') : wpOp P ops (nrm F) j K a w := by
  obtain ⟨h1, h2, h3⟩ := Oper.apart_spec hap
  unfold wpOp at *
  simp only [hj] at *
  rw [wanted_put oj a oi.dst _ h1] at h
  have key : ∀ u w', K' ((a.put oi.dst (movedTo oi a)).put oj.dst u) w' → K (a.put oj.dst u) w' := fun u w' hk => hK _ _ (movedTo_put hm a u h3) (by rwa [← Act.put_comm a (movedTo oi a) u h2])
  split
  · rename_i hw
    simp only [hw, if_true] at h
    refine h.imp (fun h => ?_) (fun h => ⟨?_, h.2⟩)
    · unfold Oper.wp at *
      rw [execOp_put oj hsj a oi.dst _ h1] at h
      generalize (execOp a.eval oj).run P w = r at *
      cases r with
      | ok n w' =>
        cases n with
        | value u => exact key u w' h
        | skip => exact key undef w' h
        | enter f args => exact Calls.mono h (fun e w'' he => by cases e <;> first | exact key _ w'' he | exact he | exact he.elim)
        | row r args => exact Rows.mono h fun v w'' he => key v w'' he
        | defer d =>
          simp only [Oper.upon] at h ⊢
          have e : ({ a.put oi.dst (movedTo oi a) with defers := d :: (a.put oi.dst (movedTo oi a)).defers } : Act).put oj.dst undef = (({ a with defers := d :: a.defers } : Act).put oj.dst undef).put oi.dst (movedTo oi a) := by
            have := Act.put_comm ({ a with defers := d :: a.defers } : Act) (movedTo oi a) undef h2
            rw [← this]
            cases oi.dst <;> rfl
          rw [e] at h
          refine hK _ _ ?_ h
          have := movedTo_put (ops := ops) (oj := oj) hm ({ a with defers := d :: a.defers } : Act) undef h3
          rw [this]
          cases hop : oi.op <;> simp [movedTo, hop]
          rfl
        | _ => exact h
      | halt x w' => cases x <;> exact h
    · have := h.1
      unfold Oper.asks at this ⊢
      rwa [execOp_put oj hsj a oi.dst _ h1] at this
  · rename_i hw
    simp only [hw] at h
    exact key undef w h
theorem wpAny_move {F : Act → World → Prop} {i : Nat} {oi : Oper} (hi : ops[i]? = some oi) (hm : isMove oi = true) (hsel : ∀ (j : Nat) (o : Oper) cs b, ops[j]? = some o → o.op ≠ .select cs b) :
    ∀ (fuel : Nat) (listed : Array Bool) (a : Act) (w : World),
      (∀ j oj, ops[j]? = some oj → j ≠ i → listed.getD j true = false → (∀ e ∈ oj.after, Region.binds md e = true → e.on ≠ i) → oi.apart ops oj = true) →
      i ∈ Region.ready md ops listed →
      wpAny P md ops (nrm F) fuel (listed.setIfInBounds i true) (a.put oi.dst (movedTo oi a)) w → wpAny P md ops (nrm F) (fuel + 1) listed a w := by
  have own : ∀ {K : Act → World → Prop} {a : Act} {w : World}, K (a.put oi.dst (movedTo oi a)) w → wpOp P ops (nrm F) i K a w := by
    intro K a w h
    obtain ⟨e1, e2⟩ := run_move (P := P) (ops := ops) hm a w
    unfold wpOp
    simp only [hi]
    rw [if_pos e1]
    refine .inl ?_
    unfold Oper.wp
    rw [e2]
    exact h
  intro fuel
  induction fuel with
  | zero =>
    intro listed a w _ hr H
    refine ⟨fun h => (by rw [h] at hr; cases hr), fun j hj => ?_⟩
    by_cases hji : j = i
    · subst hji; exact own H
    · have := ready_mono hj hji
      rw [H.1] at this
      cases this
  | succ fuel ih =>
    intro listed a w hfree hr H
    refine ⟨fun h => (by rw [h] at hr; cases hr), fun j hj => ?_⟩
    by_cases hji : j = i
    · subst hji; exact own H
    · have h1 := H.2 j (ready_mono hj hji)
      obtain ⟨hjun, oj, hoj, hall⟩ := mem_ready.1 hj
      have hnot : ∀ e ∈ oj.after, Region.binds md e = true → e.on ≠ i := fun e he hb heq => by
        have h1 := hall e he hb
        have h0 := (mem_ready.1 hr).1
        rw [heq, getD_both h0] at h1
        cases h1
      have hfree' : ∀ k ok, ops[k]? = some ok → k ≠ i → (listed.setIfInBounds j true).getD k true = false →
          (∀ e ∈ ok.after, Region.binds md e = true → e.on ≠ i) → oi.apart ops ok = true := fun k ok hk hki hun hno => by
        refine hfree k ok hk hki ?_ hno
        by_cases hjk : j = k
        · subst hjk; exact hjun
        · rw [getD_set_ne true hjk] at hun; exact hun
      refine wpOp_move hoj hm (hfree j oj hoj hji hjun hnot) (fun cs b => hsel j oj cs b hoj) h1 fun a' w' he h3 => ih (listed.setIfInBounds j true) a' w' hfree' (ready_mono hr (Ne.symm hji)) ?_
      rw [he, Array.setIfInBounds_comm _ _ hji]
      exact h3
end
/-! ### All of it. -/
def pick (l : List Oper) : List Nat → List (Nat × Oper)
  | [] => []
  | i :: is => match l[i]? with
    | some o => (i, o) :: pick l is
    | none => pick l is
theorem pick_mem {l : List Oper} : ∀ {is : List Nat} {p : Nat × Oper}, p ∈ pick l is → l[p.1]? = some p.2
  | [], p, h => by simp [pick] at h
  | i :: is, p, h => by
    unfold pick at h
    split at h
    · rename_i o ho
      rcases List.mem_cons.1 h with rfl | h
      · exact ho
      · exact pick_mem h
    · exact pick_mem h
def mvE (E : EE) (o : Oper) : AV := match o.op with
  | .move x => evE E x
  | _ => .junk
def preE : EE → List (Nat × Oper) → EE
  | E, [] => E
  | E, (_, o) :: l => preE (putE E o.dst (mvE E o)) l
/-- The frame behind such moves. -/
inductive Moved : Env → List (Nat × Oper) → Env → Prop
  | nil {env : Env} : Moved env [] env
  | cons {env env' : Env} {l : List (Nat × Oper)} {i t : Nat} {x : Operand} {v : AV} {ty : TypeId} {pos : String} {after : Array Edge} {g : Option (Nat × Bool)} : ev env x = v → Moved ((t, v) :: env) l env' → Moved env ((i, ⟨some t, .move x, ty, pos, after, g⟩) :: l) env'
theorem Moved.eq {env env' : Env} {l : List (Nat × Oper)} (h : Moved env l env') : preE (look env) l = look env' := by
  induction h with
  | nil => rfl
  | cons hx _ ih =>
    rw [← ih]
    simp only [preE, mvE, ← ev_evE, hx, ← look_putE]
def preIdx (md : Region.Mode) (ops : Array Oper) (n : Nat) : List (Nat × Oper) → Array Bool → Option (Array Bool)
  | [], listed => some listed
  | (k, o) :: is, listed => if (Region.ready md ops listed).contains k && Region.free md ops listed k && decide (k < n) && isMove o then preIdx md ops n is (listed.setIfInBounds k true) else none
def preAll (listed : Array Bool) (pre : List (Nat × Oper)) : Bool := pre.all fun p => listed.getD p.1 true
def drawTB (l : List Oper) (pre head : List Nat) (n : Nat) : Bool :=
  Region.noSelect l.toArray && decide (n < l.length) && sinkP .any l.toArray pre n && Region.chainB .any l.toArray n && decide ((pick l pre).length + (pick l head).length = n) && decide ((pick l pre).map (·.1) = pre) &&
  match preIdx .any l.toArray n (pick l pre) (Array.replicate l.length false) with
  | some listed => pre.all (fun i => listed.getD i true) && lexIdx .any l.toArray (l.length - n) n ((pick l head).map (·.1)) listed
  | none => false
section
variable {P : Program} {C : Ctx} {k : List Item} {R : Act → World → Prop} {env : Env} {σ : List Ob}
theorem wpAny_pre {F : Act → World → Prop} {ops : Array Oper} {n : Nat} (hsel : Region.noSelect ops = true) (hd : ∀ (i : Nat) o t, ops[i]? = some o → o.dst = some t → t < C.n) {w : World} {φ : Nat → Option Nat} (hG : Good C ⟨w, φ, σ, C.ok⟩) :
    ∀ (pre : List (Nat × Oper)) (listed listed' : Array Bool) (E : EE) (a : Act) (f : Nat), (∀ p ∈ pre, ops[p.1]? = some p.2) → preIdx .any ops n pre listed = some listed' → HeadInv .any ops n listed →
    a.defers = [] → a.tmps.size = C.n → (∀ t, AV.rel ⟨w, φ, σ, C.ok⟩ (E t) (a.tmps.getD t undef)) →
    (HeadInv .any ops n listed' → ∀ a', a'.defers = [] → a'.tmps.size = C.n → (∀ t, AV.rel ⟨w, φ, σ, C.ok⟩ (preE E pre t) (a'.tmps.getD t undef)) → wpAny P .any ops (nrm F) f listed' a' w) →
    wpAny P .any ops (nrm F) (pre.length + f) listed a w
  | [], listed, listed', E, a, f, _, hp, inv, s1, s2, hE, h => by
    simp only [preIdx, Option.some.injEq] at hp; subst hp
    rw [List.length_nil, Nat.zero_add]
    exact h inv a s1 s2 hE
  | (i, o) :: pre, listed, listed', E, a, f, hl, hp, inv, s1, s2, hE, h => by
    unfold preIdx at hp
    split at hp
    · rename_i hc
      simp only [Bool.and_eq_true, decide_eq_true_eq] at hc
      obtain ⟨⟨⟨hr, hf⟩, hin⟩, hm⟩ := hc
      have h0 : ops[i]? = some o := hl (i, o) (by simp)
      have hr' : i ∈ Region.ready .any ops listed := by simpa using hr
      rw [show ((i, o) :: pre).length + f = (pre.length + f) + 1 by simp; omega]
      refine wpAny_move h0 hm (Region.noSelect_spec hsel) _ listed a w (Region.free_spec h0 hf) hr' ?_
      have hmv : AV.rel ⟨w, φ, σ, C.ok⟩ (mvE E o) (movedTo o a) := by
        unfold mvE movedTo
        cases o.op <;> simp only <;> first | exact ev_evE' hE _ | simp [AV.rel]
      refine wpAny_pre hsel hd hG pre _ listed' (putE E o.dst (mvE E o)) _ f (fun p hp => hl p (by simp [hp])) hp (inv.set hr' hin) ?_ ?_ ?_ h
      · cases o.dst <;> exact s1
      · cases o.dst <;> simp [Act.put, s2]
      · intro t
        cases hdst : o.dst with
        | none => exact hE t
        | some s =>
          rw [getD_put a s t _ (by rw [s2]; exact hd i o s h0 hdst)]
          simp only [putE]
          split
          · exact hmv
          · exact hE t
    · cases hp
/-- A drawn region's walk: the head, then the tail. -/
structure RunsT (P : Program) (C : Ctx) (ops : Array Oper) (rs : Res) (tail : List Oper) (l : List (Nat × Oper)) (k : List Item) (R : Act → World → Prop) (S : St) : Prop where
  run : wpLexR P C ops S.σ rs (fun E => ∃ env', E = look env' ∧ RunsL P C ops tail k R ⟨env', S.σ ++ full rs⟩) l (look S.env)
theorem res_none {rs : Res} {m : Nat} : ∀ (j : Nat) o, (res rs (Array.replicate m false))[j]? = some o → o.cs = [] := by
  intro j o h
  unfold res at h
  rw [List.getElem?_map, Option.map_eq_some_iff] at h
  obtain ⟨r, _, rfl⟩ := h
  unfold resOb
  rw [getD_replicate_false]
  rfl
theorem res_full {rs : Res} {listed : Array Bool} (h : ∀ r ∈ rs, listed.getD r.1 false = true) : res rs listed = full rs := by
  unfold res full
  refine List.map_congr_left fun r hr => ?_
  unfold resOb
  rw [if_pos (h r hr)]
theorem res_blank {rs : Res} {l l' : Array Bool} (h : ∀ r ∈ rs, l.getD r.1 false = l'.getD r.1 false) : res rs l = res rs l' := by
  unfold res
  refine List.map_congr_left fun r hr => ?_
  unfold resOb
  rw [h r hr]
theorem preIdx_off {ops : Array Oper} {n : Nat} {i : Nat} : ∀ (pre : List (Nat × Oper)) (listed listed' : Array Bool), preIdx .any ops n pre listed = some listed' → (∀ p ∈ pre, p.1 ≠ i) → listed'.getD i false = listed.getD i false
  | [], listed, listed', h, _ => by simp only [preIdx, Option.some.injEq] at h; rw [h]
  | (k, o) :: pre, listed, listed', h, hp => by
    unfold preIdx at h
    split at h
    · rw [preIdx_off pre _ listed' h fun p hq => hp p (by simp [hq]), getD_set_ne false (hp (k, o) (by simp))]
    · cases h
theorem Runs.drawT {id : Nat} {l : List Oper} {cn : Nat} {env' : Env} (pre head : List Nat) (n : Nat) (rs : Res) (hf : P.follows .mixedOrders = true) (hn : C.n = cn) (hB : drawTB l pre head n = true) (hd : dstOk cn l = true)
    (hpre : Moved env (pick l pre) env') (hnd : (rs.map (·.1)).Nodup) (hrs : ∀ r ∈ rs, r.1 < n) (hrp : ∀ r ∈ rs, ∀ p ∈ pre, p ≠ r.1)
    (h : RunsT P C l.toArray rs (l.drop n) (pick l head) k R ⟨env', σ⟩) : Runs P C (.code (.region id l.toArray true) :: k) R ⟨env, σ⟩ := by
  refine ⟨fun a w hs => Fin.of_wp (wp_region_any hf ?_)⟩
  unfold drawTB at hB
  simp only [Bool.and_eq_true, decide_eq_true_eq] at hB
  obtain ⟨⟨⟨⟨⟨⟨hsel, hnl⟩, hsk⟩, hch⟩, hlen⟩, hpm⟩, hx⟩ := hB
  split at hx
  · rename_i listed hli
    simp only [Bool.and_eq_true] at hx
    obtain ⟨hpa, hlex⟩ := hx
    obtain ⟨s1, s2, φ, hG, hE⟩ := hs
    have hb : Below w.heap.size w { w with drawn := w.drawn + 1 } := ⟨rfl, rfl, rfl, Nat.le_refl _, fun _ _ => rfl⟩
    obtain ⟨g1, g2⟩ := good_below hG hb
    -- the places that are kept for what is allocated
    let φ0 : Nat → Option Nat := fun i => if i < σ.length then φ i else none
    have hφ0 : ∀ j, φ0 (σ.length + j) = none := fun j => if_neg (by omega)
    obtain ⟨G1, G2⟩ := good_grow (φ' := φ0) (new := res rs (Array.replicate l.length false)) g1 (Below.refl _ _) (fun i hi => if_pos hi) (fun j hj g hg => by rw [hφ0] at hg; cases hg) (fun i j g hi hj e1 e2 => by rw [hφ0] at e1; cases e1) (fun j o hj => by rw [hφ0]; exact res_none j o hj)
    have hE1 : ∀ t, AV.rel ⟨{ w with drawn := w.drawn + 1 }, φ0, σ ++ res rs (Array.replicate l.length false), C.ok⟩ (look env t) (a.tmps.getD t undef) := fun t => AV.rel_keeps G2 _ _ (AV.only_true _) (AV.rel_keeps g2 _ _ (AV.only_true _) (hE t))
    have hdd : ∀ (i : Nat) o t, l.toArray[i]? = some o → o.dst = some t → t < C.n := fun i o t hi ht => by rw [hn]; exact dstOk_at hd i o t (by simpa using hi) ht
    have inv0 : HeadInv .any l.toArray n (Array.replicate l.length false) :=
      ⟨by simp, fun j oj _ hl => (by rw [getD_replicate_false] at hl; cases hl), fun t _ ht => getD_in (by simpa using ht) (getD_replicate_false _ _)⟩
    have hmemP : ∀ p ∈ pick l pre, l.toArray[p.1]? = some p.2 := fun p hp => by simpa using pick_mem hp
    have hmemH : ∀ p ∈ pick l head, l.toArray[p.1]? = some p.2 := fun p hp => by simpa using pick_mem hp
    have hsz : l.toArray.size = (pick l pre).length + ((pick l head).length + (l.length - n)) := by simp; omega
    refine (show ∀ m, m = l.toArray.size → wpAny P .any l.toArray (nrm (Fin P k R)) m (Array.replicate l.toArray.size false) a { w with drawn := w.drawn + 1 } from ?_) _ rfl
    intro m hm
    obtain rfl := hm.trans hsz
    refine wpAny_pre (σ := σ ++ res rs (Array.replicate l.length false)) hsel hdd G1 (pick l pre) (Array.replicate l.toArray.size false) listed (look env) a _ hmemP (by simpa using hli) (by simpa using inv0) s1 s2 hE1 fun inv a' t1 t2 hE' => ?_
    have hE2 : preE (look env) (pick l pre) = look env' := hpre.eq
    rw [hE2] at hE'
    have hprel : ∀ i ∈ pre, listed.getD i true = true := fun i hi => List.all_eq_true.1 hpa i hi
    have hoff : ∀ r ∈ rs, listed.getD r.1 false = (Array.replicate l.length false).getD r.1 false := fun r hr => preIdx_off _ _ _ hli fun p hp => by
      refine hrp r hr p.1 ?_
      rw [← hpm]; exact List.mem_map_of_mem hp
    have hres : res rs (Array.replicate l.length false) = res rs listed := res_blank fun r hr => (hoff r hr).symm
    rw [hres] at hE' G1
    have H := wpAnyR_lex (P := P) (C := C) (σ := σ) (md := .any) (ops := l.toArray) (g := l.length - n) hsk hch (by simpa using hnl) (pick l head) listed (look env') hmemH inv hprel hlex h.run
    refine wpAny_of_R hnd hdd (fun listed' E' a'' w'' hL hS => ?_) _ listed (look env') a' _ ⟨t1, t2, φ0, G1, fun p r _ _ => hφ0 p, hE'⟩ H
    obtain ⟨hsq, hall, env'', rfl, hR⟩ := hL
    have hfl := res_full (rs := rs) (listed := listed') fun r hr => hall r.1 (hrs r hr)
    obtain ⟨u1, u2, φ', G', _, hE''⟩ := hS
    rw [hfl] at G' hE''
    have := wpAny_of_seq (md := .any) (Q' := nrm (Fin P k R)) (l.drop n) n listed' a'' w'' (fun j => by simp [List.getElem?_drop]) (by rw [List.length_drop]; exact hsq) (hR.run a'' w'' ⟨u1, u2, φ', G', hE''⟩)
    rwa [List.length_drop] at this
  · cases hx
variable {ops : Array Oper} {rs : Res} {tail : List Oper} {rest : List (Nat × Oper)} {i t : Nat} {o : Oper}
theorem Runs.toDrawT {id : Nat} {l : List Oper} {k' : List Item} {cn : Nat} {env' : Env} (m : Nat) (pre head : List Nat) (n : Nat) (rs : Res) (hf : P.follows .mixedOrders = true) (hn : C.n = cn) (hc : Proofs.YtnbjncafoahclaaDoor.ctls m k = .code (.region id l.toArray true) :: k') (hB : drawTB l pre head n = true) (hd : dstOk cn l = true)
    (hpre : Moved env (pick l pre) env') (hnd : (rs.map (·.1)).Nodup) (hrs : ∀ r ∈ rs, r.1 < n) (hrp : ∀ r ∈ rs, ∀ p ∈ pre, p ≠ r.1)
    (h : RunsT P C l.toArray rs (l.drop n) (pick l head) k' R ⟨env', σ⟩) : Runs P C k R ⟨env, σ⟩ := Runs.ctls m hc (Runs.drawT pre head n rs hf hn hB hd hpre hnd hrs hrp h)
theorem RunsT.nil (h : RunsL P C ops tail k R ⟨env, σ ++ full rs⟩) : RunsT P C ops rs tail [] k R ⟨env, σ⟩ := ⟨⟨env, rfl, h⟩⟩
theorem RunsT.pur {v : AV} (h : ∀ more, Pur P C o env (σ ++ more) v) (hi : ∀ r ∈ rs, r.1 ≠ i) (hg : gsay ops env o.guard = some true) (hd : o.dst = some t) (hk : RunsT P C ops rs tail rest k R ⟨(t, v) :: env, σ⟩) : RunsT P C ops rs tail ((i, o) :: rest) k R ⟨env, σ⟩ := by
  refine ⟨v, .inl ⟨hi, .inl ⟨hg, fun more => (h more).toF⟩⟩, ?_⟩
  rw [hd, show (⟨env, σ⟩ : St).env = env from rfl, ← look_putE]
  exact hk.run
theorem RunsT.alloc {p : Nat} {e : TypeId} {zs : List Value} {ty : TypeId} {pos : String} {after : Array Edge} (hr : rs[p]? = some (i, e, zs)) (hz : TZ P e zs) (hk : RunsT P C ops rs tail rest k R ⟨(t, .obj (σ.length + p) 0) :: env, σ⟩) :
    RunsT P C ops rs tail ((i, ⟨some t, .alloc e, ty, pos, after, none⟩) :: rest) k R ⟨env, σ⟩ := by
  refine ⟨.obj (σ.length + p) 0, .inr ⟨p, e, zs, hr, rfl, rfl, rfl, hz, rfl⟩, ?_⟩
  rw [show (⟨env, σ⟩ : St).env = env from rfl, ← look_putE]
  exact hk.run
theorem RunsT.off (hi : ∀ r ∈ rs, r.1 ≠ i) (hg : gsay ops env o.guard = some false) (hd : o.dst = some t) (hk : RunsT P C ops rs tail rest k R ⟨(t, .ro (.c undef)) :: env, σ⟩) : RunsT P C ops rs tail ((i, o) :: rest) k R ⟨env, σ⟩ := by
  refine ⟨.ro (.c undef), .inl ⟨hi, .inr ⟨hg, rfl⟩⟩, ?_⟩
  rw [hd, show (⟨env, σ⟩ : St).env = env from rfl, ← look_putE]
  exact hk.run
theorem RunsT.step {T : Tab} (hT : TabOk P T) {v : AV} (hd : o.dst = some t) (hg : gsay ops env o.guard = some true) (h : ∀ more, aop T env (σ ++ more) o.op = some v) (hi : ∀ r ∈ rs, r.1 ≠ i) (hk : RunsT P C ops rs tail rest k R ⟨(t, v) :: env, σ⟩) : RunsT P C ops rs tail ((i, o) :: rest) k R ⟨env, σ⟩ := by
  obtain ⟨dst, op, ty, pos, after, g⟩ := o
  simp only at hd; subst hd
  exact RunsT.pur (fun more => pu_auto hT (h more)) hi hg rfl hk
end
end Go.Proofs.YtnbjncafoahclaaDoor
