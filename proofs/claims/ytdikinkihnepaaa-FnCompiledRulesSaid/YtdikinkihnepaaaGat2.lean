/- Gathered texts. -/
import Derived.Test.YtdikinkihnepaaaGat0
import Derived.Test.YtdikinkihnepaaaGat1
import Derived.StillTail
import Derived.Laws.Tables
import Derived.Test.YtdikinkihnepaaaChecked
import Derived.Laws.StructEq
import Derived.Laws.IdiomStrings
/- Regions that draw their order, with allocations and a tail of effects: plain moves first, then pure operations and allocations in any order, then the rest as the text says. Over any program. -/
namespace Go.Proofs.Ytdikinkihnepaaa
set_option linter.unusedSimpArgs false
set_option linter.unusedVariables false
open Go.RowKit
open AV (Mem Keeps)
section
variable {C : Ctx} {w : World} {φ : Nat → Option Nat} {σ : List Ob} {q : Nat} {e : TypeId} {cs : List AV} {us : Array Value}
mutual
theorem rel_fill (hq : σ[q]? = some ⟨e, 0, []⟩) (hφ : φ q = none) : ∀ (v : AV) (u : Value), AV.rel ⟨w, φ, σ, C.ok⟩ v u → AV.rel ⟨w.alloc (.cells us e), upd φ q (some w.heap.size), σ.set q ⟨e, 0, cs⟩, C.ok⟩ v u
  | .ro r, u, h => by
    simp only [AV.rel] at h ⊢
    refine RV.rel_mono ⟨(below_one w _).size, fun b hlt hok => ⟨⟨hok.1, fun i hi he => ?_⟩, (below_one w _).block b hlt⟩⟩ r u h
    by_cases hiq : i = q
    · subst hiq; simp only [upd_eq, Option.some.injEq] at he; omega
    · simp only [upd_ne hiq] at he; exact hok.2 i (by simpa using hi) he
  | .junk, u, _ => by simp [AV.rel]
  | .obj i off, u, h => by
    simp only [AV.rel] at h ⊢
    obtain ⟨h1, g, h2, h3⟩ := h
    have hiq : i ≠ q := by rintro rfl; rw [hφ] at h2; cases h2
    exact ⟨by simpa using h1, g, (upd_ne hiq).trans h2, h3⟩
  | .pin i off g, u, h => by
    simp only [AV.rel] at h ⊢
    obtain ⟨h1, h2, h3⟩ := h
    have hiq : i ≠ q := by rintro rfl; rw [hφ] at h2; cases h2
    exact ⟨by simpa using h1, (upd_ne hiq).trans h2, h3⟩
  | .own i, u, h => by
    simp only [AV.rel] at h ⊢
    obtain ⟨ob, n, h1, h2, h3, h4⟩ := h
    have hiq : i ≠ q := by rintro rfl; rw [hq] at h1; injection h1 with h1; subst h1; exact absurd h3 (Nat.lt_irrefl 0)
    refine ⟨ob, n, by rw [List.getElem?_set_ne (Ne.symm hiq)]; exact h1, h2, h3, ?_⟩
    rcases h4 with ⟨e1, e2, e3⟩ | ⟨g, cap, vs, hg, e1, hh, c1⟩
    · exact .inl ⟨e1, e2, (upd_ne hiq).trans e3⟩
    · exact .inr ⟨g, cap, vs, (upd_ne hiq).trans hg, e1, ((below_one w _).block g (Array.getElem?_eq_some_iff.1 hh).1).trans hh, c1⟩
  | .agg vs, u, h => by
    simp only [AV.rel] at h ⊢
    obtain ⟨us', e1, h1⟩ := h
    exact ⟨us', e1, rels_fill hq hφ vs _ h1⟩
  | .tup vs, u, h => by
    simp only [AV.rel] at h ⊢
    obtain ⟨us', e1, h1⟩ := h
    exact ⟨us', e1, rels_fill hq hφ vs _ h1⟩
  | .fn f a b, u, h => by
    simp only [AV.rel] at h ⊢
    obtain ⟨us', vs', e1, h1, h2⟩ := h
    exact ⟨us', vs', e1, rels_fill hq hφ a _ h1, rels_fill hq hφ b _ h2⟩
theorem rels_fill (hq : σ[q]? = some ⟨e, 0, []⟩) (hφ : φ q = none) : ∀ (vs : List AV) (us' : List Value), AV.rels ⟨w, φ, σ, C.ok⟩ vs us' → AV.rels ⟨w.alloc (.cells us e), upd φ q (some w.heap.size), σ.set q ⟨e, 0, cs⟩, C.ok⟩ vs us'
  | [], us', h => by simpa [AV.rels] using h
  | x :: xs, us', h => by
    simp only [AV.rels] at h ⊢
    obtain ⟨u, us'', e1, h1, h2⟩ := h
    exact ⟨u, us'', e1, rel_fill hq hφ x u h1, rels_fill hq hφ xs us'' h2⟩
end
theorem good_fill (hG : Good C ⟨w, φ, σ, C.ok⟩) (hq : σ[q]? = some ⟨e, 0, []⟩) (hφ : φ q = none) (zs : List Value) (h1 : ∀ x ∈ zs, x.oneCell' = true) :
    Good C ⟨w.alloc (.cells zs.toArray e), upd φ q (some w.heap.size), σ.set q ⟨e, 0, zs.map fun v => .ro (.c v)⟩, C.ok⟩ := by
  have hql : q < σ.length := (List.getElem?_eq_some_iff.1 hq).1
  have hb := below_one w (.cells zs.toArray e)
  refine ⟨rfl, fun i j g hi hj e1 e2 => ?_, fun i o hi => ?_, fun i g hi hg => ?_, hG.frm.below hb⟩
  · simp only [List.length_set] at hi hj
    by_cases hiq : i = q <;> by_cases hjq : j = q
    · omega
    · subst hiq; simp only [upd_eq, Option.some.injEq] at e1; simp only [upd_ne hjq] at e2
      have := hG.lt hj e2; simp only at this; omega
    · subst hjq; simp only [upd_eq, Option.some.injEq] at e2; simp only [upd_ne hiq] at e1
      have := hG.lt hi e1; simp only at this; omega
    · simp only [upd_ne hiq] at e1; simp only [upd_ne hjq] at e2
      exact hG.inj i j g hi hj e1 e2
  · by_cases hiq : i = q
    · subst hiq
      simp only [List.getElem?_set_self hql, Option.some.injEq] at hi
      subst hi
      simp only [upd_eq, ObRel]
      refine ⟨zs.toArray, heap_alloc_new w _, by simp, fun j v hj => ?_⟩
      rw [List.getElem?_map, Option.map_eq_some_iff] at hj
      obtain ⟨x, hx, rfl⟩ := hj
      exact ⟨x, by simpa using hx, h1 x (List.mem_of_getElem? hx), by simp [AV.rel, RV.rel]⟩
    · simp only [List.getElem?_set_ne (Ne.symm hiq)] at hi
      have h := hG.ob i o hi
      simp only [upd_ne hiq]
      simp only at h
      cases hg : φ i with
      | none => rw [hg] at h; exact h
      | some g =>
        rw [hg] at h
        obtain ⟨vs, q1, q2, q3⟩ := h
        refine ⟨vs, (hb.block g (Array.getElem?_eq_some_iff.1 q1).1).trans q1, q2, fun j v hj => ?_⟩
        obtain ⟨x, k1, k2, k3⟩ := q3 j v hj
        exact ⟨x, k1, k2, rel_fill hq hφ v x k3⟩
  · simp only [List.length_set] at hi
    by_cases hiq : i = q
    · subst hiq; simp only [upd_eq, Option.some.injEq] at hg; subst hg; exact .inr hG.frm.size
    · simp only [upd_ne hiq] at hg; exact hG.mine i g hi hg
end
abbrev Res := List (Nat × TypeId × List Value)
def resOb (listed : Array Bool) (r : Nat × TypeId × List Value) : Ob := ⟨r.2.1, 0, if listed.getD r.1 false = true then r.2.2.map (fun v => .ro (.c v)) else []⟩
def res (rs : Res) (listed : Array Bool) : List Ob := rs.map (resOb listed)
def full (rs : Res) : List Ob := rs.map fun r => ⟨r.2.1, 0, r.2.2.map fun v => .ro (.c v)⟩
def YF (P : Program) (C : Ctx) (ops : Array Oper) (σ : List Ob) (rs : Res) (i : Nat) (o : Oper) (v : AV) (E : EE) : Prop :=
  ((∀ r ∈ rs, r.1 ≠ i) ∧ ((gsayE ops E o.guard = some true ∧ ∀ more, PurF P C o E (σ ++ more) v) ∨ (gsayE ops E o.guard = some false ∧ v = .ro (.c undef)))) ∨
  (∃ p e zs, rs[p]? = some (i, e, zs) ∧ o.op = .alloc e ∧ o.guard = none ∧ o.dst.isSome = true ∧ TZ P e zs ∧ v = .obj (σ.length + p) 0)
section
variable {P : Program} {C : Ctx} {ops : Array Oper} {σ : List Ob} {md : Region.Mode} {rs : Res}
theorem YF.put {i : Nat} {oi oj : Oper} {v u : AV} {E : EE} (hy : YF P C ops σ rs i oi v E) (h3 : ∀ d, oj.dst = some d → d ∉ oi.looksAt ops) : YF P C ops σ rs i oi v (putE E oj.dst u) := by
  unfold YF at *
  rw [gsay_put h3]
  rcases hy with ⟨h0, ⟨hw, hv⟩ | hy⟩ | hy
  · exact .inl ⟨h0, .inl ⟨hw, fun more => (hv more).congr fun x hx => evE_put fun t ht => mem_looks_op (h3 t ht) x hx⟩⟩
  · exact .inl ⟨h0, .inr hy⟩
  · exact .inr hy
theorem YF.unput {i : Nat} {oi : Oper} {d : Option Nat} {v u : AV} {E : EE} (hy : YF P C ops σ rs i oi v (putE E d u)) (h3 : ∀ t, d = some t → t ∉ oi.looksAt ops) : YF P C ops σ rs i oi v E := by
  unfold YF at *
  rw [gsay_put h3] at hy
  rcases hy with ⟨h0, ⟨hw, hv⟩ | hy⟩ | hy
  · exact .inl ⟨h0, .inl ⟨hw, fun more => (hv more).congr fun x hx => (evE_put fun t ht => mem_looks_op (h3 t ht) x hx).symm⟩⟩
  · exact .inl ⟨h0, .inr hy⟩
  · exact .inr hy
def aOpR (P : Program) (C : Ctx) (ops : Array Oper) (σ : List Ob) (rs : Res) (i : Nat) (K : EE → Prop) (E : EE) : Prop := ∃ o v, ops[i]? = some o ∧ YF P C ops σ rs i o v E ∧ K (putE E o.dst v)
theorem aOpR_mono {i : Nat} {E : EE} {K K' : EE → Prop} (h : ∀ E, K E → K' E) (hh : aOpR P C ops σ rs i K E) : aOpR P C ops σ rs i K' E := by
  obtain ⟨o, v, h1, h2, h3⟩ := hh
  exact ⟨o, v, h1, h2, h _ h3⟩
theorem aOpR_put {i j : Nat} {oi oj : Oper} {v : AV} (hj : ops[j]? = some oj) (hap : oi.apart ops oj = true) {K : EE → Prop} {E : EE} (hy : YF P C ops σ rs i oi v E) (h : aOpR P C ops σ rs j K (putE E oi.dst v)) :
    aOpR P C ops σ rs j (fun E' => YF P C ops σ rs i oi v E' ∧ K (putE E' oi.dst v)) E := by
  obtain ⟨h1, h2, h3⟩ := Oper.apart_spec hap
  obtain ⟨o, u, k1, k2, k3⟩ := h
  rw [hj] at k1; injection k1 with k1; subst k1
  refine ⟨oj, u, hj, k2.unput h1, hy.put h3, ?_⟩
  rw [← putE_comm h2]; exact k3
def wpAnyR (P : Program) (C : Ctx) (md : Region.Mode) (ops : Array Oper) (σ : List Ob) (rs : Res) (n : Nat) (L : Array Bool → EE → Prop) : Nat → Array Bool → EE → Prop
  | 0, listed, E => L listed E
  | f + 1, listed, E => Region.ready md ops listed ≠ [] ∧ ∀ i ∈ Region.ready md ops listed, i < n ∧ aOpR P C ops σ rs i (wpAnyR P C md ops σ rs n L f (listed.setIfInBounds i true)) E
def sinkP (md : Region.Mode) (ops : Array Oper) (pre : List Nat) (n : Nat) : Bool :=
  (List.range n).all fun i => pre.contains i || (List.range (n + 1)).any fun j => decide (i < j) && Region.waitsFor md ops j i
theorem tail_waitsP {n : Nat} {pre : List Nat} {listed : Array Bool} (hs : sinkP md ops pre n = true) (hc : Region.chainB md ops n = true) (hn : n < ops.size) (inv : HeadInv md ops n listed) (hp : ∀ i ∈ pre, listed.getD i true = true) :
    ∀ (d i : Nat), n - i = d → i < n → listed.getD i true = false → ∀ t, n ≤ t → t ∉ Region.ready md ops listed := by
  intro d
  induction d using Nat.strongRecOn with
  | _ d ih =>
    intro i hd hi hun t ht hr
    obtain ⟨_, ot, hot, hall⟩ := mem_ready.1 hr
    have htlt : t < ops.size := (Array.getElem?_eq_some_iff.1 hot).1
    by_cases htn : t = n
    · subst htn
      have h1 := List.all_eq_true.1 hs i (List.mem_range.2 hi)
      rw [Bool.or_eq_true] at h1
      rcases h1 with h1 | h1
      · have := hp i (by simpa using h1)
        rw [hun] at this; cases this
      obtain ⟨j, hj, hj2⟩ := List.any_eq_true.1 h1
      simp only [Bool.and_eq_true, decide_eq_true_eq] at hj2
      obtain ⟨oj, hoj, e, he, hb, hon⟩ := Region.waitsFor_spec hj2.2
      have hjle : j ≤ t := by have := List.mem_range.1 hj; omega
      by_cases hjt : j = t
      · subst hjt
        have : oj = ot := Option.some.inj (hoj.symm.trans hot)
        subst this
        have h2 := hall e he hb
        rw [hon, getD_both hun] at h2
        cases h2
      · cases hl : listed.getD j false with
        | true =>
          have h2 := inv.closed j oj hoj hl e he hb
          rw [hon, getD_both hun] at h2
          cases h2
        | false =>
          have hjs : j < listed.size := by rw [inv.size]; omega
          exact ih (t - j) (by omega) j rfl (by omega) (getD_in hjs hl) t (Nat.le_refl _) hr
    · have h1 := List.all_eq_true.1 hc t (List.mem_range.2 htlt)
      simp only [Bool.or_eq_true, decide_eq_true_eq] at h1
      rcases h1 with h1 | h1
      · omega
      · obtain ⟨o', ho', e, he, hb, hon⟩ := Region.waitsFor_spec h1
        have : o' = ot := Option.some.inj (ho'.symm.trans hot)
        subst this
        have h2 := hall e he hb
        rw [hon, getD_both (inv.tail (t - 1) (by omega) (by omega))] at h2
        cases h2
theorem getD_set_keep {listed : Array Bool} {i j : Nat} (h : listed.getD i true = true) : (listed.setIfInBounds j true).getD i true = true := by
  by_cases e : j = i
  · subst e
    simp only [Array.getD_eq_getD_getElem?, Array.getElem?_setIfInBounds, if_true]
    split <;> rfl
  · rw [getD_set_ne true e]; exact h
theorem wpAnyR_first {n i : Nat} {pre : List Nat} {oi : Oper} {v : AV} {L : Array Bool → EE → Prop} (hi : ops[i]? = some oi)
    (hs : sinkP md ops pre n = true) (hc : Region.chainB md ops n = true) (hn : n < ops.size) (hin : i < n)
    (hdone : ∀ listed E, L listed E → ∀ j ∈ Region.ready md ops listed, n ≤ j) :
    ∀ (f : Nat) (listed : Array Bool) (E : EE), HeadInv md ops n listed → (∀ i ∈ pre, listed.getD i true = true) →
      (∀ j oj, ops[j]? = some oj → j ≠ i → listed.getD j true = false → (∀ e ∈ oj.after, Region.binds md e = true → e.on ≠ i) → oi.apart ops oj = true) →
      i ∈ Region.ready md ops listed → YF P C ops σ rs i oi v E →
      wpAnyR P C md ops σ rs n L f (listed.setIfInBounds i true) (putE E oi.dst v) → wpAnyR P C md ops σ rs n L (f + 1) listed E := by
  intro f
  induction f with
  | zero =>
    intro listed E inv hp _ hr hy H
    have hun := (mem_ready.1 hr).1
    refine ⟨fun h => (by rw [h] at hr; cases hr), fun j hj => ?_⟩
    have hjn : j < n := by
      rcases Nat.lt_or_ge j n with h | h
      · exact h
      · exact absurd hj (tail_waitsP hs hc hn inv hp _ i rfl hin hun j h)
    refine ⟨hjn, ?_⟩
    by_cases hji : j = i
    · subst hji; exact ⟨oi, v, hi, hy, H⟩
    · have := hdone _ _ H j (ready_mono hj hji)
      omega
  | succ f ih =>
    intro listed E inv hp hfree hr hy H
    have hun := (mem_ready.1 hr).1
    refine ⟨fun h => (by rw [h] at hr; cases hr), fun j hj => ?_⟩
    have hjn : j < n := by
      rcases Nat.lt_or_ge j n with h | h
      · exact h
      · exact absurd hj (tail_waitsP hs hc hn inv hp _ i rfl hin hun j h)
    refine ⟨hjn, ?_⟩
    by_cases hji : j = i
    · subst hji; exact ⟨oi, v, hi, hy, H⟩
    · have h1 := (H.2 j (ready_mono hj hji)).2
      obtain ⟨hjun, oj, hoj, hall⟩ := mem_ready.1 hj
      have hnot : ∀ e ∈ oj.after, Region.binds md e = true → e.on ≠ i := fun e he hb heq => by
        have h1 := hall e he hb
        rw [heq, getD_both hun] at h1
        cases h1
      have h2 := aOpR_put hoj (hfree j oj hoj hji hjun hnot) hy h1
      have hfree' : ∀ k ok, ops[k]? = some ok → k ≠ i → (listed.setIfInBounds j true).getD k true = false →
          (∀ e ∈ ok.after, Region.binds md e = true → e.on ≠ i) → oi.apart ops ok = true := fun k ok hk hki hun hno => by
        refine hfree k ok hk hki ?_ hno
        by_cases hjk : j = k
        · subst hjk; exact hjun
        · rw [getD_set_ne true hjk] at hun; exact hun
      refine aOpR_mono (fun a' h3 => ih (listed.setIfInBounds j true) a' (inv.set hj hjn) (fun i hi => getD_set_keep (hp i hi)) hfree' (ready_mono hr (Ne.symm hji)) h3.1 ?_) h2
      rw [Array.setIfInBounds_comm _ _ hji]
      exact h3.2
def wpLexR (P : Program) (C : Ctx) (ops : Array Oper) (σ : List Ob) (rs : Res) (Q : EE → Prop) : List (Nat × Oper) → EE → Prop
  | [], E => Q E
  | (i, o) :: rest, E => ∃ v, YF P C ops σ rs i o v E ∧ wpLexR P C ops σ rs Q rest (putE E o.dst v)
def lexIdx (md : Region.Mode) (ops : Array Oper) (g n : Nat) : List Nat → Array Bool → Bool
  | [], listed => Region.seqB md ops g n listed && (List.range n).all fun j => listed.getD j false
  | k :: is, listed => (Region.ready md ops listed).contains k && Region.free md ops listed k && decide (k < n) && lexIdx md ops g n is (listed.setIfInBounds k true)
theorem wpAnyR_lex {n g : Nat} {pre : List Nat} {Lq : EE → Prop} (hs : sinkP md ops pre n = true) (hc : Region.chainB md ops n = true) (hn : n < ops.size) :
    ∀ (l : List (Nat × Oper)) (listed : Array Bool) (E : EE), (∀ p ∈ l, ops[p.1]? = some p.2) → HeadInv md ops n listed → (∀ i ∈ pre, listed.getD i true = true) →
    lexIdx md ops g n (l.map (·.1)) listed = true → wpLexR P C ops σ rs Lq l E →
    wpAnyR P C md ops σ rs n (fun listed' E' => Region.seqB md ops g n listed' = true ∧ (∀ j, j < n → listed'.getD j false = true) ∧ Lq E') l.length listed E
  | [], listed, E, _, _, _, hB, h => by
    simp only [List.map_nil, lexIdx, Bool.and_eq_true] at hB
    exact ⟨hB.1, fun j hj => List.all_eq_true.1 hB.2 j (List.mem_range.2 hj), h⟩
  | (k, o) :: l, listed, E, hl, inv, hp, hB, h => by
    have h0 : ops[k]? = some o := hl (k, o) (by simp)
    simp only [List.map_cons, lexIdx, Bool.and_eq_true, decide_eq_true_eq] at hB
    obtain ⟨⟨⟨hr, hf⟩, hkn⟩, hB'⟩ := hB
    have hr' : k ∈ Region.ready md ops listed := by simpa using hr
    obtain ⟨v, hy, hK⟩ := h
    exact wpAnyR_first h0 hs hc hn hkn (fun listed' E' hL => seqB_ready hL.1) l.length listed E inv hp (Region.free_spec h0 hf) hr' hy
      (wpAnyR_lex hs hc hn l _ _ (fun p hp => hl p (by simp [hp])) (inv.set hr' hkn) (fun i hi => getD_set_keep (hp i hi)) hB' hK)
end
structure SimR (C : Ctx) (σ : List Ob) (rs : Res) (listed : Array Bool) (E : EE) (a : Act) (w : World) : Prop where
  defers : a.defers = []
  size : a.tmps.size = C.n
  mem : ∃ φ, Good C ⟨w, φ, σ ++ res rs listed, C.ok⟩ ∧ (∀ p r, rs[p]? = some r → listed.getD r.1 false = false → φ (σ.length + p) = none) ∧ ∀ t, AV.rel ⟨w, φ, σ ++ res rs listed, C.ok⟩ (E t) (a.tmps.getD t undef)
theorem res_same {rs : Res} {listed : Array Bool} {i : Nat} (h : ∀ r ∈ rs, r.1 ≠ i) : res rs (listed.setIfInBounds i true) = res rs listed := by
  unfold res
  refine List.map_congr_left fun r hr => ?_
  unfold resOb
  rw [getD_set_ne false (Ne.symm (h r hr))]
theorem res_set {rs : Res} {listed : Array Bool} {i p : Nat} {e : TypeId} {zs : List Value} (hnd : (rs.map (·.1)).Nodup) (hp : rs[p]? = some (i, e, zs)) (hi : i < listed.size) :
    res rs (listed.setIfInBounds i true) = (res rs listed).set p ⟨e, 0, zs.map fun v => .ro (.c v)⟩ := by
  apply List.ext_getElem?
  intro j
  rw [List.getElem?_set]
  unfold res
  rw [List.getElem?_map]
  by_cases e : p = j
  · subst e
    have hlt : p < rs.length := (List.getElem?_eq_some_iff.1 hp).1
    rw [hp]
    simp [resOb, hlt, hi]
  · rw [if_neg e, List.getElem?_map]
    cases hj : rs[j]? with
    | none => rfl
    | some r =>
      simp only [Option.map_some, Option.some.injEq]
      have hne : r.1 ≠ i := by
        intro he
        have h1 : (rs.map (·.1))[p]? = some i := by simp [hp]
        have h2 : (rs.map (·.1))[j]? = some i := by simp [hj, he]
        have hpl := (List.getElem?_eq_some_iff.1 h1).1
        exact e ((List.getElem?_inj hpl hnd).1 (h1.trans h2.symm))
      unfold resOb
      rw [getD_set_ne false (Ne.symm hne)]
section
variable {P : Program} {C : Ctx} {ops : Array Oper} {σ : List Ob} {md : Region.Mode} {rs : Res} {listed : Array Bool} {E : EE} {a : Act} {w : World}
theorem ev_evE' {m : Mem} {a : Act} {E : EE} (hE : ∀ t, AV.rel m (E t) (a.tmps.getD t undef)) (x : Operand) : AV.rel m (evE E x) (a.eval x) := by
  have := ev_rel (env := []) (m := m) (a := a) (fun t => by simp [look, AV.rel]) x
  cases x with
  | tmp t => exact hE t
  | const c => cases c <;> simpa [ev, evE] using this
  | func f => simpa [ev, evE] using this
  | global g => simp [evE, AV.rel]
theorem SimR.op {Q : Exit → Act → World → Prop} {i : Nat} {o : Oper} {v : AV} {K : Act → World → Prop} (hnd : (rs.map (·.1)).Nodup) (hs : SimR C σ rs listed E a w) (hi : listed.getD i true = false) (ho : ops[i]? = some o) (hd : ∀ t, o.dst = some t → t < C.n)
    (hy : YF P C ops σ rs i o v E) (hK : ∀ a' w', SimR C σ rs (listed.setIfInBounds i true) (putE E o.dst v) a' w' → K a' w') : wpOp P ops Q i K a w := by
  obtain ⟨s1, s2, φ, hG, hφ, hE⟩ := hs
  obtain ⟨dst, op, ty, pos, after, g⟩ := o
  have putR : ∀ {φ' : Nat → Option Nat} {σ' : List Ob} {w' : World} {u : Value}, (∀ t, AV.rel ⟨w', φ', σ', C.ok⟩ (E t) (a.tmps.getD t undef)) → AV.rel ⟨w', φ', σ', C.ok⟩ v u → ∀ t, AV.rel ⟨w', φ', σ', C.ok⟩ (putE E dst v t) ((a.put dst u).tmps.getD t undef) := by
    intro φ' σ' w' u h1 h2 t
    cases dst with
    | none => exact h1 t
    | some s =>
      rw [getD_put a s t u (by rw [s2]; exact hd s rfl)]
      simp only [putE]
      split
      · exact h2
      · exact h1 t
  have szR : ∀ u, (a.put dst u).tmps.size = C.n := fun u => by cases dst <;> simp [Act.put, s2]
  have dfR : ∀ u, (a.put dst u).defers = [] := fun u => by cases dst <;> exact s1
  unfold wpOp
  simp only [ho]
  rcases hy with ⟨h0, ⟨hg, hv⟩ | ⟨hg, rfl⟩⟩ | ⟨p, e, zs, hp, hop, hgd, hds, hz, rfl⟩
  · rw [if_pos (gsay_yes hg a _ hE)]
    refine .inl (hv (res rs listed) a ⟨w, φ, σ ++ res rs listed, C.ok⟩ hG rfl (fun x _ => ev_evE' hE x) _ _ fun u w' hb hu => hK _ _ ?_)
    obtain ⟨g1, g2⟩ := good_below hG hb
    refine ⟨dfR u, szR u, φ, ?_, fun p r hp hl => hφ p r hp ?_, ?_⟩
    · rw [res_same h0]; exact g1
    · rwa [getD_set_ne false (Ne.symm (h0 r (List.mem_of_getElem? hp)))] at hl
    · rw [res_same h0]; exact putR (fun t => AV.rel_keeps g2 _ _ (AV.only_true _) (hE t)) hu
  · rw [gsay_no hg a _ hE, if_neg (by simp)]
    refine hK _ _ ⟨dfR _, szR _, φ, ?_, fun p r hp hl => hφ p r hp ?_, ?_⟩
    · rw [res_same h0]; exact hG
    · rwa [getD_set_ne false (Ne.symm (h0 r (List.mem_of_getElem? hp)))] at hl
    · rw [res_same h0]; exact putR hE (by simp [AV.rel, RV.rel])
  · simp only at hop hgd hds
    subst hop; subst hgd
    have his : i < listed.size := by
      rcases Nat.lt_or_ge i listed.size with h | h
      · exact h
      · simp [Array.getElem?_eq_none h] at hi
    have hlf : listed.getD i false = false := getD_both hi
    rw [if_pos (by simp [Region.wanted])]
    refine .inl ?_
    obtain ⟨inf, z, h1, h2, h3, h4⟩ := hz.h
    unfold Oper.wp
    have hrun : (execOp a.eval ⟨dst, .alloc e, ty, pos, after, none⟩).run P w = .ok (.value (.pointer (some ⟨w.heap.size, 0, none⟩))) (w.alloc (.cells zs.toArray e)) := by
      simp [execOp, Instr.alloc, zeroValue, typeInfo, h1, h2, newVar, newRow, newObj, h3]; rfl
    rw [hrun]
    simp only [Oper.upon]
    have hpl : p < rs.length := (List.getElem?_eq_some_iff.1 hp).1
    have hlf' : ¬ listed.getD i false = true := by rw [hlf]; simp
    have hq : (σ ++ res rs listed)[σ.length + p]? = some ⟨e, 0, []⟩ := by
      rw [List.getElem?_append_right (by omega), show σ.length + p - σ.length = p by omega]
      unfold res
      rw [List.getElem?_map, hp]
      simp only [Option.map_some, resOb]
      rw [if_neg hlf']
    have hφq := hφ p _ hp hlf
    refine hK _ _ ⟨dfR _, szR _, upd φ (σ.length + p) (some w.heap.size), ?_, fun p' r hp' hl => ?_, ?_⟩
    · have := good_fill hG hq hφq zs h4
      rwa [List.set_append_right _ _ (by omega), show σ.length + p - σ.length = p by omega, ← res_set hnd hp his] at this
    · by_cases hpp : p' = p
      · subst hpp
        rw [hp] at hp'; injection hp' with hp'; subst hp'
        simp [his] at hl
      · have hri : r.1 ≠ i := fun he => by rw [he] at hl; simp [his] at hl
        rw [getD_set_ne false (Ne.symm hri)] at hl
        rw [upd_ne (by omega)]
        exact hφ p' r hp' hl
    · have hall : ∀ t, AV.rel ⟨w.alloc (.cells zs.toArray e), upd φ (σ.length + p) (some w.heap.size), (σ ++ res rs listed).set (σ.length + p) ⟨e, 0, zs.map fun v => .ro (.c v)⟩, C.ok⟩ (E t) (a.tmps.getD t undef) := fun t => rel_fill hq hφq _ _ (hE t)
      rw [List.set_append_right _ _ (by omega), show σ.length + p - σ.length = p by omega, ← res_set hnd hp his] at hall
      refine putR hall ?_
      simp only [AV.rel]
      exact ⟨by simp [res]; omega, w.heap.size, upd_eq, rfl⟩
theorem wpAny_of_R {n g : Nat} {L : Array Bool → EE → Prop} {Q' : Exit → Act → World → Prop} (hnd : (rs.map (·.1)).Nodup) (hd : ∀ (i : Nat) o t, ops[i]? = some o → o.dst = some t → t < C.n)
    (hL : ∀ listed E a w, L listed E → SimR C σ rs listed E a w → wpAny P md ops Q' g listed a w) :
    ∀ (f : Nat) (listed : Array Bool) (E : EE) (a : Act) (w : World), SimR C σ rs listed E a w → wpAnyR P C md ops σ rs n L f listed E → wpAny P md ops Q' (f + g) listed a w
  | 0, listed, E, a, w, hs, h => by rw [Nat.zero_add]; exact hL _ _ _ _ h hs
  | f + 1, listed, E, a, w, hs, h => by
    rw [show f + 1 + g = (f + g) + 1 by omega]
    refine ⟨fun h0 => absurd h0 h.1, fun i hi => ?_⟩
    obtain ⟨o, v, ho, hy, hK⟩ := (h.2 i hi).2
    exact SimR.op hnd hs (mem_ready.1 hi).1 ho (fun t ht => hd i o t ho ht) hy fun a' w' hs' => wpAny_of_R hnd hd hL f _ _ a' w' hs' hK
end
section
variable {P : Program} {md : Region.Mode} {ops : Array Oper} {Q' : Exit → Act → World → Prop}
def isMove (o : Oper) : Bool := match o with
  | ⟨some _, .move _, _, _, _, none⟩ => true
  | _ => false
def movedTo (o : Oper) (a : Act) : Value := match o.op with
  | .move x => a.eval x
  | _ => undef
theorem run_move {o : Oper} (h : isMove o = true) (a : Act) (w : World) : Region.wanted o (yielded ops a.tmps) = true ∧ (execOp a.eval o).run P w = .ok (.value (movedTo o a)) w := by
  obtain ⟨dst, op, ty, pos, after, g⟩ := o
  unfold isMove at h
  split at h
  · rename_i he; injection he with e1 e2 e3 e4 e5 e6; subst e1; subst e2; subst e6
    exact ⟨by simp [Region.wanted], by simp [execOp, movedTo]⟩
  · cases h
theorem movedTo_put {oi oj : Oper} (hm : isMove oi = true) (a : Act) (u : Value) (h3 : ∀ d, oj.dst = some d → d ∉ oi.looksAt ops) : movedTo oi (a.put oj.dst u) = movedTo oi a := by
  obtain ⟨dst, op, ty, pos, after, g⟩ := oi
  unfold isMove at hm
  split at hm
  · rename_i x _ _ _ he; injection he with e1 e2 e3 e4 e5 e6; subst e1; subst e2; subst e6
    simp only [movedTo]
    refine Act.eval_put fun d hd hxd => h3 d hd ?_
    subst hxd
    exact List.mem_append_left _ (List.mem_filterMap.2 ⟨.tmp d, by simp [Op.operands], rfl⟩)
  · cases hm
theorem wpOp_move {F : Act → World → Prop} {j : Nat} {oi oj : Oper} (hj : ops[j]? = some oj) (hm : isMove oi = true) (hap : oi.apart ops oj = true) (hsj : ∀ cs b, oj.op ≠ .select cs b) {K K' : Act → World → Prop} {a : Act} {w : World}
    (h : wpOp P ops (nrm F) j K' (a.put oi.dst (movedTo oi a)) w) (hK : ∀ a' w', movedTo oi a' = movedTo oi a → K' (a'.put oi.dst (movedTo oi a)) w' → K a' w') : wpOp P ops (nrm F) j K a w := by
  obtain ⟨h1, h2, h3⟩ := Oper.apart_spec hap
  unfold wpOp at *
  simp only [hj] at *
  rw [wanted_put oj a oi.dst _ h1] at h
  have key : ∀ u w', K' ((a.put oi.dst (movedTo oi a)).put oj.dst u) w' → K (a.put oj.dst u) w' := fun u w' hk => hK _ _ (movedTo_put hm a u h3) (by rwa [← Act.put_comm a (movedTo oi a) u h2])
  split
  · rename_i hw
    simp only [hw, if_true] at h
    refine h.imp (fun h => ?_) (fun h => ⟨?_, h.2⟩)
    · unfold Oper.wp at *
      rw [execOp_put oj hsj a oi.dst _ h1] at h
      generalize (execOp a.eval oj).run P w = r at *
      cases r with
      | ok n w' =>
        cases n with
        | value u => exact key u w' h
        | skip => exact key undef w' h
        | enter f args => exact Calls.mono h (fun e w'' he => by cases e <;> first | exact key _ w'' he | exact he | exact he.elim)
        | row r args => exact Rows.mono h fun v w'' he => key v w'' he
        | defer d =>
          simp only [Oper.upon] at h ⊢
          have e : ({ a.put oi.dst (movedTo oi a) with defers := d :: (a.put oi.dst (movedTo oi a)).defers } : Act).put oj.dst undef = (({ a with defers := d :: a.defers } : Act).put oj.dst undef).put oi.dst (movedTo oi a) := by
            have := Act.put_comm ({ a with defers := d :: a.defers } : Act) (movedTo oi a) undef h2
            rw [← this]
            cases oi.dst <;> rfl
          rw [e] at h
          refine hK _ _ ?_ h
          have := movedTo_put (ops := ops) (oj := oj) hm ({ a with defers := d :: a.defers } : Act) undef h3
          rw [this]
          cases hop : oi.op <;> simp [movedTo, hop]
          rfl
        | _ => exact h
      | halt x w' => cases x <;> exact h
    · have := h.1
      unfold Oper.asks at this ⊢
      rwa [execOp_put oj hsj a oi.dst _ h1] at this
  · rename_i hw
    simp only [hw] at h
    exact key undef w h
theorem wpAny_move {F : Act → World → Prop} {i : Nat} {oi : Oper} (hi : ops[i]? = some oi) (hm : isMove oi = true) (hsel : ∀ (j : Nat) (o : Oper) cs b, ops[j]? = some o → o.op ≠ .select cs b) :
    ∀ (fuel : Nat) (listed : Array Bool) (a : Act) (w : World),
      (∀ j oj, ops[j]? = some oj → j ≠ i → listed.getD j true = false → (∀ e ∈ oj.after, Region.binds md e = true → e.on ≠ i) → oi.apart ops oj = true) →
      i ∈ Region.ready md ops listed →
      wpAny P md ops (nrm F) fuel (listed.setIfInBounds i true) (a.put oi.dst (movedTo oi a)) w → wpAny P md ops (nrm F) (fuel + 1) listed a w := by
  have own : ∀ {K : Act → World → Prop} {a : Act} {w : World}, K (a.put oi.dst (movedTo oi a)) w → wpOp P ops (nrm F) i K a w := by
    intro K a w h
    obtain ⟨e1, e2⟩ := run_move (P := P) (ops := ops) hm a w
    unfold wpOp
    simp only [hi]
    rw [if_pos e1]
    refine .inl ?_
    unfold Oper.wp
    rw [e2]
    exact h
  intro fuel
  induction fuel with
  | zero =>
    intro listed a w _ hr H
    refine ⟨fun h => (by rw [h] at hr; cases hr), fun j hj => ?_⟩
    by_cases hji : j = i
    · subst hji; exact own H
    · have := ready_mono hj hji
      rw [H.1] at this
      cases this
  | succ fuel ih =>
    intro listed a w hfree hr H
    refine ⟨fun h => (by rw [h] at hr; cases hr), fun j hj => ?_⟩
    by_cases hji : j = i
    · subst hji; exact own H
    · have h1 := H.2 j (ready_mono hj hji)
      obtain ⟨hjun, oj, hoj, hall⟩ := mem_ready.1 hj
      have hnot : ∀ e ∈ oj.after, Region.binds md e = true → e.on ≠ i := fun e he hb heq => by
        have h1 := hall e he hb
        have h0 := (mem_ready.1 hr).1
        rw [heq, getD_both h0] at h1
        cases h1
      have hfree' : ∀ k ok, ops[k]? = some ok → k ≠ i → (listed.setIfInBounds j true).getD k true = false →
          (∀ e ∈ ok.after, Region.binds md e = true → e.on ≠ i) → oi.apart ops ok = true := fun k ok hk hki hun hno => by
        refine hfree k ok hk hki ?_ hno
        by_cases hjk : j = k
        · subst hjk; exact hjun
        · rw [getD_set_ne true hjk] at hun; exact hun
      refine wpOp_move hoj hm (hfree j oj hoj hji hjun hnot) (fun cs b => hsel j oj cs b hoj) h1 fun a' w' he h3 => ih (listed.setIfInBounds j true) a' w' hfree' (ready_mono hr (Ne.symm hji)) ?_
      rw [he, Array.setIfInBounds_comm _ _ hji]
      exact h3
end
def pick (l : List Oper) : List Nat → List (Nat × Oper)
  | [] => []
  | i :: is => match l[i]? with
    | some o => (i, o) :: pick l is
    | none => pick l is
theorem pick_mem {l : List Oper} : ∀ {is : List Nat} {p : Nat × Oper}, p ∈ pick l is → l[p.1]? = some p.2
  | [], p, h => by simp [pick] at h
  | i :: is, p, h => by
    unfold pick at h
    split at h
    · rename_i o ho
      rcases List.mem_cons.1 h with rfl | h
      · exact ho
      · exact pick_mem h
    · exact pick_mem h
def mvE (E : EE) (o : Oper) : AV := match o.op with
  | .move x => evE E x
  | _ => .junk
def preE : EE → List (Nat × Oper) → EE
  | E, [] => E
  | E, (_, o) :: l => preE (putE E o.dst (mvE E o)) l
inductive Moved : Env → List (Nat × Oper) → Env → Prop
  | nil {env : Env} : Moved env [] env
  | cons {env env' : Env} {l : List (Nat × Oper)} {i t : Nat} {x : Operand} {v : AV} {ty : TypeId} {pos : String} {after : Array Edge} {g : Option (Nat × Bool)} : ev env x = v → Moved ((t, v) :: env) l env' → Moved env ((i, ⟨some t, .move x, ty, pos, after, g⟩) :: l) env'
theorem Moved.eq {env env' : Env} {l : List (Nat × Oper)} (h : Moved env l env') : preE (look env) l = look env' := by
  induction h with
  | nil => rfl
  | cons hx _ ih =>
    rw [← ih]
    simp only [preE, mvE, ← ev_evE, hx, ← look_putE]
def preIdx (md : Region.Mode) (ops : Array Oper) (n : Nat) : List (Nat × Oper) → Array Bool → Option (Array Bool)
  | [], listed => some listed
  | (k, o) :: is, listed => if (Region.ready md ops listed).contains k && Region.free md ops listed k && decide (k < n) && isMove o then preIdx md ops n is (listed.setIfInBounds k true) else none
def preAll (listed : Array Bool) (pre : List (Nat × Oper)) : Bool := pre.all fun p => listed.getD p.1 true
def drawTB (l : List Oper) (pre head : List Nat) (n : Nat) : Bool :=
  Region.noSelect l.toArray && decide (n < l.length) && sinkP .any l.toArray pre n && Region.chainB .any l.toArray n && decide ((pick l pre).length + (pick l head).length = n) && decide ((pick l pre).map (·.1) = pre) &&
  match preIdx .any l.toArray n (pick l pre) (Array.replicate l.length false) with
  | some listed => pre.all (fun i => listed.getD i true) && lexIdx .any l.toArray (l.length - n) n ((pick l head).map (·.1)) listed
  | none => false
section
variable {P : Program} {C : Ctx} {k : List Item} {R : Act → World → Prop} {env : Env} {σ : List Ob}
theorem wpAny_pre {F : Act → World → Prop} {ops : Array Oper} {n : Nat} (hsel : Region.noSelect ops = true) (hd : ∀ (i : Nat) o t, ops[i]? = some o → o.dst = some t → t < C.n) {w : World} {φ : Nat → Option Nat} (hG : Good C ⟨w, φ, σ, C.ok⟩) :
    ∀ (pre : List (Nat × Oper)) (listed listed' : Array Bool) (E : EE) (a : Act) (f : Nat), (∀ p ∈ pre, ops[p.1]? = some p.2) → preIdx .any ops n pre listed = some listed' → HeadInv .any ops n listed →
    a.defers = [] → a.tmps.size = C.n → (∀ t, AV.rel ⟨w, φ, σ, C.ok⟩ (E t) (a.tmps.getD t undef)) →
    (HeadInv .any ops n listed' → ∀ a', a'.defers = [] → a'.tmps.size = C.n → (∀ t, AV.rel ⟨w, φ, σ, C.ok⟩ (preE E pre t) (a'.tmps.getD t undef)) → wpAny P .any ops (nrm F) f listed' a' w) →
    wpAny P .any ops (nrm F) (pre.length + f) listed a w
  | [], listed, listed', E, a, f, _, hp, inv, s1, s2, hE, h => by
    simp only [preIdx, Option.some.injEq] at hp; subst hp
    rw [List.length_nil, Nat.zero_add]
    exact h inv a s1 s2 hE
  | (i, o) :: pre, listed, listed', E, a, f, hl, hp, inv, s1, s2, hE, h => by
    unfold preIdx at hp
    split at hp
    · rename_i hc
      simp only [Bool.and_eq_true, decide_eq_true_eq] at hc
      obtain ⟨⟨⟨hr, hf⟩, hin⟩, hm⟩ := hc
      have h0 : ops[i]? = some o := hl (i, o) (by simp)
      have hr' : i ∈ Region.ready .any ops listed := by simpa using hr
      rw [show ((i, o) :: pre).length + f = (pre.length + f) + 1 by simp; omega]
      refine wpAny_move h0 hm (Region.noSelect_spec hsel) _ listed a w (Region.free_spec h0 hf) hr' ?_
      have hmv : AV.rel ⟨w, φ, σ, C.ok⟩ (mvE E o) (movedTo o a) := by
        unfold mvE movedTo
        cases o.op <;> simp only <;> first | exact ev_evE' hE _ | simp [AV.rel]
      refine wpAny_pre hsel hd hG pre _ listed' (putE E o.dst (mvE E o)) _ f (fun p hp => hl p (by simp [hp])) hp (inv.set hr' hin) ?_ ?_ ?_ h
      · cases o.dst <;> exact s1
      · cases o.dst <;> simp [Act.put, s2]
      · intro t
        cases hdst : o.dst with
        | none => exact hE t
        | some s =>
          rw [getD_put a s t _ (by rw [s2]; exact hd i o s h0 hdst)]
          simp only [putE]
          split
          · exact hmv
          · exact hE t
    · cases hp
structure RunsT (P : Program) (C : Ctx) (ops : Array Oper) (rs : Res) (tail : List Oper) (l : List (Nat × Oper)) (k : List Item) (R : Act → World → Prop) (S : St) : Prop where
  run : wpLexR P C ops S.σ rs (fun E => ∃ env', E = look env' ∧ RunsL P C ops tail k R ⟨env', S.σ ++ full rs⟩) l (look S.env)
theorem res_none {rs : Res} {m : Nat} : ∀ (j : Nat) o, (res rs (Array.replicate m false))[j]? = some o → o.cs = [] := by
  intro j o h
  unfold res at h
  rw [List.getElem?_map, Option.map_eq_some_iff] at h
  obtain ⟨r, _, rfl⟩ := h
  unfold resOb
  rw [getD_replicate_false]
  rfl
theorem res_full {rs : Res} {listed : Array Bool} (h : ∀ r ∈ rs, listed.getD r.1 false = true) : res rs listed = full rs := by
  unfold res full
  refine List.map_congr_left fun r hr => ?_
  unfold resOb
  rw [if_pos (h r hr)]
theorem res_blank {rs : Res} {l l' : Array Bool} (h : ∀ r ∈ rs, l.getD r.1 false = l'.getD r.1 false) : res rs l = res rs l' := by
  unfold res
  refine List.map_congr_left fun r hr => ?_
  unfold resOb
  rw [h r hr]
theorem preIdx_off {ops : Array Oper} {n : Nat} {i : Nat} : ∀ (pre : List (Nat × Oper)) (listed listed' : Array Bool), preIdx .any ops n pre listed = some listed' → (∀ p ∈ pre, p.1 ≠ i) → listed'.getD i false = listed.getD i false
  | [], listed, listed', h, _ => by simp only [preIdx, Option.some.injEq] at h; rw [h]
  | (k, o) :: pre, listed, listed', h, hp => by
    unfold preIdx at h
    split at h
    · rw [preIdx_off pre _ listed' h fun p hq => hp p (by simp [hq]), getD_set_ne false (hp (k, o) (by simp))]
    · cases h
theorem Runs.drawT {id : Nat} {l : List Oper} {cn : Nat} {env' : Env} (pre head : List Nat) (n : Nat) (rs : Res) (hf : P.follows .mixedOrders = true) (hn : C.n = cn) (hB : drawTB l pre head n = true) (hd : dstOk cn l = true)
    (hpre : Moved env (pick l pre) env') (hnd : (rs.map (·.1)).Nodup) (hrs : ∀ r ∈ rs, r.1 < n) (hrp : ∀ r ∈ rs, ∀ p ∈ pre, p ≠ r.1)
    (h : RunsT P C l.toArray rs (l.drop n) (pick l head) k R ⟨env', σ⟩) : Runs P C (.code (.region id l.toArray true) :: k) R ⟨env, σ⟩ := by
  refine ⟨fun a w hs => Fin.of_wp (wp_region_any hf ?_)⟩
  unfold drawTB at hB
  simp only [Bool.and_eq_true, decide_eq_true_eq] at hB
  obtain ⟨⟨⟨⟨⟨⟨hsel, hnl⟩, hsk⟩, hch⟩, hlen⟩, hpm⟩, hx⟩ := hB
  split at hx
  · rename_i listed hli
    simp only [Bool.and_eq_true] at hx
    obtain ⟨hpa, hlex⟩ := hx
    obtain ⟨s1, s2, φ, hG, hE⟩ := hs
    have hb : Below w.heap.size w { w with drawn := w.drawn + 1 } := ⟨rfl, rfl, rfl, Nat.le_refl _, fun _ _ => rfl⟩
    obtain ⟨g1, g2⟩ := good_below hG hb
    -- the places that are kept for what is allocated
    let φ0 : Nat → Option Nat := fun i => if i < σ.length then φ i else none
    have hφ0 : ∀ j, φ0 (σ.length + j) = none := fun j => if_neg (by omega)
    obtain ⟨G1, G2⟩ := good_grow (φ' := φ0) (new := res rs (Array.replicate l.length false)) g1 (Below.refl _ _) (fun i hi => if_pos hi) (fun j hj g hg => by rw [hφ0] at hg; cases hg) (fun i j g hi hj e1 e2 => by rw [hφ0] at e1; cases e1) (fun j o hj => by rw [hφ0]; exact res_none j o hj)
    have hE1 : ∀ t, AV.rel ⟨{ w with drawn := w.drawn + 1 }, φ0, σ ++ res rs (Array.replicate l.length false), C.ok⟩ (look env t) (a.tmps.getD t undef) := fun t => AV.rel_keeps G2 _ _ (AV.only_true _) (AV.rel_keeps g2 _ _ (AV.only_true _) (hE t))
    have hdd : ∀ (i : Nat) o t, l.toArray[i]? = some o → o.dst = some t → t < C.n := fun i o t hi ht => by rw [hn]; exact dstOk_at hd i o t (by simpa using hi) ht
    have inv0 : HeadInv .any l.toArray n (Array.replicate l.length false) :=
      ⟨by simp, fun j oj _ hl => (by rw [getD_replicate_false] at hl; cases hl), fun t _ ht => getD_in (by simpa using ht) (getD_replicate_false _ _)⟩
    have hmemP : ∀ p ∈ pick l pre, l.toArray[p.1]? = some p.2 := fun p hp => by simpa using pick_mem hp
    have hmemH : ∀ p ∈ pick l head, l.toArray[p.1]? = some p.2 := fun p hp => by simpa using pick_mem hp
    have hsz : l.toArray.size = (pick l pre).length + ((pick l head).length + (l.length - n)) := by simp; omega
    refine (show ∀ m, m = l.toArray.size → wpAny P .any l.toArray (nrm (Fin P k R)) m (Array.replicate l.toArray.size false) a { w with drawn := w.drawn + 1 } from ?_) _ rfl
    intro m hm
    obtain rfl := hm.trans hsz
    refine wpAny_pre (σ := σ ++ res rs (Array.replicate l.length false)) hsel hdd G1 (pick l pre) (Array.replicate l.toArray.size false) listed (look env) a _ hmemP (by simpa using hli) (by simpa using inv0) s1 s2 hE1 fun inv a' t1 t2 hE' => ?_
    have hE2 : preE (look env) (pick l pre) = look env' := hpre.eq
    rw [hE2] at hE'
    have hprel : ∀ i ∈ pre, listed.getD i true = true := fun i hi => List.all_eq_true.1 hpa i hi
    have hoff : ∀ r ∈ rs, listed.getD r.1 false = (Array.replicate l.length false).getD r.1 false := fun r hr => preIdx_off _ _ _ hli fun p hp => by
      refine hrp r hr p.1 ?_
      rw [← hpm]; exact List.mem_map_of_mem hp
    have hres : res rs (Array.replicate l.length false) = res rs listed := res_blank fun r hr => (hoff r hr).symm
    rw [hres] at hE' G1
    have H := wpAnyR_lex (P := P) (C := C) (σ := σ) (md := .any) (ops := l.toArray) (g := l.length - n) hsk hch (by simpa using hnl) (pick l head) listed (look env') hmemH inv hprel hlex h.run
    refine wpAny_of_R hnd hdd (fun listed' E' a'' w'' hL hS => ?_) _ listed (look env') a' _ ⟨t1, t2, φ0, G1, fun p r _ _ => hφ0 p, hE'⟩ H
    obtain ⟨hsq, hall, env'', rfl, hR⟩ := hL
    have hfl := res_full (rs := rs) (listed := listed') fun r hr => hall r.1 (hrs r hr)
    obtain ⟨u1, u2, φ', G', _, hE''⟩ := hS
    rw [hfl] at G' hE''
    have := wpAny_of_seq (md := .any) (Q' := nrm (Fin P k R)) (l.drop n) n listed' a'' w'' (fun j => by simp [List.getElem?_drop]) (by rw [List.length_drop]; exact hsq) (hR.run a'' w'' ⟨u1, u2, φ', G', hE''⟩)
    rwa [List.length_drop] at this
  · cases hx
variable {ops : Array Oper} {rs : Res} {tail : List Oper} {rest : List (Nat × Oper)} {i t : Nat} {o : Oper}
theorem Runs.toDrawT {id : Nat} {l : List Oper} {k' : List Item} {cn : Nat} {env' : Env} (m : Nat) (pre head : List Nat) (n : Nat) (rs : Res) (hf : P.follows .mixedOrders = true) (hn : C.n = cn) (hc : Proofs.Ytdikinkihnepaaa.ctls m k = .code (.region id l.toArray true) :: k') (hB : drawTB l pre head n = true) (hd : dstOk cn l = true)
    (hpre : Moved env (pick l pre) env') (hnd : (rs.map (·.1)).Nodup) (hrs : ∀ r ∈ rs, r.1 < n) (hrp : ∀ r ∈ rs, ∀ p ∈ pre, p ≠ r.1)
    (h : RunsT P C l.toArray rs (l.drop n) (pick l head) k' R ⟨env', σ⟩) : Runs P C k R ⟨env, σ⟩ := Runs.ctls m hc (Runs.drawT pre head n rs hf hn hB hd hpre hnd hrs hrp h)
theorem RunsT.nil (h : RunsL P C ops tail k R ⟨env, σ ++ full rs⟩) : RunsT P C ops rs tail [] k R ⟨env, σ⟩ := ⟨⟨env, rfl, h⟩⟩
theorem RunsT.pur {v : AV} (h : ∀ more, Pur P C o env (σ ++ more) v) (hi : ∀ r ∈ rs, r.1 ≠ i) (hg : gsay ops env o.guard = some true) (hd : o.dst = some t) (hk : RunsT P C ops rs tail rest k R ⟨(t, v) :: env, σ⟩) : RunsT P C ops rs tail ((i, o) :: rest) k R ⟨env, σ⟩ := by
  refine ⟨v, .inl ⟨hi, .inl ⟨hg, fun more => (h more).toF⟩⟩, ?_⟩
  rw [hd, show (⟨env, σ⟩ : St).env = env from rfl, ← look_putE]
  exact hk.run
theorem RunsT.alloc {p : Nat} {e : TypeId} {zs : List Value} {ty : TypeId} {pos : String} {after : Array Edge} (hr : rs[p]? = some (i, e, zs)) (hz : TZ P e zs) (hk : RunsT P C ops rs tail rest k R ⟨(t, .obj (σ.length + p) 0) :: env, σ⟩) :
    RunsT P C ops rs tail ((i, ⟨some t, .alloc e, ty, pos, after, none⟩) :: rest) k R ⟨env, σ⟩ := by
  refine ⟨.obj (σ.length + p) 0, .inr ⟨p, e, zs, hr, rfl, rfl, rfl, hz, rfl⟩, ?_⟩
  rw [show (⟨env, σ⟩ : St).env = env from rfl, ← look_putE]
  exact hk.run
theorem RunsT.off (hi : ∀ r ∈ rs, r.1 ≠ i) (hg : gsay ops env o.guard = some false) (hd : o.dst = some t) (hk : RunsT P C ops rs tail rest k R ⟨(t, .ro (.c undef)) :: env, σ⟩) : RunsT P C ops rs tail ((i, o) :: rest) k R ⟨env, σ⟩ := by
  refine ⟨.ro (.c undef), .inl ⟨hi, .inr ⟨hg, rfl⟩⟩, ?_⟩
  rw [hd, show (⟨env, σ⟩ : St).env = env from rfl, ← look_putE]
  exact hk.run
theorem RunsT.step {T : Tab} (hT : TabOk P T) {v : AV} (hd : o.dst = some t) (hg : gsay ops env o.guard = some true) (h : ∀ more, aop T env (σ ++ more) o.op = some v) (hi : ∀ r ∈ rs, r.1 ≠ i) (hk : RunsT P C ops rs tail rest k R ⟨(t, v) :: env, σ⟩) : RunsT P C ops rs tail ((i, o) :: rest) k R ⟨env, σ⟩ := by
  obtain ⟨dst, op, ty, pos, after, g⟩ := o
  simp only at hd; subst hd
  exact RunsT.pur (fun more => pu_auto hT (h more)) hi hg rfl hk
end
end Go.Proofs.Ytdikinkihnepaaa
/- Regions that draw their order, whose operations ahead of some place leave the world alone, and whose rest stands in the text's order: walked as the text says. Over any program. -/
namespace Go.Proofs.Ytdikinkihnepaaa
set_option linter.unusedSimpArgs false
set_option linter.unusedVariables false
open Go.RowKit
open AV (Mem Keeps)
def Kp {α : Type} (s : Sem α) : Prop := ∀ (P : Program) (w : World) (x : α) (w' : World), s.run P w = .ok x w' → w' = w
theorem Kp.pure {α : Type} (a : α) : Kp (Pure.pure a : Sem α) := fun P w x w' h => by
  rw [Sem.run_pure] at h; injection h with _ h; exact h.symm
theorem Kp.bind {α β : Type} {s : Sem α} {f : α → Sem β} (h : Kp s) (hf : ∀ a, Kp (f a)) : Kp (s >>= f) := fun P w x w' e => by
  rw [Sem.run_bind] at e
  cases hs : s.run P w with
  | ok a w1 =>
    rw [hs] at e
    simp only [Result.andThen_ok] at e
    have h1 := h P w a w1 hs
    subst h1
    exact hf a P w1 x w' e
  | halt q w1 => rw [hs] at e; cases e
theorem Kp.stuck {α : Type} (s : String) : Kp (stuck s : Sem α) := fun P w x w' h => by cases h
theorem Kp.unsup {α : Type} (s : Unsupported) : Kp (unsupported s : Sem α) := fun P w x w' h => by cases h
theorem Kp.program : Kp program := fun P w x w' h => by rw [run_program] at h; injection h with _ h; exact h.symm
theorem Kp.load (a : Addr) (m : Mode) : Kp (load a m) := fun P w x w' h => by
  unfold Go.load Sem.run at h
  split at h
  · injection h with _ h; exact h.symm
  · split at h
    · injection h with _ h; exact h.symm
    · cases h
theorem Kp.typeInfo (t : TypeId) : Kp (typeInfo t) := Kp.bind Kp.program fun p => by
  split
  · exact Kp.pure _
  · exact Kp.stuck _
theorem Kp.underlying (t : TypeId) : Kp (underlying t) := Kp.bind Kp.program fun p => by
  split
  · exact Kp.pure _
  · exact Kp.stuck _
theorem Kp.sizeOf (t : TypeId) : Kp (sizeOf t) := Kp.bind (Kp.typeInfo t) fun _ => Kp.pure _
theorem Kp.isAgg (t : TypeId) : Kp (isAgg t) := Kp.bind (Kp.underlying t) fun _ => by
  split <;> exact Kp.pure _
theorem Kp.sureAddr (x : Value) : Kp (Instr.sureAddr x) := by
  unfold Instr.sureAddr
  split
  · exact Kp.pure _
  · exact Kp.stuck _
theorem Kp.loadCells (a : Addr) : ∀ (n i : Nat) (acc : Array Value), Kp (loadCellsFrom a i n acc)
  | 0, i, acc => Kp.pure _
  | n + 1, i, acc => Kp.bind (Kp.load _ _) fun v => Kp.loadCells a n (i + 1) _
theorem Kp.loadAt (t : TypeId) (x : Value) : Kp (Instr.loadAt t x) := Kp.bind (Kp.sureAddr x) fun a => Kp.bind (Kp.isAgg t) fun b => by
  split
  · exact Kp.bind (Kp.sizeOf t) fun n => Kp.bind (Kp.loadCells a n 0 _) fun _ => Kp.pure _
  · exact Kp.load _ _
def No {α : Type} (s : Sem α) : Prop := ∀ (P : Program) (w : World) (x : α) (w' : World), s.run P w ≠ .ok x w'
theorem No.kp {α : Type} {s : Sem α} (h : No s) : Kp s := fun P w x w' e => absurd e (h P w x w')
theorem No.bind {α β : Type} {s : Sem α} {f : α → Sem β} (hf : ∀ a, No (f a)) : No (s >>= f) := fun P w x w' e => by
  rw [Sem.run_bind] at e
  cases hs : s.run P w with
  | ok a w1 =>
    rw [hs] at e
    simp only [Result.andThen_ok] at e
    exact hf a P w1 x w' e
  | halt q w1 => rw [hs] at e; cases e
theorem No.nil {α : Type} : No (runtimePanic .nilDeref : Sem α) := No.bind fun p P w x w' h => by cases h
theorem No.bounds {α : Type} (k : IntKind) (x y : Int) (c : BoundsCode) : No (boundsPanic k x y c : Sem α) := by
  have key : ∀ b, No (runtimePanic (.bounds (IntKind.i64.wrap x) y b c) : Sem α) := fun b => by
    unfold runtimePanic
    refine No.bind fun p => ?_
    intro P w x w' h
    simp only [goPanic, Sem.run_halt] at h
    cases h
  unfold boundsPanic
  dsimp only
  split
  · exact No.bind fun b => key _
  · exact No.bind fun b => key _
theorem Kp.asIntOf (v : Value) : Kp (asIntOf v) := by
  unfold Go.asIntOf
  split
  · exact Kp.pure _
  · exact Kp.unsup _
  · exact Kp.stuck _
theorem Kp.bound (x : Value) (y : Nat) (c : BoundsCode) : Kp (Instr.sliceBound x y c) := Kp.bind (Kp.asIntOf x) fun ⟨k, i⟩ => by
  simp only
  split
  · exact Kp.pure _
  · exact (No.bounds _ _ _ _).kp
theorem Kp.bounds (b : Bool) (l c : Nat) (lo hi mx : Option Value) : Kp (Instr.sliceBounds b l c lo hi mx) := by
  unfold Instr.sliceBounds
  dsimp only
  have k3 : ∀ (m h : Nat), Kp (match lo with | some v => (do let l ← Instr.sliceBound v h (if mx.isSome = true then BoundsCode.slice3C else BoundsCode.sliceB); Pure.pure (l, h, m) : Sem (Nat × Nat × Nat)) | none => (do let l ← Pure.pure 0; Pure.pure (l, h, m))) := fun m h => by
    split
    · exact Kp.bind (Kp.bound _ _ _) fun _ => Kp.pure _
    · exact Kp.bind (Kp.pure _) fun _ => Kp.pure _
  split
  · refine Kp.bind (Kp.bound _ _ _) fun m => ?_
    split
    · exact Kp.bind (Kp.bound _ _ _) fun h => k3 _ _
    · exact Kp.bind (Kp.bound _ _ _) fun h => k3 _ _
    · exact Kp.bind (Kp.pure _) fun h => k3 _ _
    · exact Kp.bind (Kp.stuck _) fun h => k3 _ _
  · refine Kp.bind (Kp.pure _) fun m => ?_
    split
    · exact Kp.bind (Kp.bound _ _ _) fun h => k3 _ _
    · exact Kp.bind (Kp.bound _ _ _) fun h => k3 _ _
    · exact Kp.bind (Kp.pure _) fun h => k3 _ _
    · exact Kp.bind (Kp.stuck _) fun h => k3 _ _
theorem Kp.asAddr (x : Value) : Kp (asAddr x) := by
  unfold Go.asAddr
  split
  · exact Kp.pure _
  · exact No.nil.kp
  · exact Kp.stuck _
theorem Kp.slice (t : TypeId) (x : Value) (lo hi mx : Option Value) : Kp (Instr.slice t x lo hi mx) := by
  unfold Instr.slice
  refine Kp.bind (Kp.underlying t) fun u => ?_
  split
  · split
    · exact Kp.bind (Kp.stuck _) fun _ => Kp.bind (Kp.bounds _ _ _ _ _ _) fun ⟨_, _, _⟩ => Kp.pure _
    · exact Kp.bind (Kp.bounds _ _ _ _ _ _) fun ⟨_, _, _⟩ => Kp.pure _
  · exact Kp.bind (Kp.bounds _ _ _ _ _ _) fun ⟨_, _, _⟩ => Kp.bind (Kp.sizeOf _) fun _ => Kp.pure _
  · refine Kp.bind (Kp.asAddr _) fun a => Kp.bind (Kp.underlying _) fun d => ?_
    split
    · exact Kp.bind (Kp.bounds _ _ _ _ _ _) fun ⟨_, _, _⟩ => Kp.bind (Kp.sizeOf _) fun _ => Kp.pure _
    · exact Kp.stuck _
  · exact Kp.stuck _
theorem Kp.sliceAt (t : TypeId) (x : Value) (lo hi mx : Option Value) : Kp (Instr.sliceAt t x lo hi mx) := by
  unfold Instr.sliceAt
  refine Kp.bind (Kp.underlying t) fun u => ?_
  split
  · exact Kp.bind (Kp.sureAddr _) fun a => Kp.bind (Kp.bounds _ _ _ _ _ _) fun ⟨_, _, _⟩ => Kp.bind (Kp.sizeOf _) fun _ => Kp.pure _
  · exact Kp.slice _ _ _ _ _
theorem Kp.getShape (r : Nat) : Kp (shape r) := fun P w x w' h => by
  simp only [shape, Sem.run] at h
  injection h with _ h; exact h.symm
theorem Kp.getObj (r : Nat) : Kp (getObj r) := fun P w x w' h => by
  unfold Go.getObj Sem.run at h
  split at h
  · cases h
  · simp only [Sem.run] at h; injection h with _ h; exact h.symm
  · cases h
theorem Kp.noView (a : Addr) : Kp (noView a) := by
  unfold Go.noView viewAt
  refine Kp.bind (Kp.bind (Kp.getShape _) fun sh => ?_) fun o => ?_
  · split
    · exact Kp.pure _
    · refine Kp.bind (Kp.getObj _) fun o => ?_
      split <;> exact Kp.pure _
  · split
    · exact Kp.unsup _
    · exact Kp.pure _
theorem Kp.byteOf (a : Addr) : Kp (byteOf a) := by
  unfold Go.byteOf
  dsimp only
  split
  · exact Kp.pure _
  · refine Kp.bind Kp.program fun p => Kp.bind (Kp.noView a) fun _ => Kp.bind (Kp.getShape _) fun sh => ?_
    split
    · split
      · exact Kp.pure _
      · split
        · exact Kp.pure _
        · exact Kp.stuck _
    · exact Kp.stuck _
theorem Kp.place (a : Addr) (f : Field) : Kp (fieldPlace a f) := by
  unfold fieldPlace
  refine Kp.bind (Kp.sizeOf _) fun n => ?_
  split
  · exact Kp.bind (Kp.byteOf _) fun _ => Kp.bind (Kp.byteOf _) fun _ => Kp.pure _
  · exact Kp.pure _
theorem Kp.fieldAt (s : TypeId) (x : Value) (f : Nat) : Kp (Instr.fieldAt s x f) := by
  unfold Instr.fieldAt
  refine Kp.bind (Kp.underlying s) fun u => ?_
  split
  · split
    · exact Kp.bind (Kp.sureAddr x) fun a => Kp.bind (Kp.place a _) fun _ => Kp.pure _
    · exact Kp.stuck _
  · exact Kp.stuck _
theorem Kp.part (t : TypeId) (cs : Array Value) (off : Nat) : Kp (part t cs off) := by
  unfold Go.part
  refine Kp.bind (Kp.isAgg t) fun b => ?_
  split
  · exact Kp.bind (Kp.sizeOf _) fun _ => Kp.pure _
  · split
    · exact Kp.pure _
    · exact Kp.stuck _
theorem Kp.followBlind : ∀ (l : List FieldStep) (t : TypeId) (x : Option Value), Kp (Go.followBlind l t x)
  | [], t, x => Kp.pure _
  | s :: rest, t, x => by
    unfold Go.followBlind
    refine Kp.bind (Kp.underlying _) fun u => ?_
    split
    · split
      · split
        · exact Kp.pure _
        · exact Kp.followBlind rest _ _
        · exact Kp.stuck _
        · exact Kp.pure _
        · exact Kp.bind (Kp.part _ _ _) fun _ => Kp.followBlind rest _ _
        · exact Kp.stuck _
        · exact Kp.followBlind rest _ _
      · exact Kp.stuck _
    · exact Kp.stuck _
theorem Kp.nilAhead : ∀ (n : Nat) (t : TypeId) (v : Value) (name : String), Kp (Go.nilAhead n t v name)
  | 0, _, _, _ => Kp.pure _
  | n + 1, t, v, name => by
    unfold Go.nilAhead
    refine Kp.bind (Kp.typeInfo _) fun ti => ?_
    split
    · refine Kp.bind (Kp.followBlind _ _ _) fun e => ?_
      split
      · exact Kp.pure _
      · split
        · exact Kp.nilAhead n _ _ _
        · exact Kp.pure _
        · exact Kp.stuck _
        · exact Kp.pure _
        · exact Kp.pure _
        · refine Kp.bind (Kp.underlying _) fun u => ?_
          split <;> exact Kp.pure _
    · exact Kp.stuck _
def stillOp (o : Oper) : Bool := match o.op with
  | .move _ | .assign _ | .load _ _ | .fieldAddr _ _ _ | .slice _ _ _ _ _ | .nilCheck _ => true
  | _ => false
structure KpV (s : Sem Next) : Prop where
  keep : Kp s
  val : ∀ (P : Program) (w : World) (x : Next) (w' : World), s.run P w = .ok x w' → ∃ v, x = .value v
theorem KpV.bind {α : Type} {s : Sem α} {f : α → Sem Next} (h : Kp s) (hf : ∀ a, KpV (f a)) : KpV (s >>= f) := ⟨Kp.bind h fun a => (hf a).keep, fun P w x w' e => by
  rw [Sem.run_bind] at e
  cases hs : s.run P w with
  | ok a w1 => rw [hs] at e; simp only [Result.andThen_ok] at e; exact (hf a).val P w1 x w' e
  | halt q w1 => rw [hs] at e; cases e⟩
theorem KpV.pure (v : Value) : KpV (Pure.pure (.value v) : Sem Next) := ⟨Kp.pure _, fun P w x w' e => by rw [Sem.run_pure] at e; injection e with e; exact ⟨v, e.symm⟩⟩
theorem KpV.of {s : Sem Value} (h : Kp s) : KpV (do Pure.pure (.value (← s)) : Sem Next) := KpV.bind h fun v => KpV.pure v
theorem KpV.no {s : Sem Next} (h : No s) : KpV s := ⟨h.kp, fun P w x w' e => absurd e (h P w x w')⟩
theorem KpV.unsup (u : Unsupported) : KpV (unsupported u : Sem Next) := KpV.no fun P w x w' h => by cases h
theorem stillOp_kp {o : Oper} (h : stillOp o = true) (ev : Operand → Value) : KpV (execOp ev o) := by
  obtain ⟨dst, op, ty, pos, after, g⟩ := o
  unfold stillOp at h
  cases op <;> simp only [Bool.false_eq_true] at h
  case move x => exact KpV.pure _
  case assign x => exact KpV.pure _
  case load t x => exact KpV.of (Kp.loadAt _ _)
  case fieldAddr s x f => exact KpV.of (Kp.fieldAt _ _ _)
  case slice t x lo hi mx => exact KpV.of (Kp.sliceAt _ _ _ _ _)
  case nilCheck x =>
    unfold execOp
    dsimp only
    split
    · exact KpV.no No.nil
    · exact KpV.no No.nil
    · exact KpV.no No.nil
    · split
      · exact KpV.no No.nil
      · refine KpV.bind Kp.program fun p => KpV.bind (Kp.nilAhead _ _ _ _) fun b => ?_
        split
        · exact KpV.bind (Kp.unsup _) fun _ => KpV.pure _
        · exact KpV.pure _
      · exact KpV.pure _
    · exact KpV.pure _
section
variable {P : Program} {C : Ctx} {k : List Item} {R : Act → World → Prop} {env : Env} {σ : List Ob}
theorem still_of_list {ops : Array Oper} {F : Act → World → Prop} {w : World} {tail : List Oper} : ∀ (head : List Oper) (a : Act), (head.all fun o => stillOp o && o.guard.isNone) = true →
    wpList P ops (nrm F) (head ++ tail) a w → wpStill P ops w (fun a' => wpList P ops (nrm F) tail a' w) head a
  | [], a, _, h => h
  | o :: head, a, hs, h => by
    simp only [List.all_cons, Bool.and_eq_true] at hs
    obtain ⟨⟨hs1, hg⟩, hs2⟩ := hs
    have hw : Region.wanted o (yielded ops a.tmps) = true := by
      have : o.guard = none := by simpa using hg
      simp [Region.wanted, this]
    have hk := stillOp_kp hs1 a.eval
    have hno : ¬ LetsOut (nrm F) := fun ⟨_, _, h⟩ => h
    rw [List.cons_append] at h
    unfold wpList at h
    unfold wpStill
    rw [if_pos hw] at h ⊢
    have h := h.resolve_right fun h => hno h.2
    unfold Oper.wp at h
    unfold Oper.still
    cases hr : (execOp a.eval o).run P w with
    | ok x w' =>
      obtain ⟨v, rfl⟩ := hk.val P w x w' hr
      have := hk.keep P w _ w' hr
      subst this
      rw [hr] at h
      simp only [Oper.upon] at h
      simp only [Oper.stillUpon]
      exact ⟨trivial, still_of_list head _ hs2 h⟩
    | halt q w' =>
      rw [hr] at h
      cases q <;> first | exact h.elim | exact h
theorem Runs.toStill {id : Nat} {l : List Oper} {k' : List Item} (m n : Nat) (hf : P.follows .mixedOrders = true) (hc : Proofs.Ytdikinkihnepaaa.ctls m k = .code (.region id l.toArray true) :: k') (hB : Region.lexTailB .any l.toArray n = true)
    (hs : ((l.take n).all fun o => stillOp o && o.guard.isNone) = true) (h : RunsL P C l.toArray l k' R ⟨env, σ⟩) : Runs P C k R ⟨env, σ⟩ :=
  Runs.ctls m hc ⟨fun a w hs' => Fin.of_wp (wp_region_still_tail n hf hB (still_of_list _ _ hs (by
    rw [List.take_append_drop]
    obtain ⟨s1, s2, φ, hG, hE⟩ := hs'
    have hb : Below w.heap.size w { w with drawn := w.drawn + 1 } := ⟨rfl, rfl, rfl, Nat.le_refl _, fun _ _ => rfl⟩
    obtain ⟨g1, g2⟩ := good_below hG hb
    exact h.run a _ ⟨s1, s2, φ, g1, hE.keeps g2⟩)))⟩
end
end Go.Proofs.Ytdikinkihnepaaa
/- Regions that draw their order, in which operations that look come late, and draws stand in a chain. Over any program. -/
namespace Go.Proofs.Ytdikinkihnepaaa
set_option linter.unusedSimpArgs false
set_option linter.unusedVariables false
open Go.RowKit
open AV (Mem Keeps)
abbrev IOq := Nat × Oper
abbrev LO := Nat × Oper × Nat × AV
def tmpsOf (o : Oper) : List Nat := o.op.operands.toList.filterMap fun | .tmp t => some t | _ => none
def waitsB (o : Oper) (i : Nat) : Bool := o.after.any fun e => Region.binds .any e && Nat.beq e.on i
def edgesIn (o : Oper) (q : Nat → Bool) : Bool := o.after.all fun e => !Region.binds .any e || q e.on
def memI (H : List IOq) (i : Nat) : Bool := H.any fun p => Nat.beq p.1 i
def keysOf (H : List IOq) : List Nat := H.flatMap fun p => tmpsOf p.2 ++ p.2.dst.toList
def needB (H : List IOq) (o : Oper) : Bool := H.all fun q => (tmpsOf o).all fun s => (match q.2.dst with | some d => !(Nat.beq d s) | none => true) || waitsB o q.1
def chainI : List IOq → Bool
  | [] => true
  | [_] => true
  | p :: q :: r => waitsB q.2 p.1 && chainI (q :: r)
def progT (H : List IOq) : List IOq → List IOq → Bool
  | _, [] => true
  | old, p :: r => edgesIn p.2 (fun j => memI H j || memI old j) && progT H (p :: old) r
def atI (l : List Oper) (H : List IOq) : Prop := ∀ p ∈ H, l[p.1]? = some p.2
def lateB (n : Nat) (H T : List IOq) : Bool :=
  (H.all fun p => needB H p.2 && p.2.guard.isNone && p.2.dst.isSome && edgesIn p.2 (fun j => Nat.ble (j + 1) p.1 && memI H j)) &&
  (T.all fun p => needB H p.2 && !(memI H p.1) && (match p.2.dst with | some d => !((keysOf H).contains d) | none => true)) &&
  chainI T && progT H [] T && ((List.range n).all fun i => memI H i || memI T i)
section
variable {P : Program} {C : Ctx} {l : List Oper} {H T : List IOq} {k : List Item} {R : Act → World → Prop} {ct : TypeId} {u : Value} {more : List Ob}
theorem memI_iff {H : List IOq} {i : Nat} : memI H i = true ↔ ∃ p ∈ H, p.1 = i := by
  simp only [memI, List.any_eq_true]
  constructor
  · rintro ⟨p, hp, e⟩; exact ⟨p, hp, Nat.eq_of_beq_eq_true e⟩
  · rintro ⟨p, hp, rfl⟩; exact ⟨p, hp, Nat.beq_refl _⟩
theorem waitsB_iff {o : Oper} {i : Nat} : waitsB o i = true ↔ ∃ e ∈ o.after, Region.binds .any e = true ∧ e.on = i := by
  unfold waitsB
  rw [Array.any_eq_true']
  constructor
  · rintro ⟨e, he, h⟩
    rw [Bool.and_eq_true] at h
    exact ⟨e, he, h.1, Nat.eq_of_beq_eq_true h.2⟩
  · rintro ⟨e, he, h, rfl⟩
    exact ⟨e, he, by rw [Bool.and_eq_true]; exact ⟨h, Nat.beq_refl _⟩⟩
theorem edgesIn_iff {o : Oper} {q : Nat → Bool} : edgesIn o q = true ↔ ∀ e ∈ o.after, Region.binds .any e = true → q e.on = true := by
  unfold edgesIn
  rw [Array.all_eq_true_iff_forall_mem]
  constructor
  · intro h e he hb
    have := h e he
    simpa [hb] using this
  · intro h e he
    cases hb : Region.binds .any e
    · simp
    · simp [h e he hb]
def PurT (P : Program) (C : Ctx) (ct : TypeId) (u : Value) (more : List Ob) (E : Nat → AV) (p : LO) : Prop :=
  ∀ (a : Act) (m : Mem) (i h : Int), Good C m → m.σ = curOb ct u i h :: more → (∀ s ∈ tmpsOf p.2.1, AV.rel m (E s) (a.tmps.getD s undef)) → ∀ (K : Act → World → Prop) (Q : Exit → Act → World → Prop),
    (∀ x w', Below m.w.heap.size m.w w' → AV.rel { m with w := w' } p.2.2.2 x → K (a.put p.2.1.dst x) w') → p.2.1.wp P a m.w K Q
structure LFact (P : Program) (C : Ctx) (ct : TypeId) (u : Value) (more : List Ob) (E : Nat → AV) (p : LO) : Prop where
  pur : PurT P C ct u more E p
  val : E p.2.2.1 = p.2.2.2
  dst : p.2.1.dst = some p.2.2.1
  lt : p.2.2.1 < C.n
def maskE (pd : List LO) (env : Env) (t : Nat) : AV := if pd.any (fun p => Nat.beq p.2.2.1 t) then .junk else look env t
def SimM (C : Ctx) (E : Nat → AV) (σ : List Ob) (a : Act) (w : World) : Prop :=
  a.defers = [] ∧ a.tmps.size = C.n ∧ ∃ φ, Good C ⟨w, φ, σ, C.ok⟩ ∧ ∀ t, AV.rel ⟨w, φ, σ, C.ok⟩ (E t) (a.tmps.getD t undef)
theorem mem_keys {H : List IOq} {p : IOq} {s : Nat} (hp : p ∈ H) (hs : s ∈ tmpsOf p.2) : s ∈ keysOf H := List.mem_flatMap.2 ⟨p, hp, List.mem_append_left _ hs⟩
theorem mem_keys_dst {H : List IOq} {p : IOq} {s : Nat} (hp : p ∈ H) (hs : p.2.dst = some s) : s ∈ keysOf H := List.mem_flatMap.2 ⟨p, hp, List.mem_append_right _ (by simp [hs])⟩
theorem mem_operand {o : Oper} {s : Nat} (h : Operand.tmp s ∈ o.op.operands) : s ∈ tmpsOf o := by
  simp only [tmpsOf, List.mem_filterMap]
  exact ⟨.tmp s, by simpa using h, rfl⟩
theorem ev_tmps {m : Mem} {env : Env} {o : Oper} {a : Act} (h : ∀ s ∈ tmpsOf o, AV.rel m (look env s) (a.tmps.getD s undef)) : ∀ x ∈ o.op.operands, AV.rel m (ev env x) (a.eval x) := by
  intro x hx
  cases x with
  | tmp t => exact h t (mem_operand hx)
  | const v =>
    have h := const_rel (w := m.w) (ok := m.ok) v
    cases v <;> simpa only [ev, AV.rel, Act.eval, constRV] using h
  | func f => simp only [ev, AV.rel, Act.eval]; exact ⟨#[], #[], rfl, by simp [AV.rels], by simp [AV.rels]⟩
  | global g => simp [ev, AV.rel]
theorem wpOp_at {ops : Array Oper} {Q : Exit → Act → World → Prop} {K : Act → World → Prop} {i : Nat} {o : Oper} {a : Act} {w : World} (hi : ops[i]? = some o) (hg : o.guard = none) (h : o.wp P a w K Q) : wpOp P ops Q i K a w := by
  unfold wpOp
  simp only [hi]
  rw [if_pos (by simp [Region.wanted, hg])]
  exact .inl h
theorem chain_ready {listed : Array Bool} : ∀ (r : List IOq) (p q : IOq), chainI (p :: r) = true → (∀ x ∈ p :: r, listed.getD x.1 true = false) → (∀ x ∈ p :: r, l[x.1]? = some x.2) → q ∈ r → q.1 ∈ Region.ready .any l.toArray listed → False
  | [], _, _, _, _, _, hq, _ => by cases hq
  | y :: r, p, q, hc, hun, hat, hq, hr => by
    simp only [chainI, Bool.and_eq_true] at hc
    rcases List.mem_cons.1 hq with rfl | hq
    · obtain ⟨e, he, hb, hon⟩ := waitsB_iff.1 hc.1
      obtain ⟨_, o, h2, h3⟩ := mem_ready.1 hr
      have hqo := hat q (by simp)
      rw [show l.toArray[q.1]? = l[q.1]? by simp, hqo] at h2; injection h2 with h2; subst h2
      have := h3 e he hb
      rw [hon, getD_both (hun p (by simp))] at this
      cases this
    · exact chain_ready r y q hc.2 (fun x hx => hun x (by simp only [List.mem_cons] at hx ⊢; exact .inr hx)) (fun x hx => hat x (by simp only [List.mem_cons] at hx ⊢; exact .inr hx)) hq hr
theorem getD_set_selfL {listed : Array Bool} {i : Nat} (d : Bool) (h : i < listed.size) : (listed.setIfInBounds i true).getD i d = true := by
  rw [Array.getD_eq_getD_getElem?, Array.getElem?_setIfInBounds_self_of_lt h]; rfl
theorem getD_set' {listed : Array Bool} {i j : Nat} (d : Bool) (h : i ≠ j) : (listed.setIfInBounds i true).getD j d = listed.getD j d := by
  rw [Array.getD_eq_getD_getElem?, Array.getElem?_setIfInBounds_ne h, Array.getD_eq_getD_getElem?]
theorem getD_true_of {listed : Array Bool} {j : Nat} (hs : j < listed.size) (h : listed.getD j true ≠ false) : listed.getD j false = true := by
  simp only [Array.getD_eq_getD_getElem?, Array.getElem?_eq_getElem hs, Option.getD_some] at h ⊢
  simpa using h
def ClosedL (l : List Oper) (listed : Array Bool) : Prop := ∀ (j : Nat) o, l[j]? = some o → listed.getD j false = true → ∀ e ∈ o.after, Region.binds .any e = true → listed.getD e.on false = true
theorem ClosedL.next {listed : Array Bool} {i : Nat} (h : ClosedL l listed) (hr : i ∈ Region.ready .any l.toArray listed) (hs : listed.size = l.length) : ClosedL l (listed.setIfInBounds i true) := by
  intro j o hj hl e he hb
  have hup : ∀ k, listed.getD k false = true → (listed.setIfInBounds i true).getD k false = true := fun k hk => by
    by_cases e : i = k
    · subst e
      obtain ⟨_, o', h2, _⟩ := mem_ready.1 hr
      exact getD_set_selfL false (by have := (Array.getElem?_eq_some_iff.1 h2).1; simp at this; omega)
    · rw [getD_set' false e]; exact hk
  by_cases ei : i = j
  · subst ei
    obtain ⟨_, o', h2, h3⟩ := mem_ready.1 hr
    rw [show l.toArray[i]? = l[i]? by simp, hj] at h2; injection h2 with h2; subst h2
    exact hup _ (h3 e he hb)
  · rw [getD_set' false ei] at hl
    exact hup _ (h j o hj hl e he hb)
structure LatB (l : List Oper) (H T : List IOq) : Prop where
  hat : ∀ p ∈ H, l[p.1]? = some p.2
  tat : ∀ p ∈ T, l[p.1]? = some p.2
  need : ∀ p, p ∈ H ∨ p ∈ T → ∀ q ∈ H, ∀ s ∈ tmpsOf p.2, q.2.dst = some s → waitsB p.2 q.1 = true
  guard : ∀ p ∈ H, p.2.guard = none
  early : ∀ p ∈ H, ∀ e ∈ p.2.after, Region.binds .any e = true → e.on < p.1 ∧ ∃ q ∈ H, q.1 = e.on
  apart : ∀ p ∈ T, ∀ q ∈ H, q.1 ≠ p.1
  fresh : ∀ p ∈ T, ∀ d, p.2.dst = some d → d ∉ keysOf H
  chain : chainI T = true
  tnd : (T.map (·.1)).Nodup
  prog : ∃ old : List IOq, progT H old T = true ∧ ∀ q ∈ old, q.1 < l.length ∧ ∀ x ∈ T, x.1 ≠ q.1
theorem LatB.prog' (h : LatB l H T) (p : IOq) (r : List IOq) (e' : T = p :: r) : ∀ e ∈ p.2.after, Region.binds .any e = true → ∃ j, e.on = j ∧ j < l.length ∧ ∀ q ∈ T, q.1 ≠ j := by
  intro e he hb
  obtain ⟨old, h1, h2⟩ := h.prog
  subst e'
  simp only [progT, Bool.and_eq_true] at h1
  have h3 := edgesIn_iff.1 h1.1 e he hb
  simp only [Bool.or_eq_true, memI_iff] at h3
  refine ⟨e.on, rfl, ?_⟩
  rcases h3 with ⟨q, hq, e1⟩ | ⟨q, hq, e1⟩
  · rw [← e1]
    exact ⟨(List.getElem?_eq_some_iff.1 (h.hat q hq)).1, fun x hx => (h.apart x hx q hq).symm⟩
  · rw [← e1]
    exact h2 q hq
theorem LatB.tail {p : IOq} {r : List IOq} (h : LatB l H (p :: r)) : LatB l H r :=
  ⟨h.hat, fun q hq => h.tat q (by simp [hq]), fun q hq => h.need q (hq.imp id fun h => by simp [h]), h.guard, h.early, fun q hq => h.apart q (by simp [hq]), fun q hq => h.fresh q (by simp [hq]), by
    have := h.chain
    cases r with
    | nil => rfl
    | cons y r => simp only [chainI, Bool.and_eq_true] at this; exact this.2, by have := h.tnd; rw [List.map_cons, List.nodup_cons] at this; exact this.2, by
    obtain ⟨old, h1, h2⟩ := h.prog
    simp only [progT, Bool.and_eq_true] at h1
    refine ⟨p :: old, h1.2, fun q hq => ?_⟩
    rcases List.mem_cons.1 hq with rfl | hq
    · refine ⟨(List.getElem?_eq_some_iff.1 (h.tat q (by simp))).1, fun x hx e => ?_⟩
      have := h.tnd
      rw [List.map_cons, List.nodup_cons] at this
      exact this.1 (List.mem_map.2 ⟨x, hx, e⟩)
    · exact ⟨(h2 q hq).1, fun x hx => (h2 q hq).2 x (by simp [hx])⟩⟩
structure RunsP (P : Program) (C : Ctx) (ct : TypeId) (u : Value) (more : List Ob) (l : List Oper) (H T : List IOq) (k : List Item) (R : Act → World → Prop) (i h : Int) (env : Env) : Prop where
  run : LatB l H T → ∀ (late : List LO) (E0 : Nat → AV), (∀ p ∈ late, (p.1, p.2.1) ∈ H) → (∀ p ∈ late, LFact P C ct u more E0 p) → (∀ s ∈ keysOf H, look env s = E0 s) → ∀ (n : Nat) (pd : List LO) (listed : Array Bool) (a : Act) (w : World), pd.length = n → (∀ p ∈ pd, p ∈ late) → listed.size = l.length → ClosedL l listed →
    (∀ j, j < l.length → (listed.getD j true = false ↔ ((∃ p ∈ pd, p.1 = j) ∨ ∃ p ∈ T, p.1 = j))) → SimM C (maskE pd env) (curOb ct u i h :: more) a w → wpAny P .any l.toArray (nrm (Fin P k R)) (n + T.length) listed a w
theorem runsP_step (hB : LatB l H T) {i h : Int} {env : Env} {late : List LO} {E0 : Nat → AV} (hlH : ∀ p ∈ late, (p.1, p.2.1) ∈ H) (hF : ∀ p ∈ late, LFact P C ct u more E0 p) (hE0 : ∀ s ∈ keysOf H, look env s = E0 s)
    (head : ∀ (pd : List LO) (listed : Array Bool) (a : Act) (w : World) (p : IOq) (r : List IOq), T = p :: r → (∀ q ∈ pd, q ∈ late) → listed.size = l.length → ClosedL l listed → (∀ j, j < l.length → (listed.getD j true = false ↔ ((∃ q ∈ pd, q.1 = j) ∨ ∃ q ∈ T, q.1 = j))) → p.1 ∈ Region.ready .any l.toArray listed → SimM C (maskE pd env) (curOb ct u i h :: more) a w →
      (∀ s ∈ tmpsOf p.2, maskE pd env s = look env s) → wpOp P l.toArray (nrm (Fin P k R)) p.1 (wpAny P .any l.toArray (nrm (Fin P k R)) (pd.length + r.length) (listed.setIfInBounds p.1 true)) a w) (hT : T ≠ []) :
    ∀ (n : Nat) (pd : List LO) (listed : Array Bool) (a : Act) (w : World), pd.length = n → (∀ p ∈ pd, p ∈ late) → listed.size = l.length → ClosedL l listed →
    (∀ j, j < l.length → (listed.getD j true = false ↔ ((∃ p ∈ pd, p.1 = j) ∨ ∃ p ∈ T, p.1 = j))) → SimM C (maskE pd env) (curOb ct u i h :: more) a w → wpAny P .any l.toArray (nrm (Fin P k R)) (n + T.length) listed a w := by
  intro n
  induction n using Nat.strongRecOn with
  | _ n ih =>
  intro pd listed a w hn hpd hls hcls hch hS
  obtain ⟨t, r, rfl⟩ : ∃ t r, T = t :: r := by cases T with
    | nil => exact absurd rfl hT
    | cons t r => exact ⟨t, r, rfl⟩
  have hlt : ∀ p : IOq, (p ∈ H ∨ p ∈ t :: r) → p.1 < l.length := fun p hp => by
    rcases hp with hp | hp
    · exact (List.getElem?_eq_some_iff.1 (hB.hat p hp)).1
    · exact (List.getElem?_eq_some_iff.1 (hB.tat p hp)).1
  -- an operation that is ready finds its operands
  have hops : ∀ p : IOq, (p ∈ H ∨ p ∈ t :: r) → p.1 ∈ Region.ready .any l.toArray listed → ∀ s ∈ tmpsOf p.2, maskE pd env s = look env s := fun p hp hr s hs => by
    unfold maskE
    rw [if_neg]
    intro hany
    obtain ⟨q, hq, hb⟩ := List.any_eq_true.1 hany
    have hqs : q.2.2.1 = s := Nat.eq_of_beq_eq_true hb
    have hql := hpd q hq
    have hw := hB.need p hp _ (hlH q hql) s hs (by rw [← hqs]; exact (hF q hql).dst)
    obtain ⟨e, he, hbn, hon⟩ := waitsB_iff.1 hw
    obtain ⟨_, o, h2, h3⟩ := mem_ready.1 hr
    have hpo : l[p.1]? = some p.2 := hp.elim (hB.hat p) (hB.tat p)
    rw [show l.toArray[p.1]? = l[p.1]? by simp, hpo] at h2; injection h2 with h2; subst h2
    have h4 := h3 e he hbn
    have hqlt := hlt (q.1, q.2.1) (.inl (hlH q hql))
    rw [hon, getD_both ((hch q.1 hqlt).2 (.inl ⟨q, hq, rfl⟩))] at h4
    cases h4
  have hnt : n + (t :: r).length = (n + r.length) + 1 := by simp; omega
  rw [hnt]
  refine ⟨fun h0 => ?_, fun j hj => ?_⟩
  · -- some operation is ready
    exfalso
    have hnone : ∀ x, x ∉ Region.ready .any l.toArray listed := fun x hx => by rw [h0] at hx; cases hx
    have hmin : ∀ m, ∀ p ∈ pd, p.1 ≤ m → False := by
      intro m
      induction m using Nat.strongRecOn with
      | _ m im =>
        intro p hp hpm
        have hpH := hlH p (hpd p hp)
        refine hnone p.1 (mem_ready.2 ⟨(hch p.1 (hlt (p.1, p.2.1) (.inl hpH))).2 (.inl ⟨p, hp, rfl⟩), p.2.1, by simpa using hB.hat _ hpH, fun e he hb => ?_⟩)
        obtain ⟨e1, q, hq, e2⟩ := hB.early _ hpH e he hb
        have hel : e.on < l.length := by rw [← e2]; exact hlt q (.inl hq)
        refine getD_true_of (by omega) fun hf => ?_
        rcases (hch e.on hel).1 hf with ⟨q', hq', e3⟩ | ⟨q', hq', e3⟩
        · exact im q'.1 (by simp only at e1; omega) q' hq' (Nat.le_refl _)
        · exact hB.apart q' hq' q hq (e2.trans e3.symm)
    have hpd0 : ∀ p, p ∉ pd := fun p hp => hmin p.1 p hp (Nat.le_refl _)
    refine hnone t.1 (mem_ready.2 ⟨(hch t.1 (hlt t (.inr (by simp)))).2 (.inr ⟨t, by simp, rfl⟩), t.2, by simpa using hB.tat t (by simp), fun e he hb => ?_⟩)
    obtain ⟨j, e1, e2, e3⟩ := hB.prog' t r rfl e he hb
    refine getD_true_of (by omega) fun hf => ?_
    rw [e1] at hf
    rcases (hch j e2).1 hf with ⟨q', hq', _⟩ | ⟨q', hq', e4⟩
    · exact hpd0 q' hq'
    · exact e3 q' hq' e4
  · obtain ⟨hju, o, ho, _⟩ := mem_ready.1 hj
    have hjl : j < l.length := by simpa using (Array.getElem?_eq_some_iff.1 ho).1
    rcases (hch j hjl).1 hju with ⟨p, hp, rfl⟩ | ⟨p, hp, rfl⟩
    · -- a late operation
      have hpl := hpd p hp
      have hpH := hlH p hpl
      have hf := hF p hpl
      have hpo : l.toArray[p.1]? = some p.2.1 := by simpa using hB.hat _ hpH
      refine wpOp_at hpo (hB.guard _ hpH) ?_
      obtain ⟨s1, s2, φ, hG, hE⟩ := hS
      refine hf.pur a ⟨w, φ, curOb ct u i h :: more, C.ok⟩ i h hG rfl (fun s hs => ?_) _ _ fun x w' hb hv => ?_
      · rw [← hE0 s (mem_keys hpH hs), ← hops _ (.inl hpH) hj s hs]
        exact hE s
      · obtain ⟨g1, g2⟩ := good_below hG hb
        have hlen : (pd.filter fun q => !(Nat.beq q.1 p.1)).length < pd.length := by
          refine Nat.lt_of_le_of_ne (List.length_filter_le _ _) fun e => ?_
          have := List.length_filter_eq_length_iff.1 e p hp
          simp at this
        have hmem : ∀ q, q ∈ (pd.filter fun q => !(Nat.beq q.1 p.1)) ↔ q ∈ pd ∧ q.1 ≠ p.1 := fun q => by
          rw [List.mem_filter]
          constructor
          · rintro ⟨h1, h2⟩; exact ⟨h1, fun e => by simp [e] at h2⟩
          · rintro ⟨h1, h2⟩
            refine ⟨h1, ?_⟩
            cases hbq : Nat.beq q.1 p.1
            · rfl
            · exact absurd (Nat.eq_of_beq_eq_true hbq) h2
        have hmono : ∀ (n1 n2 : Nat) (listed : Array Bool) a w, n1 ≤ n2 → wpAny P .any l.toArray (nrm (Fin P k R)) n1 listed a w → wpAny P .any l.toArray (nrm (Fin P k R)) n2 listed a w := by
          intro n1
          induction n1 with
          | zero =>
            intro n2 listed a w _ hw
            cases n2 with
            | zero => exact hw
            | succ n2 => exact ⟨fun _ => hw.2, fun i hi => by rw [hw.1] at hi; cases hi⟩
          | succ n1 im =>
            intro n2 listed a w hle hw
            obtain ⟨n2, rfl⟩ : ∃ m, n2 = m + 1 := ⟨n2 - 1, by omega⟩
            exact ⟨hw.1, fun i hi => wpOp_mono (fun a w => im n2 _ a w (by omega)) (hw.2 i hi)⟩
        refine hmono _ _ _ _ _ (by simp; omega) (ih (pd.filter fun q => !(Nat.beq q.1 p.1)).length (by omega) (pd.filter fun q => !(Nat.beq q.1 p.1)) _ _ w' rfl (fun q hq => hpd q ((hmem q).1 hq).1) (by simpa using hls) (hcls.next hj hls) (fun j hj => ?_) ⟨by rw [hf.dst]; exact s1, by rw [hf.dst]; simp [Act.put, s2], φ, g1, fun s => ?_⟩)
        · by_cases e : p.1 = j
          · subst e
            rw [getD_set_selfL true (by omega)]
            constructor
            · intro h; cases h
            · rintro (⟨q, hq, e⟩ | ⟨q, hq, e⟩)
              · exact absurd e ((hmem q).1 hq).2
              · exact absurd e.symm (hB.apart q hq _ hpH)
          · rw [getD_set' true e, hch j hj]
            constructor
            · rintro (⟨q, hq, rfl⟩ | h)
              · exact .inl ⟨q, (hmem q).2 ⟨hq, fun h => e h.symm⟩, rfl⟩
              · exact .inr h
            · rintro (⟨q, hq, rfl⟩ | h)
              · exact .inl ⟨q, ((hmem q).1 hq).1, rfl⟩
              · exact .inr h
        · rw [hf.dst, getD_put a _ s x (by rw [s2]; exact hf.lt)]
          split
          · rename_i e
            subst e
            unfold maskE
            split
            · simp [AV.rel]
            · rw [hE0 _ (mem_keys_dst hpH hf.dst), hf.val]; exact hv
          · rename_i e
            have := AV.rel_keeps g2 _ _ (AV.only_true _) (hE s)
            unfold maskE at this ⊢
            split
            · simp [AV.rel]
            · rename_i hn2
              rw [if_neg] at this
              · exact this
              · intro hany
                obtain ⟨q, hq, hbq⟩ := List.any_eq_true.1 hany
                refine hn2 (List.any_eq_true.2 ⟨q, (hmem q).2 ⟨hq, fun e' => ?_⟩, hbq⟩)
                -- two of one index are the same operation
                have h1 := hB.hat _ (hlH q (hpd q hq))
                have h2 := hB.hat _ hpH
                simp only at h1 h2
                rw [e', h2] at h1
                injection h1 with h1
                have d1 := (hF q (hpd q hq)).dst
                rw [← h1, hf.dst] at d1
                injection d1 with d1
                exact e (d1.trans (Nat.eq_of_beq_eq_true hbq))
    · rcases List.mem_cons.1 hp with rfl | hp
      · have := head pd listed a w p r rfl hpd hls hcls hch hj hS (hops p (.inr (by simp)) hj)
        rwa [hn] at this
      · exact (chain_ready (l := l) r t p hB.chain (fun x hx => (hch x.1 (hlt x (.inr hx))).2 (.inr ⟨x, hx, rfl⟩)) hB.tat hp hj).elim
theorem maskE_put {pd : List LO} {env : Env} {t : Nat} {v : AV} {s : Nat} (h : s ≠ t) : maskE pd ((t, v) :: env) s = maskE pd env s := by
  unfold maskE
  rw [look_put, if_neg (Ne.symm h)]
theorem cln_mask {pd : List LO} {env : Env} (h : clnE env = true) (t : Nat) : cln (maskE pd env t) = true := by
  unfold maskE
  split
  · rfl
  · exact clnE.look h t
theorem listed_next {p : IOq} {r : List IOq} {pd : List LO} {listed : Array Bool} (hB : LatB l H (p :: r)) (hlH : ∀ q ∈ pd, (q.1, q.2.1) ∈ H) (hls : listed.size = l.length) (hch : ∀ j, j < l.length → (listed.getD j true = false ↔ ((∃ q ∈ pd, q.1 = j) ∨ ∃ q ∈ p :: r, q.1 = j))) :
    ∀ j, j < l.length → ((listed.setIfInBounds p.1 true).getD j true = false ↔ ((∃ q ∈ pd, q.1 = j) ∨ ∃ q ∈ r, q.1 = j)) := fun j hj => by
  have hpl := (List.getElem?_eq_some_iff.1 (hB.tat p (by simp))).1
  have hnd := hB.tnd
  rw [List.map_cons, List.nodup_cons] at hnd
  by_cases e : p.1 = j
  · subst e
    rw [getD_set_selfL true (by omega)]
    constructor
    · intro h; cases h
    · rintro (⟨q, hq, e⟩ | ⟨q, hq, e⟩)
      · exact absurd e (hB.apart p (by simp) _ (hlH q hq))
      · exact absurd (List.mem_map.2 ⟨q, hq, e⟩) hnd.1
  · rw [getD_set' true e, hch j hj]
    constructor
    · rintro (h | ⟨q, hq, rfl⟩)
      · exact .inl h
      · rcases List.mem_cons.1 hq with rfl | hq
        · exact absurd rfl e
        · exact .inr ⟨q, hq, rfl⟩
    · rintro (h | ⟨q, hq, rfl⟩)
      · exact .inl h
      · exact .inr ⟨q, by simp [hq], rfl⟩
section
variable {i h : Int} {env : Env} {n t : Nat} {ty : TypeId} {pos : String} {after : Array Edge} {b : List UInt8}
theorem RunsP.eff {o : Oper} {T' : List IOq} (X : AV → Int → Int → Prop) (hg : o.guard = none) (hd : o.dst = some t) (ht : t < C.n) (hce : clnE env = true)
    (hs : ∀ (a : Act) (m : Mem), Good C m → m.σ = curOb ct u i h :: more → (∀ x ∈ o.op.operands, AV.rel m (ev env x) (a.eval x)) → ∀ (K : Act → World → Prop) (Q : Exit → Act → World → Prop),
      (∀ y i' h' v w', X y i' h' → Good C ⟨w', m.φ, curOb ct u i' h' :: more, C.ok⟩ → (∀ y x, cln y = true → AV.rel m y x → AV.rel ⟨w', m.φ, curOb ct u i' h' :: more, C.ok⟩ y x) → AV.rel ⟨w', m.φ, curOb ct u i' h' :: more, C.ok⟩ y v → K (a.put (some t) v) w') → o.wp P a m.w K Q)
    (hk : ∀ y i' h', X y i' h' → RunsP P C ct u more l H T' k R i' h' ((t, y) :: env)) : RunsP P C ct u more l H ((n, o) :: T') k R i h env := by
  refine ⟨fun hB late E0 hlH hF hE0 => runsP_step hB hlH hF hE0 (fun pd listed a w p r e hpd hls hcls hch hr hS hops => ?_) (by simp)⟩
  injection e with e1 e2
  subst e1; subst e2
  refine wpOp_at (by simpa using hB.tat (n, o) (by simp)) hg ?_
  obtain ⟨s1, s2, φ, hG, hE⟩ := hS
  refine hs a ⟨w, φ, curOb ct u i h :: more, C.ok⟩ hG rfl (ev_tmps fun s hs => by rw [← hops s hs]; exact hE s) _ _ fun y i' h' v w' hX g1 g2 g3 => ?_
  have hfr := hB.fresh (n, o) (by simp) t hd
  refine (hk y i' h' hX).run hB.tail late E0 hlH hF (fun s hs => ?_) pd.length pd _ _ w' rfl hpd (by simpa using hls) (hcls.next hr hls) (listed_next hB (fun q hq => hlH q (hpd q hq)) hls hch) ⟨s1, by simp [Act.put, s2], φ, g1, fun s => ?_⟩
  · rw [look_put, if_neg (fun (e : t = s) => hfr (by rw [e]; exact hs))]; exact hE0 s hs
  · rw [getD_put a t s v (by rw [s2]; exact ht)]
    split
    · rename_i e; subst e
      unfold maskE
      split
      · simp [AV.rel]
      · rw [look_put, if_pos rfl]; exact g3
    · rename_i e
      rw [maskE_put (Ne.symm e)]
      exact g2 _ _ (cln_mask hce s) (hE s)
theorem RunsP.pur {o : Oper} {T' : List IOq} {y : AV} (hp : Pur P C o env (curOb ct u i h :: more) y) (hg : o.guard = none) (hd : o.dst = some t) (ht : t < C.n) (hce : clnE env = true) (hk : RunsP P C ct u more l H T' k R i h ((t, y) :: env)) : RunsP P C ct u more l H ((n, o) :: T') k R i h env :=
  RunsP.eff (fun y' i' h' => y' = y ∧ i' = i ∧ h' = h) hg hd ht hce (fun a m hG hσ hH K Q hK => hp.run a m hG hσ hH K Q fun v w' hb hv => by
    obtain ⟨w, φ, s, ok0⟩ := m
    have h0 := hG.ok0
    simp only at h0 hσ
    subst h0; subst hσ
    obtain ⟨g1, g2⟩ := good_below hG hb
    rw [hd]
    exact hK y i h v w' ⟨rfl, rfl, rfl⟩ g1 (fun z x _ hz => AV.rel_keeps g2 _ _ (AV.only_true _) hz) hv) (by rintro _ _ _ ⟨rfl, rfl, rfl⟩; exact hk)
theorem RunsP.drawF {f : FuncId} {fn : Func} {x0 : Operand} {xs : List Operand} {ats : Array TypeId} {args : List RV} {Q : RR → Prop} {Q' : RV → Prop} {T' : List IOq} [hfn : FN P f fn] (hf : Drw P ct f b args Q) (hq : ∀ rr, Q rr → flatR rr = true ∧ ∃ r, Seals rr r ∧ Q' r) (hc : unpin (ev env x0) = .obj 0 0) (hu : HU C b u) (hi : CurOk b i) (ha : ∀ h : Int, LendsPL C (curOb ct u i h :: more) (xs.map (ev env)) args)
    (hce : clnE env = true) (hcl : clnO more = true) (ht : t < C.n) (hk : ∀ i' h' r, CurOk b i' → Q' r → RunsP P C ct u more l H T' k R i' h' ((t, .ro r) :: env)) :
    RunsP P C ct u more l H ((n, ⟨some t, .call { callee := .value (.func f), args := (x0 :: xs).toArray, argTypes := ats }, ty, pos, after, none⟩) :: T') k R i h env :=
  RunsP.eff (fun y i' h' => ∃ r, y = .ro r ∧ CurOk b i' ∧ Q' r) rfl rfl ht hce (fun a m hG hσ hH K Q hK =>
    draw_wpF hf (fun rr h => (hq rr h).1) hc hu hi hG hσ (by rw [hσ]; exact ha h) (fun x hx => hH x (by simp [Op.operands, Call.operands] at hx ⊢; exact .inr hx)) fun rr v w' i' h' bs g hQ hD => by
      obtain ⟨_, r, hs, hr⟩ := hq rr hQ
      obtain ⟨g1, g2, g3⟩ := hD.simS hG hσ hu.one hcl hs
      exact hK (.ro r) i' h' v w' ⟨r, rfl, hD.ok, hr⟩ g1 g2 g3) (by rintro _ i' h' ⟨r, rfl, h1, h2⟩; exact hk i' h' r h1 h2)
theorem RunsP.drawN {f : FuncId} {fn : Func} {x0 : Operand} {xs : List Operand} {ats : Array TypeId} {args : List RV} {Q : RR → Prop} {Q' : RV → Prop} {T' : List IOq} [hfn : FN P f fn] (hf : Drw P ct f b args Q) (hq : ∀ rr, Q rr → ∃ r, Seals rr r ∧ Q' r) (hc : unpin (ev env x0) = .obj 0 0) (hu : HU C b u) (hi : CurOk b i) (ha : xs.map (ev env) = args.map .ro)
    (hce : clnE env = true) (hcl : clnO more = true) (ht : t < C.n) (hk : ∀ i' h' r, CurOk b i' → Q' r → RunsP P C ct u more l H T' k R i' h' ((t, .ro r) :: env)) :
    RunsP P C ct u more l H ((n, ⟨some t, .call { callee := .value (.func f), args := (x0 :: xs).toArray, argTypes := ats }, ty, pos, after, none⟩) :: T') k R i h env :=
  RunsP.eff (fun y i' h' => ∃ r, y = .ro r ∧ CurOk b i' ∧ Q' r) rfl rfl ht hce (fun a m hG hσ hH K Q hK =>
    draw_wpN hf hc hu hi hG hσ (ha ▸ FitsL.ros args) (fun x hx => hH x (by simp [Op.operands, Call.operands] at hx ⊢; exact .inr hx)) fun rr v w' i' h' bs g hQ hD => by
      obtain ⟨r, hs, hr⟩ := hq rr hQ
      obtain ⟨g1, g2, g3⟩ := hD.simS hG hσ hu.one hcl hs
      exact hK (.ro r) i' h' v w' ⟨r, rfl, hD.ok, hr⟩ g1 g2 g3) (by rintro _ i' h' ⟨r, rfl, h1, h2⟩; exact hk i' h' r h1 h2)
theorem RunsP.done (m : Nat) (hm : (T.map (·.1)) = (List.range' m (l.length - m))) (hml : m < l.length) (hw : Region.sinkB .any l.toArray m = true) (hsq : Region.seqB .any l.toArray (l.length - m) m (Array.replicate m true ++ Array.replicate (l.length - m) false) = true)
    (hk : RunsL P C l.toArray (l.drop m) k R ⟨env, curOb ct u i h :: more⟩) : RunsP P C ct u more l H T k R i h env := by
  refine ⟨fun hB late E0 hlH hF hE0 => ?_⟩
  have hT : T ≠ [] := by
    rintro rfl
    have := congrArg List.length hm
    simp at this; omega
  have hin : ∀ j, (∃ p ∈ T, p.1 = j) ↔ m ≤ j ∧ j < l.length := fun j => by
    have : (∃ p ∈ T, p.1 = j) ↔ j ∈ T.map (·.1) := by simp only [List.mem_map]
    rw [this, hm, List.mem_range'_1]
    omega
  refine runsP_step hB hlH hF hE0 (fun pd listed a w p r e hpd hls hcls hch hr hS hops => ?_) hT
  subst e
  have hp1 : p.1 = m := by
    have := congrArg List.head? hm
    rw [show l.length - m = (l.length - m - 1) + 1 by omega, List.range'_succ] at this
    simpa using this
  -- nothing is pending
  have hall : ∀ n i, m - i ≤ n → i < m → listed.getD i false = true := by
    intro n
    induction n with
    | zero => intro i h1 h2; omega
    | succ n ih =>
      intro i h1 h2
      have hsk := List.all_eq_true.1 hw i (List.mem_range.2 h2)
      obtain ⟨j, hj, hb⟩ := List.any_eq_true.1 hsk
      rw [List.mem_range] at hj
      rw [Bool.and_eq_true] at hb
      obtain ⟨oj, hoj, e, he, hbn, hon⟩ := Region.waitsFor_spec hb.2
      have hij := of_decide_eq_true hb.1
      rw [← hon]
      by_cases ejm : j = m
      · subst ejm
        obtain ⟨_, o, h3, h4⟩ := mem_ready.1 hr
        rw [hp1] at h3
        rw [h3] at hoj; injection hoj with hoj; subst hoj
        exact h4 e he hbn
      · exact hcls j oj (by simpa using hoj) (ih j (by omega) (by omega)) e he hbn
  have hpd0 : pd = [] := by
    rw [List.eq_nil_iff_forall_not_mem]
    intro q hq
    have hql := (List.getElem?_eq_some_iff.1 (hB.hat _ (hlH q (hpd q hq)))).1
    have hqm : q.1 < m := by
      rcases Nat.lt_or_ge q.1 m with h | h
      · exact h
      · obtain ⟨x, hx, e⟩ := (hin q.1).2 ⟨h, hql⟩
        exact absurd e.symm (hB.apart x hx _ (hlH q (hpd q hq)))
    have h4 := hall (m - q.1) q.1 (Nat.le_refl _) hqm
    rw [getD_both ((hch q.1 hql).2 (.inl ⟨q, hq, rfl⟩))] at h4
    cases h4
  subst hpd0
  have hlst : listed = Array.replicate m true ++ Array.replicate (l.length - m) false := by
    refine Array.ext (by simp; omega) fun j h1 h2 => ?_
    have hjl : j < l.length := by omega
    have hx := hch j hjl
    simp only [List.not_mem_nil, false_and, exists_false, false_or] at hx
    rw [hin j, Array.getD_eq_getD_getElem?, Array.getElem?_eq_getElem h1, Option.getD_some] at hx
    rw [Array.getElem_append]
    split
    · rename_i h3
      simp only [Array.size_replicate] at h3
      rw [Array.getElem_replicate]
      cases hb : listed[j]
      · have := hx.1 hb; omega
      · rfl
    · rename_i h3
      simp only [Array.size_replicate] at h3
      rw [Array.getElem_replicate]
      exact hx.2 ⟨by omega, hjl⟩
  obtain ⟨s1, s2, φ, hG, hE⟩ := hS
  have hlen : r.length + 1 = l.length - m := by
    have := congrArg List.length hm
    simpa using this
  have hrun := hk.run a w ⟨s1, s2, φ, hG, fun s => by have := hE s; simpa [maskE] using this⟩
  have := wpAny_of_seq (md := .any) (Q' := nrm (Fin P k R)) (l.drop m) m listed a w (fun j => by simp [List.getElem?_drop]) (by rw [List.length_drop, hlst]; exact hsq) hrun
  rw [List.length_drop, ← hlen] at this
  rw [List.length_nil, Nat.zero_add]
  exact this.2 p.1 hr
end
structure RunsH (P : Program) (C : Ctx) (ct : TypeId) (u : Value) (more : List Ob) (l : List Oper) (H T : List IOq) (k : List Item) (R : Act → World → Prop) (i h : Int) (keys : List Nat) (rest : List IOq) (env : Env) : Prop where
  run : ∃ (late : List LO) (env' : Env), late.length = rest.length ∧ (∀ p ∈ late, (p.1, p.2.1) ∈ rest) ∧ (∀ p ∈ rest, ∃ q ∈ late, q.1 = p.1 ∧ q.2.1 = p.2) ∧ (∀ s ∈ keys, look env' s = look env s) ∧ (∀ s, (∀ p ∈ late, p.2.2.1 ≠ s) → look env' s = look env s) ∧ (∀ p ∈ late, LFact P C ct u more (look env') p) ∧ RunsP P C ct u more l H T k R i h env'
variable {i h : Int} {env : Env} {n t : Nat} {keys : List Nat} {rest : List IOq}
theorem RunsH.nil (hk : RunsP P C ct u more l H T k R i h env) : RunsH P C ct u more l H T k R i h keys [] env := ⟨⟨[], env, rfl, by simp, by simp, fun _ _ => rfl, fun _ _ => rfl, by simp, hk⟩⟩
theorem RunsH.pur {o : Oper} {v : AV} (hp : ∀ i h : Int, Pur P C o env (curOb ct u i h :: more) v) (hd : o.dst = some t) (ht : t < C.n) (hf : (keys ++ tmpsOf o).contains t = false)
    (hk : RunsH P C ct u more l H T k R i h (keys ++ tmpsOf o ++ [t]) rest ((t, v) :: env)) : RunsH P C ct u more l H T k R i h keys ((n, o) :: rest) env := by
  obtain ⟨late, env', h0, h1, h2, h3, h4, h5, h6⟩ := hk.run
  have hfr : ∀ s ∈ keys ++ tmpsOf o, s ≠ t := fun s hs e => by
    subst e
    have : (keys ++ tmpsOf o).contains s = true := List.contains_iff_mem.2 hs
    rw [hf] at this; cases this
  refine ⟨⟨(n, o, t, v) :: late, env', by simp [h0], fun p hp => ?_, fun p hp => ?_, fun s hs => ?_, fun s hs => ?_, fun p hp' => ?_, h6⟩⟩
  · rcases List.mem_cons.1 hp with rfl | hp
    · simp
    · exact List.mem_cons_of_mem _ (h1 p hp)
  · rcases List.mem_cons.1 hp with rfl | hp
    · exact ⟨_, List.mem_cons_self, rfl, rfl⟩
    · obtain ⟨q, hq, e⟩ := h2 p hp
      exact ⟨q, List.mem_cons_of_mem _ hq, e⟩
  · rw [h3 s (by simp [hs]), look_put, if_neg (Ne.symm (hfr s (by simp [hs])))]
  · rw [h4 s (fun p hp => hs p (List.mem_cons_of_mem _ hp)), look_put, if_neg (hs (n, o, t, v) List.mem_cons_self)]
  · rcases List.mem_cons.1 hp' with rfl | hp'
    · refine ⟨fun a m i h hG hσ hH K Q hK => ?_, ?_, hd, ht⟩
      · exact (hp i h).run a m hG hσ (ev_tmps fun s hs => by
          have := hH s hs
          rwa [h3 s (by simp [hs]), look_put, if_neg (Ne.symm (hfr s (by simp [hs])))] at this) K Q hK
      · show look env' t = v
        rw [h3 t (by simp), look_put, if_pos rfl]
    · exact h5 p hp'
def nodupB : List Nat → Bool
  | [] => true
  | x :: xs => !(xs.contains x) && nodupB xs
theorem nodupB_iff : ∀ {l : List Nat}, nodupB l = true → l.Nodup
  | [], _ => List.nodup_nil
  | x :: xs, h => by
    simp only [nodupB, Bool.and_eq_true, Bool.not_eq_true'] at h
    rw [List.nodup_cons]
    exact ⟨fun hm => by rw [List.contains_iff_mem.2 hm] at h; simp at h, nodupB_iff h.2⟩
theorem latB_of {hs ts : List Nat} (hB : lateB l.length (pick l hs) (pick l ts) = true) (hnd : nodupB ((pick l ts).map (·.1)) = true) : LatB l (pick l hs) (pick l ts) := by
  unfold lateB at hB
  simp only [Bool.and_eq_true] at hB
  obtain ⟨⟨⟨⟨b1, b2⟩, b3⟩, b4⟩, b5⟩ := hB
  rw [List.all_eq_true] at b1 b2
  have needs : ∀ (o : Oper), needB (pick l hs) o = true → ∀ q ∈ pick l hs, ∀ s ∈ tmpsOf o, q.2.dst = some s → waitsB o q.1 = true := fun o ho q hq s hs' hd => by
    have := List.all_eq_true.1 (List.all_eq_true.1 ho q hq) s hs'
    simpa [hd] using this
  refine ⟨fun p hp => pick_mem hp, fun p hp => pick_mem hp, fun p hp => ?_, fun p hp => ?_, fun p hp e he hb => ?_, fun p hp q hq e => ?_, fun p hp d hd hm => ?_, b3, nodupB_iff hnd, ⟨[], b4, by simp⟩⟩
  · rcases hp with hp | hp
    · have := b1 p hp
      simp only [Bool.and_eq_true] at this
      exact needs p.2 this.1.1.1
    · have := b2 p hp
      simp only [Bool.and_eq_true] at this
      exact needs p.2 this.1.1
  · have := b1 p hp
    simp only [Bool.and_eq_true] at this
    simpa using this.1.1.2
  · have := b1 p hp
    simp only [Bool.and_eq_true] at this
    have := edgesIn_iff.1 this.2 e he hb
    simp only [Bool.and_eq_true] at this
    exact ⟨Nat.le_of_ble_eq_true this.1, memI_iff.1 this.2⟩
  · have := b2 p hp
    simp only [Bool.and_eq_true] at this
    have h1 := this.1.2
    rw [memI_iff.2 ⟨q, hq, e⟩] at h1
    simp at h1
  · have := b2 p hp
    simp only [Bool.and_eq_true, hd] at this
    have h1 := this.2
    rw [List.contains_iff_mem.2 hm] at h1
    simp at h1
theorem Runs.toLate {id : Nat} {k0 : List Item} {σ : List Ob} (m : Nat) (hs ts : List Nat) (hf : P.follows .mixedOrders = true) (hσ : σ = curOb ct u i h :: more) (hc : Proofs.Ytdikinkihnepaaa.ctls m k0 = .code (.region id l.toArray true) :: k) (hB : lateB l.length (pick l hs) (pick l ts) = true) (hnd : nodupB ((pick l ts).map (·.1)) = true) (hle : Nat.ble ((pick l hs).length + (pick l ts).length) l.length = true)
    (hk : RunsH P C ct u more l (pick l hs) (pick l ts) k R i h [] (pick l hs) env) : Runs P C k0 R ⟨env, σ⟩ := by
  subst hσ
  refine Runs.ctls m hc ⟨fun a w hs' => Fin.of_wp (wp_region_any hf ?_)⟩
  obtain ⟨s1, s2, φ, hG, hE⟩ := hs'
  have hb : Below w.heap.size w { w with drawn := w.drawn + 1 } := ⟨rfl, rfl, rfl, Nat.le_refl _, fun _ _ => rfl⟩
  obtain ⟨g1, g2⟩ := good_below hG hb
  obtain ⟨late, env', h0, h1, h2, _, h4, h5, h6⟩ := hk.run
  have hL := latB_of hB hnd
  have hall : ∀ j, j < l.length → (∃ p ∈ late, p.1 = j) ∨ ∃ p ∈ pick l ts, p.1 = j := fun j hj => by
    unfold lateB at hB
    simp only [Bool.and_eq_true] at hB
    have := List.all_eq_true.1 hB.2 j (List.mem_range.2 hj)
    rw [Bool.or_eq_true, memI_iff, memI_iff] at this
    rcases this with ⟨p, hp, e⟩ | h
    · obtain ⟨q, hq, e1, _⟩ := h2 p hp
      exact .inl ⟨q, hq, e1.trans e⟩
    · exact .inr h
  have hrun := h6.run hL late (look env') h1 h5 (fun _ _ => rfl) late.length late (Array.replicate l.length false) a { w with drawn := w.drawn + 1 } rfl (fun _ h => h) (by simp) (fun j o _ hl => by rw [getD_replicate_false] at hl; cases hl) (fun j hj => ⟨fun _ => hall j hj, fun _ => getD_in (by simpa using hj) (getD_replicate_false _ _)⟩) ⟨s1, s2, φ, g1, fun s => ?_⟩
  · have hmono : ∀ (n1 n2 : Nat) (listed : Array Bool) a w, n1 = n2 → wpAny P .any l.toArray (nrm (Fin P k R)) n1 listed a w → wpAny P .any l.toArray (nrm (Fin P k R)) n2 listed a w := fun _ _ _ _ _ e h => e ▸ h
    have hup : ∀ (n1 n2 : Nat) (listed : Array Bool) a w, n1 ≤ n2 → wpAny P .any l.toArray (nrm (Fin P k R)) n1 listed a w → wpAny P .any l.toArray (nrm (Fin P k R)) n2 listed a w := by
      intro n1
      induction n1 with
      | zero =>
        intro n2 listed a w _ hw
        cases n2 with
        | zero => exact hw
        | succ n2 => exact ⟨fun _ => hw.2, fun i hi => by rw [hw.1] at hi; cases hi⟩
      | succ n1 im =>
        intro n2 listed a w hle hw
        obtain ⟨n2, rfl⟩ : ∃ m, n2 = m + 1 := ⟨n2 - 1, by omega⟩
        exact ⟨hw.1, fun i hi => wpOp_mono (fun a w => im n2 _ a w (by omega)) (hw.2 i hi)⟩
    have hle' := Nat.le_of_ble_eq_true hle
    have := hup _ l.toArray.size _ _ _ (by simp; omega) hrun
    simpa using this
  · unfold maskE
    split
    · simp [AV.rel]
    · rename_i hn
      rw [h4 s fun p hp e => hn (List.any_eq_true.2 ⟨p, hp, by rw [e]; exact Nat.beq_refl _⟩)]
      exact AV.rel_keeps g2 _ _ (AV.only_true _) (hE s)
end
end Go.Proofs.Ytdikinkihnepaaa
/- The draws' start: a cursor is made, and stands first among the frame's objects; calls whose result is known but for a property. Over any program. -/
namespace Go.Proofs.Ytdikinkihnepaaa
set_option linter.unusedSimpArgs false
set_option linter.unusedVariables false
open Go.RowKit
open AV (Mem Keeps)
def ANewU (P : Program) (ct : TypeId) (f : FuncId) (b : List UInt8) : Prop :=
  ∀ (w : World) (ok : Nat → Prop) (u : Value), (∀ x, w.heap.size ≤ x → ok x) → RV.rel w ok (bytesR b) u →
    Calls P f #[u] w fun e w' => ∃ g h, e = .returned (.pointer (some ⟨g, 0, none⟩)) ∧ w.heap.size ≤ g ∧ CurAt ct w' g u 0 h ∧ Below w.heap.size w w'
def EndsNU (P : Program) (C : Ctx) (fn : Func) (ct : TypeId) (u : Value) (a : Act) (w : World) : Prop :=
  a.defers = [] ∧ ∃ g h, (results fn a.tmps).run P w = .ok (.pointer (some ⟨g, 0, none⟩)) w ∧ C.w0.heap.size ≤ g ∧ CurAt ct w g u 0 h ∧ Below C.w0.heap.size C.w0 w
theorem startU_sim {ok : Nat → Prop} {b : List UInt8} {args : List RV} {n : Nat} {u : Value} {us : List Value} {w : World} (h0 : ∀ x, w.heap.size ≤ x → ok x) (hu : RV.rel w ok (bytesR b) u) (hus : RV.rels w ok args us) (hl : args.length + 1 ≤ n) :
    Sim ⟨w, ok, fun _ => False, n⟩ ⟨(0, .ro (.c u)) :: startEnv 1 args, []⟩ { tmps := (u :: us).toArray ++ Array.replicate (n - (u :: us).toArray.size) undef, defers := [] } w := by
  have hlen := RV.rels_len args _ hus
  refine ⟨rfl, by simp; omega, fun _ => none, ⟨rfl, fun i j g hi => by simp at hi, fun i o hi => by simp at hi, fun i g hi => by simp at hi, ⟨rfl, rfl, rfl, Nat.le_refl _, fun _ _ _ => rfl, h0⟩⟩, fun t => ?_⟩
  rw [look_put]
  split
  · rename_i e; subst e
    simp only [AV.rel, RV.rel]
    rw [Array.getD_eq_getD_getElem?, Array.getElem?_append_left (by simp)]
    simp
  · rename_i e
    rw [start_look]
    by_cases h1 : 1 ≤ t
    · rw [if_pos h1]
      cases hr : args[t - 1]? with
      | none => simp [AV.rel]
      | some r =>
        obtain ⟨x, e1, e2⟩ := RV.rels_at args _ hus (t - 1) r hr
        have ht : t - 1 < us.length := (List.getElem?_eq_some_iff.1 e1).1
        simp only [AV.rel]
        have : ((u :: us).toArray ++ Array.replicate (n - (u :: us).toArray.size) undef).getD t undef = x := by
          rw [Array.getD_eq_getD_getElem?, Array.getElem?_append_left (by simp; omega)]
          obtain ⟨t', rfl⟩ : ∃ t', t = t' + 1 := ⟨t - 1, by omega⟩
          simp at e1 ⊢
          simp [e1]
        rw [this]
        exact RV.rel_mono ⟨Nat.le_refl _, fun x _ hx => ⟨⟨hx, fun j hj => by simp at hj⟩, rfl⟩⟩ r x e2
    · omega
theorem anewU_enter {P : Program} {ct : TypeId} {f : FuncId} {fn : Func} {c : Code} {b : List UInt8} (hf : P.funcs[f]? = some fn) (hb : fn.body = some c) (n : Nat) (hn : fn.ntmps = n) (hl : 1 ≤ n)
    (h : ∀ (C : Ctx) (u : Value), C.n = n → (∀ x, ¬ C.mu x) → HU C b u → Runs P C [.code c] (EndsNU P C fn ct u) ⟨[(0, .ro (.c u))], []⟩) : ANewU P ct f b := by
  intro w ok u h0 hu
  refine calls_of_fin hf hb ?_
  have hs := startU_sim (args := []) (us := []) (n := n) h0 hu (by simp [RV.rels]) (by simpa using hl)
  have hr := (h ⟨w, ok, fun _ => False, n⟩ u rfl (fun _ h => h) (RV.rel_mono ⟨Nat.le_refl _, fun x _ hx => ⟨⟨hx, id⟩, rfl⟩⟩ _ _ hu)).run _ w (by simpa [startEnv] using hs)
  intro bb cc
  obtain ⟨a', w', todo, ⟨hd, g, hh, hv, q1, q2, q3⟩, hst⟩ := hr bb cc
  exact ⟨a', w', todo, ⟨hd, _, hv, g, hh, rfl, q1, q2, q3⟩, by simpa [hn] using hst⟩
theorem endsNU {P : Program} {C : Ctx} {fn : Func} {ct : TypeId} {u : Value} {S : St} {t j : Nat} {h : Int} (hm : ∀ x, ¬ C.mu x) (hr : fn.results = #[.tmp t]) (h1 : look S.env t = .obj j 0) (h2 : S.σ[j]? = some (curOb ct u 0 h)) : ∀ a w, Sim C S a w → EndsNU P C fn ct u a w := by
  rintro a w ⟨s1, s2, φ, hG, hH⟩
  have hu := hH t
  rw [h1] at hu
  simp only [AV.rel] at hu
  obtain ⟨hj, g, hg, eu⟩ := hu
  have hob := hG.ob j _ h2
  rw [show (⟨w, φ, S.σ, C.ok⟩ : Mem).φ j = some g from hg] at hob
  obtain ⟨us, q1, q2, q3⟩ := hob
  obtain ⟨x0, e0, _, r0⟩ := q3 0 (.ro (.c u)) rfl
  obtain ⟨x1, e1, _, r1⟩ := q3 1 (.int 0) rfl
  obtain ⟨x2, e2, _, r2⟩ := q3 2 (.int h) rfl
  simp only [AV.rel, RV.rel] at r0 r1 r2
  subst r0; subst r1; subst r2
  exact ⟨s1, g, h, by rw [results_eq, hr]; simp [resRun, eu], (hG.mine j g hj hg).resolve_left (hm g), ⟨us, q1, e0, e1, e2⟩, hG.frm.below0 hm⟩
theorem acu_enter {P : Program} {f : FuncId} {fn : Func} {c : Code} {b : List UInt8} {args : List RV} {R : RR → Prop} (hf : P.funcs[f]? = some fn) (hb : fn.body = some c) (n : Nat) (hn : fn.ntmps = n) (hl : args.length + 1 ≤ n)
    (h : ∀ (C : Ctx) (u : Value), C.n = n → (∀ x, ¬ C.mu x) → HU C b u → Runs P C [.code c] (Ends P C fn R) ⟨(0, .ro (.c u)) :: startEnv 1 args, []⟩) : AC P f (bytesR b :: args) R := by
  intro w ok us h0 hu
  simp only [RV.rels] at hu
  obtain ⟨u, us', e, hu1, hu2⟩ := hu
  refine calls_of_fin hf hb ?_
  have hs := startU_sim (n := n) h0 hu1 hu2 hl
  have hr := (h ⟨w, ok, fun _ => False, n⟩ u rfl (fun _ h => h) (RV.rel_mono ⟨Nat.le_refl _, fun x _ hx => ⟨⟨hx, id⟩, rfl⟩⟩ _ _ hu1)).run _ w hs
  intro bb cc
  obtain ⟨a', w', todo, ⟨hd, v, hv, rr, bs, h1, h2, h3, h4, h5⟩, hst⟩ := hr bb cc
  have e' : us = (u :: us').toArray := by rw [← e]
  subst e'
  exact ⟨a', w', todo, ⟨hd, v, hv, v, rr, bs, rfl, h1, h2, h3, h4, h5⟩, by rw [hn]; exact hst⟩
theorem Lends.know {C : Ctx} {σ : List Ob} {b : List UInt8} {u : Value} (hu : HU C b u) : Lends C σ (.ro (.c u)) (bytesR b) := fun m x ok' hG _ h1 _ hx => by
  simp only [AV.rel, RV.rel] at hx
  subst hx
  exact RV.rel_mono ⟨Nat.le_refl _, fun z _ hz => ⟨h1 z hz, rfl⟩⟩ _ _ (hu.ok hG)
def rotR (n i : Nat) : Nat := match Nat.beq i n with
  | true => 0
  | false => i + 1
def renE (r : Nat → Nat) : Env → Env
  | [] => []
  | (t, v) :: e => (t, v.ren r) :: renE r e
theorem look_renE (r : Nat → Nat) : ∀ (e : Env) (t : Nat), look (renE r e) t = (look e t).ren r
  | [], t => by simp [renE, look, AV.ren]
  | (s, v) :: e, t => by
    rw [renE, look_put, look_put]
    split
    · rfl
    · exact look_renE r e t
theorem rotR_eq (n : Nat) : rotR n n = 0 := by unfold rotR; rw [Nat.beq_refl]
theorem rotR_ne {n i : Nat} (h : i ≠ n) : rotR n i = i + 1 := by
  unfold rotR
  cases hb : Nat.beq i n with
  | true => exact absurd (Nat.eq_of_beq_eq_true hb) h
  | false => rfl
section
variable {P : Program} {C : Ctx} {ops : Array Oper} {rest : List Oper} {k : List Item} {R : Act → World → Prop} {env : Env} {σ : List Ob} {t : Nat} {ty : TypeId} {pos : String} {after : Array Edge} {ct : TypeId} {b : List UInt8} {u : Value}
theorem sim_rot {o : Ob} {a : Act} {w : World} (hs : Sim C ⟨env, σ ++ [o]⟩ a w) : Sim C ⟨renE (rotR σ.length) env, (o :: σ).map (Ob.ren (rotR σ.length))⟩ a w := by
  obtain ⟨s1, s2, φ, hG, hH⟩ := hs
  let φ' : Nat → Option Nat := fun i => match i with
    | 0 => φ σ.length
    | i + 1 => φ i
  have hφ : ∀ i, i < σ.length + 1 → φ' (rotR σ.length i) = φ i := fun i hi => by
    by_cases e : i = σ.length
    · subst e; rw [rotR_eq]
    · rw [rotR_ne e]
  have hlen : ((o :: σ).map (Ob.ren (rotR σ.length))).length = σ.length + 1 := by simp
  have hat : ∀ (i : Nat) (x : Ob), (σ ++ [o])[i]? = some x → ((o :: σ).map (Ob.ren (rotR σ.length)))[rotR σ.length i]? = some (x.ren (rotR σ.length)) := fun i x hi => by
    have hil : i < σ.length + 1 := by have := (List.getElem?_eq_some_iff.1 hi).1; simpa using this
    rw [List.getElem?_map]
    by_cases e : i = σ.length
    · subst e
      rw [rotR_eq]
      simp at hi ⊢
      rw [hi]
    · rw [rotR_ne e, List.getElem?_cons_succ]
      rw [List.getElem?_append_left (by omega)] at hi
      rw [hi]; rfl
  have hinv : ∀ j, j < σ.length + 1 → ∃ i, i < σ.length + 1 ∧ rotR σ.length i = j := fun j hj => by
    cases j with
    | zero => exact ⟨σ.length, by omega, rotR_eq _⟩
    | succ j => exact ⟨j, by omega, rotR_ne (by omega)⟩
  have hrinj : ∀ i j, i < σ.length + 1 → j < σ.length + 1 → rotR σ.length i = rotR σ.length j → i = j := fun i j hi hj e => by
    by_cases e1 : i = σ.length <;> by_cases e2 : j = σ.length
    · omega
    · subst e1; rw [rotR_eq, rotR_ne e2] at e; omega
    · subst e2; rw [rotR_eq, rotR_ne e1] at e; omega
    · rw [rotR_ne e1, rotR_ne e2] at e; omega
  have key : ∀ v x, AV.rel ⟨w, φ, σ ++ [o], C.ok⟩ v x → AV.rel ⟨w, φ', (o :: σ).map (Ob.ren (rotR σ.length)), C.ok⟩ (v.ren (rotR σ.length)) x :=
    rel_ren (m := ⟨w, φ, σ ++ [o], C.ok⟩) (m' := ⟨w, φ', (o :: σ).map (Ob.ren (rotR σ.length)), C.ok⟩) (n := σ.length + 1) rfl (fun x hx => ⟨hx.1, fun j hj e => by
      simp only [hlen] at hj
      obtain ⟨i, hi, rfl⟩ := hinv j hj
      exact hx.2 i (by simpa using hi) ((hφ i hi).symm.trans e)⟩) (fun i hi => hφ i hi) (fun i hi => by
      simp only [hlen]
      by_cases e : i = σ.length
      · subst e; rw [rotR_eq]; omega
      · rw [rotR_ne e]; omega) (by simp) (fun i x hx => ⟨AV.rens (rotR σ.length) x.cs, hat i x hx, rens_len _ _⟩)
  refine ⟨s1, s2, φ', ⟨rfl, fun i j g hi hj e1 e2 => ?_, fun j x hj => ?_, fun j g hj hg => ?_, hG.frm⟩, fun s => by rw [show look (⟨renE _ env, _⟩ : St).env s = _ from look_renE _ _ _]; exact key _ _ (hH s)⟩
  · simp only [hlen] at hi hj
    obtain ⟨i', hi', rfl⟩ := hinv i hi
    obtain ⟨j', hj', rfl⟩ := hinv j hj
    rw [hG.inj i' j' g (by simpa using hi') (by simpa using hj') ((hφ i' hi').symm.trans e1) ((hφ j' hj').symm.trans e2)]
  · have hjl : j < σ.length + 1 := by have := (List.getElem?_eq_some_iff.1 hj).1; rwa [hlen] at this
    obtain ⟨i, hi, rfl⟩ := hinv j hjl
    obtain ⟨oo, hx⟩ : ∃ oo, (σ ++ [o])[i]? = some oo := ⟨_, List.getElem?_eq_getElem (by simpa using hi)⟩
    simp only at hj
    rw [hat i _ hx] at hj
    injection hj with hj; subst hj
    have h0 := hG.ob i _ hx
    show ObRel _ _ (φ' (rotR σ.length i))
    rw [hφ i hi]
    simp only at h0
    cases hg : φ i with
    | none => rw [hg] at h0; simp only [ObRel, Ob.ren] at h0 ⊢; rw [h0]; rfl
    | some g =>
      rw [hg] at h0
      obtain ⟨us, q1, q2, q3⟩ := h0
      refine ⟨us, q1, by simp only [Ob.ren, rens_len]; exact q2, fun p v hp => ?_⟩
      simp only [Ob.ren, rens_at] at hp
      obtain ⟨v0, hv0, rfl⟩ := Option.map_eq_some_iff.1 hp
      obtain ⟨y, k1, k2, k3⟩ := q3 p v0 hv0
      exact ⟨y, k1, k2, key v0 y k3⟩
  · simp only [hlen] at hj
    obtain ⟨i, hi, rfl⟩ := hinv j hj
    exact hG.mine i g (by simpa using hi) ((hφ i hi).symm.trans hg)
theorem op_newU {f : FuncId} {fn : Func} {x : Operand} {ats : Array TypeId} [hfn : FN P f fn] (hf : ANewU P ct f b) (hx : ev env x = .ro (.c u)) (hu : HU C b u) (ht : t < C.n)
    (hk : ∀ h : Int, CurOk b 0 → RunsL P C ops rest k R ⟨renE (rotR σ.length) ((t, .obj σ.length 0) :: env), (curOb ct u 0 h :: σ).map (Ob.ren (rotR σ.length))⟩) :
    RunsL P C ops (⟨some t, .call { callee := .value (.func f), args := #[x], argTypes := ats }, ty, pos, after, none⟩ :: rest) k R ⟨env, σ⟩ := by
  refine ⟨fun a w ⟨s1, s2, φ, hG, hH⟩ => ?_⟩
  refine wpList_plain rfl fun K hK' => ?_
  have hxx := ev_c (ev_rel hH x) hx
  unfold Oper.wp
  rw [execOp_call_go, run_call hfn]
  simp only [Oper.upon]
  have e0 : (#[x].map a.eval) = #[u] := by simp [hxx]
  rw [e0]
  simp only [Array.empty_append, Array.append_empty]
  refine (hf w (AV.Mem.ok ⟨w, φ, σ, C.ok⟩) u (ok_args hG) (hu.ok hG)).mono ?_
  rintro ee w' ⟨g, h, rfl, h1, ⟨us, q0, q1, q2, q3⟩, h5⟩
  obtain ⟨g1, g2⟩ := good_grow (φ' := upd φ σ.length (some g)) (new := [curOb ct u 0 h]) hG h5 (fun i hi => upd_ne (show i ≠ σ.length from Nat.ne_of_lt hi)) (fun j hj b hb => by
      simp at hj; subst hj; simp [upd_eq] at hb; subst hb; exact h1) (fun i j b hi hj _ _ => by simp at hi hj; omega) (fun j o hj => by
      cases j with
      | succ j => simp at hj
      | zero =>
        simp at hj; subst hj
        simp only [Nat.add_zero, upd_eq, ObRel]
        refine ⟨us, q0, ?_, fun p v hp => ?_⟩
        · have := (Array.getElem?_eq_some_iff.1 q3).1
          simp [curOb]; omega
        · simp only [curOb] at hp
          match p, hp with
          | 0, hp => simp at hp; subst hp; exact ⟨u, q1, hu.one, by simp [AV.rel, RV.rel]⟩
          | 1, hp => simp at hp; subst hp; exact ⟨_, q2, rfl, by simp [AV.rel, RV.rel]⟩
          | 2, hp => simp at hp; subst hp; exact ⟨_, q3, rfl, by simp [AV.rel, RV.rel]⟩
          | p + 3, hp => simp at hp)
  refine hK' _ _ ((hk h ⟨Int.le_refl _, by omega⟩).run _ _ (sim_rot (o := curOb ct u 0 h) ⟨s1, by simp [Act.put, s2], _, g1, (hH.keeps g2).put (by rw [s2]; exact ht) ?_⟩))
  simp only [AV.rel]
  exact ⟨by simp, g, upd_eq, rfl⟩
theorem op_callQ {f : FuncId} {fn : Func} {xs : Array Operand} {ats : Array TypeId} {args : List RV} {Rr : RR → Prop} {Q : RV → Prop} [hfn : FN P f fn] (hf : AC P f args Rr) (hs : ∀ rr, Rr rr → ∃ r, Seals rr r ∧ Q r) (ha : xs.toList.map (ev env) = args.map .ro) (ht : t < C.n)
    (hk : ∀ r, Q r → RunsL P C ops rest k R ⟨(t, .ro r) :: env, σ⟩) :
    RunsL P C ops (⟨some t, .call { callee := .value (.func f), args := xs, argTypes := ats }, ty, pos, after, none⟩ :: rest) k R ⟨env, σ⟩ := by
  refine ⟨fun a w ⟨s1, s2, φ, hG, hH⟩ => ?_⟩
  refine wpList_plain rfl fun K hK' => ?_
  have hr := FitsL.rels (ha ▸ FitsL.ros args) _ (rels_eval (a := a) (m := ⟨w, φ, σ, C.ok⟩) xs.toList fun x hx => ev_rel hH x)
  unfold Oper.wp
  rw [execOp_call_go, run_call hfn]
  simp only [Oper.upon]
  refine (hf w _ _ (ok_args hG) (by simpa using hr)).mono ?_
  rintro e w' ⟨v, rr, bs, rfl, hR, h1, _, h3, h4⟩
  obtain ⟨r, hs', hQ⟩ := hs rr hR
  obtain ⟨g1, g2⟩ := good_below hG h4
  refine hK' _ _ ((hk r hQ).run _ _ ⟨s1, by simp [Act.put, s2], φ, g1, (hH.keeps g2).put (by rw [s2]; exact ht) ?_⟩)
  simp only [AV.rel]
  refine seals_rel (ok := fun x => AV.Mem.ok ⟨w, φ, σ, C.ok⟩ x ∧ x ∉ bs) (fun x hx => hx.1) rr r v bs hs' h1 fun x hx => ok_args hG x (h3 x hx).1
end
end Go.Proofs.Ytdikinkihnepaaa
/- Struct literals. Over any program. -/
namespace Go.Proofs.Ytdikinkihnepaaa
set_option linter.unusedSimpArgs false
set_option linter.unusedVariables false
open Go.RowKit
open AV (Mem Keeps)
class TB (P : Program) (t : TypeId) (pl : outParam (List (Nat × Nat))) (zs : outParam (List Value)) : Prop where
  h : ∃ it fields z, P.info? t = some it ∧ P.underlying t = some (.struct fields) ∧ it.zero = some z ∧ z.cells = zs.toArray ∧ fields.toList.mapM (fun f => (P.info? f.type).map fun i => (f.offset, i.size)) = some pl ∧ ∀ x ∈ zs, x.oneCell' = true
def fillA (pl : List (Nat × Nat)) (env : Env) : List AV → List (Nat × Operand) → Option (List AV)
  | cells, [] => some cells
  | cells, (i, x) :: l => match pl[i]? with
    | some (off, size) => match cells? (ev env x) with
      | some cs => match Nat.beq cs.length size, Nat.ble (off + size) cells.length with
        | true, true => fillA pl env (setsAt cells off cs) l
        | _, _ => none
      | none => none
    | none => none
def aggOf (vs : List AV) : AV := match allRo vs with
  | some rs => .ro (.agg rs)
  | none => .agg vs
theorem sets_array {m : Mem} : ∀ (us : List Value) (k : Nat) (cells : Array Value) (off : Nat) (cs vs : List AV), us.length = cs.length → (∀ (j : Nat) x, cs[j]? = some x → ∃ y, us[j]? = some y ∧ y.oneCell' = true ∧ AV.rel m x y) →
    off + k + cs.length ≤ vs.length → cells.size = vs.length → (∀ (j : Nat) x, vs[j]? = some x → ∃ y, cells[j]? = some y ∧ y.oneCell' = true ∧ AV.rel m x y) →
    ((us.zipIdx k).foldl (fun cs (c, j) => cs.setIfInBounds (off + j) c) cells).size = vs.length ∧ ∀ (j : Nat) x, (setsAt vs (off + k) cs)[j]? = some x → ∃ y, ((us.zipIdx k).foldl (fun cs (c, j) => cs.setIfInBounds (off + j) c) cells)[j]? = some y ∧ y.oneCell' = true ∧ AV.rel m x y
  | [], k, cells, off, cs, vs, hl, hc, hle, hs, hv => by
    have : cs = [] := List.eq_nil_of_length_eq_zero (by simpa using hl.symm)
    subst this
    exact ⟨hs, hv⟩
  | u :: us, k, cells, off, [], vs, hl, hc, hle, hs, hv => by simp at hl
  | u :: us, k, cells, off, c :: cs, vs, hl, hc, hle, hs, hv => by
    simp only [List.length_cons] at hl hle
    rw [List.zipIdx_cons, List.foldl_cons, setsAt]
    have := sets_array us (k + 1) (cells.setIfInBounds (off + k) u) off cs (vs.set (off + k) c) (by omega) (fun j x hj => hc (j + 1) x (by simpa using hj)) (by simp; omega) (by simpa using hs) (fun j x hj => by
      rw [List.getElem?_set] at hj
      split at hj
      · rename_i e
        subst e
        split at hj
        · injection hj with hj; subst hj
          obtain ⟨y, e1, e2, e3⟩ := hc 0 c (by simp)
          simp only [List.getElem?_cons_zero, Option.some.injEq] at e1
          subst e1
          exact ⟨u, Array.getElem?_setIfInBounds_self_of_lt (by omega), e2, e3⟩
        · cases hj
      · rename_i e
        obtain ⟨y, e1, e2, e3⟩ := hv j x hj
        exact ⟨y, by rw [Array.getElem?_setIfInBounds_ne e]; exact e1, e2, e3⟩)
    rw [List.length_set] at this
    rwa [show off + (k + 1) = off + k + 1 by omega] at this
theorem fillA_ok {m : Mem} {env : Env} {a : Act} {pl : List (Nat × Nat)} : ∀ (l : List (Nat × Operand)) (vs vs' : List AV) (cells : Array Value), (∀ p ∈ l, AV.rel m (ev env p.2) (a.eval p.2)) → cells.size = vs.length → (∀ (j : Nat) x, vs[j]? = some x → ∃ y, cells[j]? = some y ∧ y.oneCell' = true ∧ AV.rel m x y) →
    fillA pl env vs l = some vs' → ∃ cells', Instr.fill (pl.toArray[·]?) cells (l.map fun p => (p.1, a.eval p.2)) = some cells' ∧ cells'.size = vs'.length ∧ ∀ (j : Nat) x, vs'[j]? = some x → ∃ y, cells'[j]? = some y ∧ y.oneCell' = true ∧ AV.rel m x y
  | [], vs, vs', cells, _, hs, hv, h => by
    simp only [fillA, Option.some.injEq] at h
    subst h
    exact ⟨cells, rfl, hs, hv⟩
  | (i, x) :: l, vs, vs', cells, hH, hs, hv, h => by
    unfold fillA at h
    split at h
    · rename_i off size hp
      split at h
      · rename_i cs hc
        split at h
        · rename_i hb1 hb2
          have e1 := Nat.eq_of_beq_eq_true hb1
          have e2 := Nat.le_of_ble_eq_true hb2
          obtain ⟨c1, c2⟩ := cells_rel (hH (i, x) (by simp)) hc
          obtain ⟨k1, k2⟩ := sets_array (m := m) (a.eval x).cells.toList 0 cells off cs vs (by simpa using c1) (fun j y hj => by simpa using c2 j y hj) (by omega) hs hv
          rw [Nat.add_zero] at k2
          obtain ⟨cells', q1, q2⟩ := fillA_ok l _ vs' _ (fun p hp => hH p (by simp [hp])) (by rw [setsAt_len]; exact k1) k2 h
          refine ⟨cells', ?_, q2⟩
          simp only [List.map_cons, Instr.fill]
          have : pl.toArray[i]? = some (off, size) := by simpa using hp
          rw [this]
          simp only
          have c1' : (a.eval x).cells.size = cs.length := c1
          rw [if_neg (by rw [c1']; simp; omega), ← q1]
          congr 1
          rw [← Array.foldl_toList, Array.toList_zipIdx]
        · cases h
      · cases h
    · cases h
section
variable {P : Program} {C : Ctx} {env : Env} {σ : List Ob} {t : Nat} {ty : TypeId} {pos : String} {after : Array Edge} {gd : Option (Nat × Bool)}
theorem pu_buildS {tt : TypeId} {parts : Array (Nat × Operand)} {pl : List (Nat × Nat)} {zs : List Value} {vs : List AV} [hb : TB P tt pl zs] (h : fillA pl env (zs.map fun v => .ro (.c v)) parts.toList = some vs) :
    Pur P C ⟨some t, .build tt parts, ty, pos, after, gd⟩ env σ (aggOf vs) :=
  Pur.of (fun a m hG hσ hH => by
    obtain ⟨it, fields, z, h1, h2, h3, h4, h5, h6⟩ := hb.h
    obtain ⟨cells', q1, q2, q3⟩ := fillA_ok (m := m) (a := a) parts.toList _ vs zs.toArray (fun p hp => hH p.2 (by simp [Op.operands]; exact ⟨p.1, by simpa using hp⟩)) (by simp) (fun j x hj => by
      rw [List.getElem?_map, Option.map_eq_some_iff] at hj
      obtain ⟨y, hy, rfl⟩ := hj
      exact ⟨y, by simpa using hy, h6 y (List.mem_of_getElem? hy), by simp [AV.rel, RV.rel]⟩) h
    have hbt : P.built tt (parts.map fun p => (p.1, a.eval p.2)).toList = some cells' := by
      unfold Program.built
      simp only [h1, h2, h3, h5, h4]
      rw [Array.toList_map]
      exact q1
    refine ⟨.agg cells', by simp only [execOp]; exact by simp [run_build m.w tt _ _ hbt], ?_⟩
    have hrel : AV.rels m vs cells'.toList := AV.rels_of _ _ (by simpa using q2) fun j r u hj hu => by
      obtain ⟨y, e1, _, e3⟩ := q3 j r hj
      have : y = u := by simpa [e1] using hu
      rwa [this] at e3
    unfold aggOf
    split
    · rename_i rs hrs
      rw [allRo_eq hrs] at hrel
      simp only [AV.rel, RV.rel]
      exact ⟨_, rfl, rels_ro_inv _ _ hrel⟩
    · simp only [AV.rel]
      exact ⟨_, rfl, hrel⟩)
end
end Go.Proofs.Ytdikinkihnepaaa
/- What the tables of this program say, as instances. Printed by a program (tab.py). -/
namespace Go.Proofs.Ytdikinkihnepaaa
set_option maxRecDepth 100000
instance : T1 Try.prog 2 := ⟨by kernel_rfl⟩
instance : TI Try.prog 2 .i64 := ⟨Try.underlying2⟩
instance : TZ Try.prog 2 [(.int .i64 0)] := ⟨_, _, rfl, rfl, rfl, by decide⟩
instance : T1 Try.prog 3 := ⟨by kernel_rfl⟩
instance : TI Try.prog 3 .i64 := ⟨Try.underlying3⟩
instance : TZ Try.prog 3 [(.int .i64 0)] := ⟨_, _, rfl, rfl, rfl, by decide⟩
instance : T1 Try.prog 4 := ⟨by kernel_rfl⟩
instance : TZ Try.prog 4 [(.bool false)] := ⟨_, _, rfl, rfl, rfl, by decide⟩
instance : T1 Try.prog 5 := ⟨by kernel_rfl⟩
instance : TI Try.prog 5 .u8 := ⟨Try.underlying5⟩
instance : TZ Try.prog 5 [(.int .u8 0)] := ⟨_, _, rfl, rfl, rfl, by decide⟩
instance : T1 Try.prog 6 := ⟨by kernel_rfl⟩
instance : TI Try.prog 6 .u8 := ⟨Try.underlying6⟩
instance : TZ Try.prog 6 [(.int .u8 0)] := ⟨_, _, rfl, rfl, rfl, by decide⟩
instance : FA Try.prog 7 0 0 := ⟨by kernel_rfl⟩
instance : FA Try.prog 7 1 1 := ⟨by kernel_rfl⟩
instance : FA Try.prog 7 2 2 := ⟨by kernel_rfl⟩
instance : FA Try.prog 7 3 3 := ⟨by kernel_rfl⟩
instance : TN Try.prog 7 4 := ⟨by kernel_rfl⟩
instance : TZ Try.prog 7 [(.int .i64 0), (.int .i64 0), (.bool false), (.int .u8 0)] := ⟨_, _, rfl, rfl, rfl, by decide⟩
instance : FA Try.prog 8 0 0 := ⟨by kernel_rfl⟩
instance : FA Try.prog 8 1 1 := ⟨by kernel_rfl⟩
instance : FA Try.prog 8 2 2 := ⟨by kernel_rfl⟩
instance : FA Try.prog 8 3 3 := ⟨by kernel_rfl⟩
instance : TN Try.prog 8 4 := ⟨by kernel_rfl⟩
instance : TZ Try.prog 8 [(.int .i64 0), (.int .i64 0), (.bool false), (.int .u8 0)] := ⟨_, _, rfl, rfl, rfl, by decide⟩
instance : T1 Try.prog 9 := ⟨by kernel_rfl⟩
instance : TS Try.prog 9 := ⟨Try.underlying9⟩
instance : TZ Try.prog 9 [(.string ⟨#[]⟩)] := ⟨_, _, rfl, rfl, rfl, by decide⟩
instance : T1 Try.prog 10 := ⟨by kernel_rfl⟩
instance : TS Try.prog 10 := ⟨Try.underlying10⟩
instance : TZ Try.prog 10 [(.string ⟨#[]⟩)] := ⟨_, _, rfl, rfl, rfl, by decide⟩
instance : T1 Try.prog 11 := ⟨by kernel_rfl⟩
instance : TS Try.prog 11 := ⟨Try.underlying11⟩
instance : TZ Try.prog 11 [(.string ⟨#[]⟩)] := ⟨_, _, rfl, rfl, rfl, by decide⟩
instance : T1 Try.prog 12 := ⟨by kernel_rfl⟩
instance : TI Try.prog 12 .u64 := ⟨Try.underlying12⟩
instance : TZ Try.prog 12 [(.int .u64 0)] := ⟨_, _, rfl, rfl, rfl, by decide⟩
instance : FA Try.prog 13 0 0 := ⟨by kernel_rfl⟩
instance : FA Try.prog 13 1 1 := ⟨by kernel_rfl⟩
instance : TN Try.prog 13 2 := ⟨by kernel_rfl⟩
instance : TZ Try.prog 13 [(.string ⟨#[]⟩), (.int .u64 0)] := ⟨_, _, rfl, rfl, rfl, by decide⟩
instance : FA Try.prog 14 0 0 := ⟨by kernel_rfl⟩
instance : FA Try.prog 14 1 1 := ⟨by kernel_rfl⟩
instance : TN Try.prog 14 2 := ⟨by kernel_rfl⟩
instance : TZ Try.prog 14 [(.string ⟨#[]⟩), (.int .u64 0)] := ⟨_, _, rfl, rfl, rfl, by decide⟩
instance : T1 Try.prog 15 := ⟨by kernel_rfl⟩
instance : TZ Try.prog 15 [(.pointer none)] := ⟨_, _, rfl, rfl, rfl, by decide⟩
instance : T1 Try.prog 16 := ⟨by kernel_rfl⟩
instance : TZ Try.prog 16 [(.pointer none)] := ⟨_, _, rfl, rfl, rfl, by decide⟩
instance : T1 Try.prog 17 := ⟨by kernel_rfl⟩
instance : TZ Try.prog 17 [(.pointer none)] := ⟨_, _, rfl, rfl, rfl, by decide⟩
instance : FA Try.prog 18 0 0 := ⟨by kernel_rfl⟩
instance : TN Try.prog 18 1 := ⟨by kernel_rfl⟩
instance : TZ Try.prog 18 [(.pointer none)] := ⟨_, _, rfl, rfl, rfl, by decide⟩
instance : FA Try.prog 19 0 0 := ⟨by kernel_rfl⟩
instance : TN Try.prog 19 1 := ⟨by kernel_rfl⟩
instance : TZ Try.prog 19 [(.pointer none)] := ⟨_, _, rfl, rfl, rfl, by decide⟩
instance : T1 Try.prog 21 := ⟨by kernel_rfl⟩
instance : TI Try.prog 21 .i32 := ⟨Try.underlying21⟩
instance : TZ Try.prog 21 [(.int .i32 0)] := ⟨_, _, rfl, rfl, rfl, by decide⟩
instance : T1 Try.prog 22 := ⟨by kernel_rfl⟩
instance : TZ Try.prog 22 [(.slice none 0 0)] := ⟨_, _, rfl, rfl, rfl, by decide⟩
instance : SL Try.prog 22 5 ((.int .u8 0)) 1 1 := ⟨Elem.mk' Try.underlying22 (by kernel_rfl) rfl (by decide)⟩
instance : T1 Try.prog 23 := ⟨by kernel_rfl⟩
instance : TZ Try.prog 23 [(.slice none 0 0)] := ⟨_, _, rfl, rfl, rfl, by decide⟩
instance : SL Try.prog 23 25 (.agg #[(.int .i64 0), (.slice none 0 0), (.slice none 0 0)]) 3 56 := ⟨Elem.mk' Try.underlying23 (by kernel_rfl) rfl (by decide)⟩
instance : FA Try.prog 24 0 0 := ⟨by kernel_rfl⟩
instance : FA Try.prog 24 1 1 := ⟨by kernel_rfl⟩
instance : FA Try.prog 24 2 2 := ⟨by kernel_rfl⟩
instance : TN Try.prog 24 3 := ⟨by kernel_rfl⟩
instance : TZ Try.prog 24 [(.int .i64 0), (.slice none 0 0), (.slice none 0 0)] := ⟨_, _, rfl, rfl, rfl, by decide⟩
instance : FA Try.prog 25 0 0 := ⟨by kernel_rfl⟩
instance : FA Try.prog 25 1 1 := ⟨by kernel_rfl⟩
instance : FA Try.prog 25 2 2 := ⟨by kernel_rfl⟩
instance : TN Try.prog 25 3 := ⟨by kernel_rfl⟩
instance : TZ Try.prog 25 [(.int .i64 0), (.slice none 0 0), (.slice none 0 0)] := ⟨_, _, rfl, rfl, rfl, by decide⟩
instance : T1 Try.prog 27 := ⟨by kernel_rfl⟩
instance : TZ Try.prog 27 [(.slice none 0 0)] := ⟨_, _, rfl, rfl, rfl, by decide⟩
instance : SL Try.prog 27 29 (.agg #[(.int .i64 0), (.slice none 0 0), (.slice none 0 0)]) 3 56 := ⟨Elem.mk' Try.underlying27 (by kernel_rfl) rfl (by decide)⟩
instance : FA Try.prog 28 0 0 := ⟨by kernel_rfl⟩
instance : FA Try.prog 28 1 1 := ⟨by kernel_rfl⟩
instance : FA Try.prog 28 2 2 := ⟨by kernel_rfl⟩
instance : TN Try.prog 28 3 := ⟨by kernel_rfl⟩
instance : TZ Try.prog 28 [(.int .i64 0), (.slice none 0 0), (.slice none 0 0)] := ⟨_, _, rfl, rfl, rfl, by decide⟩
instance : FA Try.prog 29 0 0 := ⟨by kernel_rfl⟩
instance : FA Try.prog 29 1 1 := ⟨by kernel_rfl⟩
instance : FA Try.prog 29 2 2 := ⟨by kernel_rfl⟩
instance : TN Try.prog 29 3 := ⟨by kernel_rfl⟩
instance : TZ Try.prog 29 [(.int .i64 0), (.slice none 0 0), (.slice none 0 0)] := ⟨_, _, rfl, rfl, rfl, by decide⟩
instance : T1 Try.prog 36 := ⟨by kernel_rfl⟩
instance : TZ Try.prog 36 [(.slice none 0 0)] := ⟨_, _, rfl, rfl, rfl, by decide⟩
instance : SL Try.prog 36 46 (.agg #[(.string ⟨#[]⟩), (.int .i64 0), (.int .i64 0), (.bool false), (.slice none 0 0), (.slice none 0 0), (.slice none 0 0), (.slice none 0 0)]) 8 136 := ⟨Elem.mk' Try.underlying36 (by kernel_rfl) rfl (by decide)⟩
instance : FA Try.prog 37 0 0 := ⟨by kernel_rfl⟩
instance : TN Try.prog 37 1 := ⟨by kernel_rfl⟩
instance : TZ Try.prog 37 [(.slice none 0 0)] := ⟨_, _, rfl, rfl, rfl, by decide⟩
instance : FA Try.prog 38 0 0 := ⟨by kernel_rfl⟩
instance : TN Try.prog 38 1 := ⟨by kernel_rfl⟩
instance : TZ Try.prog 38 [(.slice none 0 0)] := ⟨_, _, rfl, rfl, rfl, by decide⟩
instance : T1 Try.prog 43 := ⟨by kernel_rfl⟩
instance : TZ Try.prog 43 [(.slice none 0 0)] := ⟨_, _, rfl, rfl, rfl, by decide⟩
instance : SL Try.prog 43 9 ((.string ⟨#[]⟩)) 1 16 := ⟨Elem.mk' Try.underlying43 (by kernel_rfl) rfl (by decide)⟩
instance : T1 Try.prog 44 := ⟨by kernel_rfl⟩
instance : TZ Try.prog 44 [(.slice none 0 0)] := ⟨_, _, rfl, rfl, rfl, by decide⟩
instance : SL Try.prog 44 3 ((.int .i64 0)) 1 8 := ⟨Elem.mk' Try.underlying44 (by kernel_rfl) rfl (by decide)⟩
instance : FA Try.prog 45 0 0 := ⟨by kernel_rfl⟩
instance : FA Try.prog 45 1 1 := ⟨by kernel_rfl⟩
instance : FA Try.prog 45 2 2 := ⟨by kernel_rfl⟩
instance : FA Try.prog 45 3 3 := ⟨by kernel_rfl⟩
instance : FA Try.prog 45 4 4 := ⟨by kernel_rfl⟩
instance : FA Try.prog 45 5 5 := ⟨by kernel_rfl⟩
instance : FA Try.prog 45 6 6 := ⟨by kernel_rfl⟩
instance : FA Try.prog 45 7 7 := ⟨by kernel_rfl⟩
instance : TN Try.prog 45 8 := ⟨by kernel_rfl⟩
instance : TZ Try.prog 45 [(.string ⟨#[]⟩), (.int .i64 0), (.int .i64 0), (.bool false), (.slice none 0 0), (.slice none 0 0), (.slice none 0 0), (.slice none 0 0)] := ⟨_, _, rfl, rfl, rfl, by decide⟩
instance : FA Try.prog 46 0 0 := ⟨by kernel_rfl⟩
instance : FA Try.prog 46 1 1 := ⟨by kernel_rfl⟩
instance : FA Try.prog 46 2 2 := ⟨by kernel_rfl⟩
instance : FA Try.prog 46 3 3 := ⟨by kernel_rfl⟩
instance : FA Try.prog 46 4 4 := ⟨by kernel_rfl⟩
instance : FA Try.prog 46 5 5 := ⟨by kernel_rfl⟩
instance : FA Try.prog 46 6 6 := ⟨by kernel_rfl⟩
instance : FA Try.prog 46 7 7 := ⟨by kernel_rfl⟩
instance : TN Try.prog 46 8 := ⟨by kernel_rfl⟩
instance : TZ Try.prog 46 [(.string ⟨#[]⟩), (.int .i64 0), (.int .i64 0), (.bool false), (.slice none 0 0), (.slice none 0 0), (.slice none 0 0), (.slice none 0 0)] := ⟨_, _, rfl, rfl, rfl, by decide⟩
instance : T1 Try.prog 50 := ⟨by kernel_rfl⟩
instance : TZ Try.prog 50 [(.slice none 0 0)] := ⟨_, _, rfl, rfl, rfl, by decide⟩
instance : SL Try.prog 50 53 (.agg #[(.int .i64 0), (.int .i64 0), (.int .i64 0)]) 3 24 := ⟨Elem.mk' Try.underlying50 (by kernel_rfl) rfl (by decide)⟩
instance : FA Try.prog 52 0 0 := ⟨by kernel_rfl⟩
instance : FA Try.prog 52 1 1 := ⟨by kernel_rfl⟩
instance : FA Try.prog 52 2 2 := ⟨by kernel_rfl⟩
instance : TN Try.prog 52 3 := ⟨by kernel_rfl⟩
instance : TZ Try.prog 52 [(.int .i64 0), (.int .i64 0), (.int .i64 0)] := ⟨_, _, rfl, rfl, rfl, by decide⟩
instance : FA Try.prog 53 0 0 := ⟨by kernel_rfl⟩
instance : FA Try.prog 53 1 1 := ⟨by kernel_rfl⟩
instance : FA Try.prog 53 2 2 := ⟨by kernel_rfl⟩
instance : TN Try.prog 53 3 := ⟨by kernel_rfl⟩
instance : TZ Try.prog 53 [(.int .i64 0), (.int .i64 0), (.int .i64 0)] := ⟨_, _, rfl, rfl, rfl, by decide⟩
instance : FA Try.prog 55 0 0 := ⟨by kernel_rfl⟩
instance : FA Try.prog 55 1 1 := ⟨by kernel_rfl⟩
instance : TN Try.prog 55 2 := ⟨by kernel_rfl⟩
instance : TZ Try.prog 55 [(.slice none 0 0), (.slice none 0 0)] := ⟨_, _, rfl, rfl, rfl, by decide⟩
instance : FA Try.prog 56 0 0 := ⟨by kernel_rfl⟩
instance : FA Try.prog 56 1 1 := ⟨by kernel_rfl⟩
instance : TN Try.prog 56 2 := ⟨by kernel_rfl⟩
instance : TZ Try.prog 56 [(.slice none 0 0), (.slice none 0 0)] := ⟨_, _, rfl, rfl, rfl, by decide⟩
instance : T1 Try.prog 71 := ⟨by kernel_rfl⟩
instance : TZ Try.prog 71 [(.pointer none)] := ⟨_, _, rfl, rfl, rfl, by decide⟩
instance : TN Try.prog 79 256 := ⟨by kernel_rfl⟩
instance : AR Try.prog 79 256 1 := ⟨by kernel_rfl⟩
set_option maxRecDepth 100000 in
instance : TZ Try.prog 79 (List.replicate 256 (.bool false)) := ⟨_, _, rfl, rfl, rfl, fun x hx => by rw [List.eq_of_mem_replicate hx]; rfl⟩
instance : TN Try.prog 80 256 := ⟨by kernel_rfl⟩
instance : AR Try.prog 80 256 1 := ⟨by kernel_rfl⟩
set_option maxRecDepth 100000 in
instance : TZ Try.prog 80 (List.replicate 256 (.bool false)) := ⟨_, _, rfl, rfl, rfl, fun x hx => by rw [List.eq_of_mem_replicate hx]; rfl⟩
instance : T1 Try.prog 84 := ⟨by kernel_rfl⟩
instance : TZ Try.prog 84 [(.pointer none)] := ⟨_, _, rfl, rfl, rfl, by decide⟩
instance : T1 Try.prog 85 := ⟨by kernel_rfl⟩
instance : TZ Try.prog 85 [(.slice none 0 0)] := ⟨_, _, rfl, rfl, rfl, by decide⟩
instance : FA Try.prog 86 0 0 := ⟨by kernel_rfl⟩
instance : FA Try.prog 86 1 1 := ⟨by kernel_rfl⟩
instance : FA Try.prog 86 2 2 := ⟨by kernel_rfl⟩
instance : FA Try.prog 86 3 3 := ⟨by kernel_rfl⟩
instance : TN Try.prog 86 4 := ⟨by kernel_rfl⟩
instance : TZ Try.prog 86 [(.slice none 0 0), (.int .i64 0), (.slice none 0 0), (.slice none 0 0)] := ⟨_, _, rfl, rfl, rfl, by decide⟩
instance : FA Try.prog 87 0 0 := ⟨by kernel_rfl⟩
instance : FA Try.prog 87 1 1 := ⟨by kernel_rfl⟩
instance : FA Try.prog 87 2 2 := ⟨by kernel_rfl⟩
instance : FA Try.prog 87 3 3 := ⟨by kernel_rfl⟩
instance : TN Try.prog 87 4 := ⟨by kernel_rfl⟩
instance : TZ Try.prog 87 [(.slice none 0 0), (.int .i64 0), (.slice none 0 0), (.slice none 0 0)] := ⟨_, _, rfl, rfl, rfl, by decide⟩
instance : FA Try.prog 94 0 0 := ⟨by kernel_rfl⟩
instance : FA Try.prog 94 1 1 := ⟨by kernel_rfl⟩
instance : FA Try.prog 94 2 2 := ⟨by kernel_rfl⟩
instance : FA Try.prog 94 3 3 := ⟨by kernel_rfl⟩
instance : FA Try.prog 94 4 4 := ⟨by kernel_rfl⟩
instance : FA Try.prog 94 5 5 := ⟨by kernel_rfl⟩
instance : FA Try.prog 94 6 6 := ⟨by kernel_rfl⟩
instance : FA Try.prog 94 7 7 := ⟨by kernel_rfl⟩
instance : FA Try.prog 94 8 8 := ⟨by kernel_rfl⟩
instance : FA Try.prog 94 9 9 := ⟨by kernel_rfl⟩
instance : TN Try.prog 94 10 := ⟨by kernel_rfl⟩
instance : TZ Try.prog 94 [(.int .i64 0), (.int .i64 0), (.slice none 0 0), (.slice none 0 0), (.int .i64 0), (.bool false), (.bool false), (.int .i64 0), (.int .i64 0), (.int .i64 0)] := ⟨_, _, rfl, rfl, rfl, by decide⟩
instance : FA Try.prog 95 0 0 := ⟨by kernel_rfl⟩
instance : FA Try.prog 95 1 1 := ⟨by kernel_rfl⟩
instance : FA Try.prog 95 2 2 := ⟨by kernel_rfl⟩
instance : FA Try.prog 95 3 3 := ⟨by kernel_rfl⟩
instance : FA Try.prog 95 4 4 := ⟨by kernel_rfl⟩
instance : FA Try.prog 95 5 5 := ⟨by kernel_rfl⟩
instance : FA Try.prog 95 6 6 := ⟨by kernel_rfl⟩
instance : FA Try.prog 95 7 7 := ⟨by kernel_rfl⟩
instance : FA Try.prog 95 8 8 := ⟨by kernel_rfl⟩
instance : FA Try.prog 95 9 9 := ⟨by kernel_rfl⟩
instance : TN Try.prog 95 10 := ⟨by kernel_rfl⟩
instance : TZ Try.prog 95 [(.int .i64 0), (.int .i64 0), (.slice none 0 0), (.slice none 0 0), (.int .i64 0), (.bool false), (.bool false), (.int .i64 0), (.int .i64 0), (.int .i64 0)] := ⟨_, _, rfl, rfl, rfl, by decide⟩
instance : FA Try.prog 101 0 0 := ⟨by kernel_rfl⟩
instance : FA Try.prog 101 1 1 := ⟨by kernel_rfl⟩
instance : FA Try.prog 101 2 2 := ⟨by kernel_rfl⟩
instance : TN Try.prog 101 3 := ⟨by kernel_rfl⟩
instance : TZ Try.prog 101 [(.slice none 0 0), (.int .i64 0), (.int .i64 0)] := ⟨_, _, rfl, rfl, rfl, by decide⟩
instance : FA Try.prog 102 0 0 := ⟨by kernel_rfl⟩
instance : FA Try.prog 102 1 1 := ⟨by kernel_rfl⟩
instance : FA Try.prog 102 2 2 := ⟨by kernel_rfl⟩
instance : TN Try.prog 102 3 := ⟨by kernel_rfl⟩
instance : TZ Try.prog 102 [(.slice none 0 0), (.int .i64 0), (.int .i64 0)] := ⟨_, _, rfl, rfl, rfl, by decide⟩
instance : T1 Try.prog 121 := ⟨by kernel_rfl⟩
instance : TI Try.prog 121 .u64 := ⟨Try.underlying121⟩
instance : TZ Try.prog 121 [(.int .u64 0)] := ⟨_, _, rfl, rfl, rfl, by decide⟩
instance : T1 Try.prog 131 := ⟨by kernel_rfl⟩
instance : TZ Try.prog 131 [(.pointer none)] := ⟨_, _, rfl, rfl, rfl, by decide⟩
instance : TN Try.prog 137 18 := ⟨by kernel_rfl⟩
instance : AR Try.prog 137 18 1 := ⟨by kernel_rfl⟩
instance : T1 Try.prog 141 := ⟨by kernel_rfl⟩
instance : TZ Try.prog 141 [(.pointer none)] := ⟨_, _, rfl, rfl, rfl, by decide⟩
instance : FA Try.prog 145 0 0 := ⟨by kernel_rfl⟩
instance : FA Try.prog 145 1 1 := ⟨by kernel_rfl⟩
instance : FA Try.prog 145 2 2 := ⟨by kernel_rfl⟩
instance : FA Try.prog 145 3 3 := ⟨by kernel_rfl⟩
instance : TN Try.prog 145 4 := ⟨by kernel_rfl⟩
instance : TZ Try.prog 145 [(.pointer none), (.pointer none), (.pointer none), (.string ⟨#[]⟩)] := ⟨_, _, rfl, rfl, rfl, by decide⟩
instance : FA Try.prog 146 0 0 := ⟨by kernel_rfl⟩
instance : FA Try.prog 146 1 1 := ⟨by kernel_rfl⟩
instance : FA Try.prog 146 2 2 := ⟨by kernel_rfl⟩
instance : FA Try.prog 146 3 3 := ⟨by kernel_rfl⟩
instance : TN Try.prog 146 4 := ⟨by kernel_rfl⟩
instance : TZ Try.prog 146 [(.pointer none), (.pointer none), (.pointer none), (.string ⟨#[]⟩)] := ⟨_, _, rfl, rfl, rfl, by decide⟩
instance : TN Try.prog 147 0 := ⟨by kernel_rfl⟩
instance : AR Try.prog 147 0 1 := ⟨by kernel_rfl⟩
instance : T1 Try.prog 150 := ⟨by kernel_rfl⟩
instance : TI Try.prog 150 .u32 := ⟨Try.underlying150⟩
instance : TZ Try.prog 150 [(.int .u32 0)] := ⟨_, _, rfl, rfl, rfl, by decide⟩
instance : T1 Try.prog 151 := ⟨by kernel_rfl⟩
instance : TI Try.prog 151 .u8 := ⟨Try.underlying151⟩
instance : TZ Try.prog 151 [(.int .u8 0)] := ⟨_, _, rfl, rfl, rfl, by decide⟩
instance : T1 Try.prog 152 := ⟨by kernel_rfl⟩
instance : TI Try.prog 152 .u8 := ⟨Try.underlying152⟩
instance : TZ Try.prog 152 [(.int .u8 0)] := ⟨_, _, rfl, rfl, rfl, by decide⟩
instance : T1 Try.prog 154 := ⟨by kernel_rfl⟩
instance : TZ Try.prog 154 [(.pointer none)] := ⟨_, _, rfl, rfl, rfl, by decide⟩
instance : T1 Try.prog 155 := ⟨by kernel_rfl⟩
instance : TI Try.prog 155 .i32 := ⟨Try.underlying155⟩
instance : TZ Try.prog 155 [(.int .i32 0)] := ⟨_, _, rfl, rfl, rfl, by decide⟩
instance : T1 Try.prog 156 := ⟨by kernel_rfl⟩
instance : TI Try.prog 156 .i32 := ⟨Try.underlying156⟩
instance : TZ Try.prog 156 [(.int .i32 0)] := ⟨_, _, rfl, rfl, rfl, by decide⟩
instance : FA Try.prog 157 0 0 := ⟨by kernel_rfl⟩
instance : FA Try.prog 157 1 1 := ⟨by kernel_rfl⟩
instance : FA Try.prog 157 2 2 := ⟨by kernel_rfl⟩
instance : FA Try.prog 157 3 3 := ⟨by kernel_rfl⟩
instance : FA Try.prog 157 4 4 := ⟨by kernel_rfl⟩
instance : FA Try.prog 157 5 5 := ⟨by kernel_rfl⟩
instance : FA Try.prog 157 6 6 := ⟨by kernel_rfl⟩
instance : FA Try.prog 157 8 8 := ⟨by kernel_rfl⟩
instance : FA Try.prog 157 9 9 := ⟨by kernel_rfl⟩
instance : FA Try.prog 157 10 10 := ⟨by kernel_rfl⟩
instance : TN Try.prog 157 11 := ⟨by kernel_rfl⟩
instance : TZ Try.prog 157 [(.int .u64 0), (.int .u64 0), (.int .u32 0), (.int .u8 0), (.int .u8 0), (.int .u8 0), (.int .u8 0), .nilFunc, (.pointer none), (.int .i32 0), (.int .i32 0)] := ⟨_, _, rfl, rfl, rfl, by decide⟩
instance : FA Try.prog 158 0 0 := ⟨by kernel_rfl⟩
instance : FA Try.prog 158 1 1 := ⟨by kernel_rfl⟩
instance : FA Try.prog 158 2 2 := ⟨by kernel_rfl⟩
instance : FA Try.prog 158 3 3 := ⟨by kernel_rfl⟩
instance : FA Try.prog 158 4 4 := ⟨by kernel_rfl⟩
instance : FA Try.prog 158 5 5 := ⟨by kernel_rfl⟩
instance : FA Try.prog 158 6 6 := ⟨by kernel_rfl⟩
instance : FA Try.prog 158 8 8 := ⟨by kernel_rfl⟩
instance : FA Try.prog 158 9 9 := ⟨by kernel_rfl⟩
instance : FA Try.prog 158 10 10 := ⟨by kernel_rfl⟩
instance : TN Try.prog 158 11 := ⟨by kernel_rfl⟩
instance : TZ Try.prog 158 [(.int .u64 0), (.int .u64 0), (.int .u32 0), (.int .u8 0), (.int .u8 0), (.int .u8 0), (.int .u8 0), .nilFunc, (.pointer none), (.int .i32 0), (.int .i32 0)] := ⟨_, _, rfl, rfl, rfl, by decide⟩
instance : FN Try.prog 3 Try.f3 := ⟨Try.func3, by kernel_rfl, by kernel_rfl⟩
instance : FN Try.prog 4 Try.f4 := ⟨Try.func4, by kernel_rfl, by kernel_rfl⟩
instance : FN Try.prog 5 Try.f5 := ⟨Try.func5, by kernel_rfl, by kernel_rfl⟩
instance : FN Try.prog 6 Try.f6 := ⟨Try.func6, by kernel_rfl, by kernel_rfl⟩
instance : FN Try.prog 7 Try.f7 := ⟨Try.func7, by kernel_rfl, by kernel_rfl⟩
instance : FN Try.prog 8 Try.f8 := ⟨Try.func8, by kernel_rfl, by kernel_rfl⟩
instance : FN Try.prog 9 Try.f9 := ⟨Try.func9, by kernel_rfl, by kernel_rfl⟩
instance : FN Try.prog 10 Try.f10 := ⟨Try.func10, by kernel_rfl, by kernel_rfl⟩
instance : FN Try.prog 11 Try.f11 := ⟨Try.func11, by kernel_rfl, by kernel_rfl⟩
instance : FN Try.prog 12 Try.f12 := ⟨Try.func12, by kernel_rfl, by kernel_rfl⟩
instance : FN Try.prog 13 Try.f13 := ⟨Try.func13, by kernel_rfl, by kernel_rfl⟩
instance : FN Try.prog 14 Try.f14 := ⟨Try.func14, by kernel_rfl, by kernel_rfl⟩
instance : FN Try.prog 15 Try.f15 := ⟨Try.func15, by kernel_rfl, by kernel_rfl⟩
instance : FN Try.prog 16 Try.f16 := ⟨Try.func16, by kernel_rfl, by kernel_rfl⟩
instance : FN Try.prog 17 Try.f17 := ⟨Try.func17, by kernel_rfl, by kernel_rfl⟩
instance : FN Try.prog 18 Try.f18 := ⟨Try.func18, by kernel_rfl, by kernel_rfl⟩
instance : FN Try.prog 19 Try.f19 := ⟨Try.func19, by kernel_rfl, by kernel_rfl⟩
instance : FN Try.prog 20 Try.f20 := ⟨Try.func20, by kernel_rfl, by kernel_rfl⟩
instance : FN Try.prog 21 Try.f21 := ⟨Try.func21, by kernel_rfl, by kernel_rfl⟩
instance : FN Try.prog 22 Try.f22 := ⟨Try.func22, by kernel_rfl, by kernel_rfl⟩
instance : FN Try.prog 23 Try.f23 := ⟨Try.func23, by kernel_rfl, by kernel_rfl⟩
instance : FN Try.prog 24 Try.f24 := ⟨Try.func24, by kernel_rfl, by kernel_rfl⟩
instance : FN Try.prog 25 Try.f25 := ⟨Try.func25, by kernel_rfl, by kernel_rfl⟩
instance : FN Try.prog 26 Try.f26 := ⟨Try.func26, by kernel_rfl, by kernel_rfl⟩
instance : FN Try.prog 27 Try.f27 := ⟨Try.func27, by kernel_rfl, by kernel_rfl⟩
instance : FN Try.prog 28 Try.f28 := ⟨Try.func28, by kernel_rfl, by kernel_rfl⟩
instance : FN Try.prog 29 Try.f29 := ⟨Try.func29, by kernel_rfl, by kernel_rfl⟩
instance : FN Try.prog 30 Try.f30 := ⟨Try.func30, by kernel_rfl, by kernel_rfl⟩
instance : FN Try.prog 31 Try.f31 := ⟨Try.func31, by kernel_rfl, by kernel_rfl⟩
instance : FN Try.prog 32 Try.f32 := ⟨Try.func32, by kernel_rfl, by kernel_rfl⟩
instance : FN Try.prog 33 Try.f33 := ⟨Try.func33, by kernel_rfl, by kernel_rfl⟩
instance : FN Try.prog 34 Try.f34 := ⟨Try.func34, by kernel_rfl, by kernel_rfl⟩
instance : FN Try.prog 35 Try.f35 := ⟨Try.func35, by kernel_rfl, by kernel_rfl⟩
instance : FN Try.prog 36 Try.f36 := ⟨Try.func36, by kernel_rfl, by kernel_rfl⟩
instance : FN Try.prog 37 Try.f37 := ⟨Try.func37, by kernel_rfl, by kernel_rfl⟩
instance : FN Try.prog 38 Try.f38 := ⟨Try.func38, by kernel_rfl, by kernel_rfl⟩
instance : FN Try.prog 39 Try.f39 := ⟨Try.func39, by kernel_rfl, by kernel_rfl⟩
instance : FN Try.prog 40 Try.f40 := ⟨Try.func40, by kernel_rfl, by kernel_rfl⟩
instance : FN Try.prog 41 Try.f41 := ⟨Try.func41, by kernel_rfl, by kernel_rfl⟩
instance : FN Try.prog 42 Try.f42 := ⟨Try.func42, by kernel_rfl, by kernel_rfl⟩
instance : FN Try.prog 43 Try.f43 := ⟨Try.func43, by kernel_rfl, by kernel_rfl⟩
instance : FN Try.prog 44 Try.f44 := ⟨Try.func44, by kernel_rfl, by kernel_rfl⟩
instance : FN Try.prog 45 Try.f45 := ⟨Try.func45, by kernel_rfl, by kernel_rfl⟩
instance : FN Try.prog 46 Try.f46 := ⟨Try.func46, by kernel_rfl, by kernel_rfl⟩
instance : FN Try.prog 47 Try.f47 := ⟨Try.func47, by kernel_rfl, by kernel_rfl⟩
instance : FN Try.prog 48 Try.f48 := ⟨Try.func48, by kernel_rfl, by kernel_rfl⟩
instance : FN Try.prog 49 Try.f49 := ⟨Try.func49, by kernel_rfl, by kernel_rfl⟩
instance : FN Try.prog 50 Try.f50 := ⟨Try.func50, by kernel_rfl, by kernel_rfl⟩
instance : FN Try.prog 51 Try.f51 := ⟨Try.func51, by kernel_rfl, by kernel_rfl⟩
instance : FN Try.prog 52 Try.f52 := ⟨Try.func52, by kernel_rfl, by kernel_rfl⟩
instance : FN Try.prog 53 Try.f53 := ⟨Try.func53, by kernel_rfl, by kernel_rfl⟩
instance : FN Try.prog 54 Try.f54 := ⟨Try.func54, by kernel_rfl, by kernel_rfl⟩
instance : FN Try.prog 55 Try.f55 := ⟨Try.func55, by kernel_rfl, by kernel_rfl⟩
instance : FN Try.prog 56 Try.f56 := ⟨Try.func56, by kernel_rfl, by kernel_rfl⟩
instance : FN Try.prog 57 Try.f57 := ⟨Try.func57, by kernel_rfl, by kernel_rfl⟩
instance : FN Try.prog 58 Try.f58 := ⟨Try.func58, by kernel_rfl, by kernel_rfl⟩
instance : FN Try.prog 59 Try.f59 := ⟨Try.func59, by kernel_rfl, by kernel_rfl⟩
instance : FN Try.prog 60 Try.f60 := ⟨Try.func60, by kernel_rfl, by kernel_rfl⟩
instance : FN Try.prog 61 Try.f61 := ⟨Try.func61, by kernel_rfl, by kernel_rfl⟩
instance : FN Try.prog 62 Try.f62 := ⟨Try.func62, by kernel_rfl, by kernel_rfl⟩
instance : FN Try.prog 63 Try.f63 := ⟨Try.func63, by kernel_rfl, by kernel_rfl⟩
instance : FN Try.prog 64 Try.f64 := ⟨Try.func64, by kernel_rfl, by kernel_rfl⟩
instance : FN Try.prog 65 Try.f65 := ⟨Try.func65, by kernel_rfl, by kernel_rfl⟩
instance : FN Try.prog 66 Try.f66 := ⟨Try.func66, by kernel_rfl, by kernel_rfl⟩
instance : FN Try.prog 67 Try.f67 := ⟨Try.func67, by kernel_rfl, by kernel_rfl⟩
instance : FN Try.prog 68 Try.f68 := ⟨Try.func68, by kernel_rfl, by kernel_rfl⟩
instance : FN Try.prog 69 Try.f69 := ⟨Try.func69, by kernel_rfl, by kernel_rfl⟩
instance : FN Try.prog 70 Try.f70 := ⟨Try.func70, by kernel_rfl, by kernel_rfl⟩
instance : FN Try.prog 71 Try.f71 := ⟨Try.func71, by kernel_rfl, by kernel_rfl⟩
instance : FN Try.prog 72 Try.f72 := ⟨Try.func72, by kernel_rfl, by kernel_rfl⟩
instance : FN Try.prog 73 Try.f73 := ⟨Try.func73, by kernel_rfl, by kernel_rfl⟩
instance : FN Try.prog 74 Try.f74 := ⟨Try.func74, by kernel_rfl, by kernel_rfl⟩
instance : FN Try.prog 75 Try.f75 := ⟨Try.func75, by kernel_rfl, by kernel_rfl⟩
instance : FN Try.prog 76 Try.f76 := ⟨Try.func76, by kernel_rfl, by kernel_rfl⟩
instance : FN Try.prog 77 Try.f77 := ⟨Try.func77, by kernel_rfl, by kernel_rfl⟩
instance : FN Try.prog 78 Try.f78 := ⟨Try.func78, by kernel_rfl, by kernel_rfl⟩
instance : FN Try.prog 79 Try.f79 := ⟨Try.func79, by kernel_rfl, by kernel_rfl⟩
instance : FN Try.prog 80 Try.f80 := ⟨Try.func80, by kernel_rfl, by kernel_rfl⟩
instance : FN Try.prog 81 Try.f81 := ⟨Try.func81, by kernel_rfl, by kernel_rfl⟩
instance : FN Try.prog 82 Try.f82 := ⟨Try.func82, by kernel_rfl, by kernel_rfl⟩
instance : FN Try.prog 83 Try.f83 := ⟨Try.func83, by kernel_rfl, by kernel_rfl⟩
instance : FN Try.prog 84 Try.f84 := ⟨Try.func84, by kernel_rfl, by kernel_rfl⟩
instance : FN Try.prog 85 Try.f85 := ⟨Try.func85, by kernel_rfl, by kernel_rfl⟩
instance : FN Try.prog 86 Try.f86 := ⟨Try.func86, by kernel_rfl, by kernel_rfl⟩
instance : FN Try.prog 87 Try.f87 := ⟨Try.func87, by kernel_rfl, by kernel_rfl⟩
instance : FN Try.prog 88 Try.f88 := ⟨Try.func88, by kernel_rfl, by kernel_rfl⟩
instance : FN Try.prog 89 Try.f89 := ⟨Try.func89, by kernel_rfl, by kernel_rfl⟩
instance : FN Try.prog 90 Try.f90 := ⟨Try.func90, by kernel_rfl, by kernel_rfl⟩
instance : FN Try.prog 91 Try.f91 := ⟨Try.func91, by kernel_rfl, by kernel_rfl⟩
instance : FN Try.prog 92 Try.f92 := ⟨Try.func92, by kernel_rfl, by kernel_rfl⟩
instance : FN Try.prog 93 Try.f93 := ⟨Try.func93, by kernel_rfl, by kernel_rfl⟩
instance : FN Try.prog 94 Try.f94 := ⟨Try.func94, by kernel_rfl, by kernel_rfl⟩
instance : FN Try.prog 95 Try.f95 := ⟨Try.func95, by kernel_rfl, by kernel_rfl⟩
instance : FN Try.prog 96 Try.f96 := ⟨Try.func96, by kernel_rfl, by kernel_rfl⟩
instance : FN Try.prog 97 Try.f97 := ⟨Try.func97, by kernel_rfl, by kernel_rfl⟩
instance : FN Try.prog 98 Try.f98 := ⟨Try.func98, by kernel_rfl, by kernel_rfl⟩
instance : FN Try.prog 99 Try.f99 := ⟨Try.func99, by kernel_rfl, by kernel_rfl⟩
instance : FN Try.prog 100 Try.f100 := ⟨Try.func100, by kernel_rfl, by kernel_rfl⟩
instance : FN Try.prog 101 Try.f101 := ⟨Try.func101, by kernel_rfl, by kernel_rfl⟩
instance : FN Try.prog 102 Try.f102 := ⟨Try.func102, by kernel_rfl, by kernel_rfl⟩
instance : FN Try.prog 103 Try.f103 := ⟨Try.func103, by kernel_rfl, by kernel_rfl⟩
instance : FN Try.prog 104 Try.f104 := ⟨Try.func104, by kernel_rfl, by kernel_rfl⟩
instance : FN Try.prog 105 Try.f105 := ⟨Try.func105, by kernel_rfl, by kernel_rfl⟩
instance : FN Try.prog 106 Try.f106 := ⟨Try.func106, by kernel_rfl, by kernel_rfl⟩
instance : FN Try.prog 107 Try.f107 := ⟨Try.func107, by kernel_rfl, by kernel_rfl⟩
instance : FN Try.prog 108 Try.f108 := ⟨Try.func108, by kernel_rfl, by kernel_rfl⟩
instance : FN Try.prog 109 Try.f109 := ⟨Try.func109, by kernel_rfl, by kernel_rfl⟩
instance : FN Try.prog 110 Try.f110 := ⟨Try.func110, by kernel_rfl, by kernel_rfl⟩
instance : FN Try.prog 111 Try.f111 := ⟨Try.func111, by kernel_rfl, by kernel_rfl⟩
instance : FN Try.prog 112 Try.f112 := ⟨Try.func112, by kernel_rfl, by kernel_rfl⟩
instance : FN Try.prog 113 Try.f113 := ⟨Try.func113, by kernel_rfl, by kernel_rfl⟩
instance : FN Try.prog 114 Try.f114 := ⟨Try.func114, by kernel_rfl, by kernel_rfl⟩
instance : FN Try.prog 115 Try.f115 := ⟨Try.func115, by kernel_rfl, by kernel_rfl⟩
instance : FN Try.prog 116 Try.f116 := ⟨Try.func116, by kernel_rfl, by kernel_rfl⟩
instance : FN Try.prog 117 Try.f117 := ⟨Try.func117, by kernel_rfl, by kernel_rfl⟩
instance : FN Try.prog 118 Try.f118 := ⟨Try.func118, by kernel_rfl, by kernel_rfl⟩
instance : FN Try.prog 119 Try.f119 := ⟨Try.func119, by kernel_rfl, by kernel_rfl⟩
instance : FN Try.prog 120 Try.f120 := ⟨Try.func120, by kernel_rfl, by kernel_rfl⟩
instance : FN Try.prog 121 Try.f121 := ⟨Try.func121, by kernel_rfl, by kernel_rfl⟩
instance : FN Try.prog 122 Try.f122 := ⟨Try.func122, by kernel_rfl, by kernel_rfl⟩
instance : FN Try.prog 123 Try.f123 := ⟨Try.func123, by kernel_rfl, by kernel_rfl⟩
instance : FN Try.prog 124 Try.f124 := ⟨Try.func124, by kernel_rfl, by kernel_rfl⟩
instance : FN Try.prog 125 Try.f125 := ⟨Try.func125, by kernel_rfl, by kernel_rfl⟩
instance : FN Try.prog 126 Try.f126 := ⟨Try.func126, by kernel_rfl, by kernel_rfl⟩
instance : FN Try.prog 127 Try.f127 := ⟨Try.func127, by kernel_rfl, by kernel_rfl⟩
instance : FN Try.prog 128 Try.f128 := ⟨Try.func128, by kernel_rfl, by kernel_rfl⟩
instance : FN Try.prog 129 Try.f129 := ⟨Try.func129, by kernel_rfl, by kernel_rfl⟩
instance : FN Try.prog 130 Try.f130 := ⟨Try.func130, by kernel_rfl, by kernel_rfl⟩
instance : FN Try.prog 131 Try.f131 := ⟨Try.func131, by kernel_rfl, by kernel_rfl⟩
instance : FN Try.prog 132 Try.f132 := ⟨Try.func132, by kernel_rfl, by kernel_rfl⟩
instance : FN Try.prog 133 Try.f133 := ⟨Try.func133, by kernel_rfl, by kernel_rfl⟩
instance : FN Try.prog 134 Try.f134 := ⟨Try.func134, by kernel_rfl, by kernel_rfl⟩
instance : FN Try.prog 135 Try.f135 := ⟨Try.func135, by kernel_rfl, by kernel_rfl⟩
instance : FN Try.prog 136 Try.f136 := ⟨Try.func136, by kernel_rfl, by kernel_rfl⟩
instance : FN Try.prog 137 Try.f137 := ⟨Try.func137, by kernel_rfl, by kernel_rfl⟩
instance : FN Try.prog 138 Try.f138 := ⟨Try.func138, by kernel_rfl, by kernel_rfl⟩
instance : FN Try.prog 139 Try.f139 := ⟨Try.func139, by kernel_rfl, by kernel_rfl⟩
instance : FN Try.prog 140 Try.f140 := ⟨Try.func140, by kernel_rfl, by kernel_rfl⟩
instance : FN Try.prog 141 Try.f141 := ⟨Try.func141, by kernel_rfl, by kernel_rfl⟩
instance : FN Try.prog 142 Try.f142 := ⟨Try.func142, by kernel_rfl, by kernel_rfl⟩
instance : FN Try.prog 143 Try.f143 := ⟨Try.func143, by kernel_rfl, by kernel_rfl⟩
instance : FN Try.prog 144 Try.f144 := ⟨Try.func144, by kernel_rfl, by kernel_rfl⟩
instance : FN Try.prog 145 Try.f145 := ⟨Try.func145, by kernel_rfl, by kernel_rfl⟩
instance : FN Try.prog 146 Try.f146 := ⟨Try.func146, by kernel_rfl, by kernel_rfl⟩
instance : FN Try.prog 147 Try.f147 := ⟨Try.func147, by kernel_rfl, by kernel_rfl⟩
instance : FN Try.prog 148 Try.f148 := ⟨Try.func148, by kernel_rfl, by kernel_rfl⟩
instance : FN Try.prog 149 Try.f149 := ⟨Try.func149, by kernel_rfl, by kernel_rfl⟩
instance : FN Try.prog 150 Try.f150 := ⟨Try.func150, by kernel_rfl, by kernel_rfl⟩
instance : FN Try.prog 151 Try.f151 := ⟨Try.func151, by kernel_rfl, by kernel_rfl⟩
instance : FN Try.prog 152 Try.f152 := ⟨Try.func152, by kernel_rfl, by kernel_rfl⟩
instance : FN Try.prog 153 Try.f153 := ⟨Try.func153, by kernel_rfl, by kernel_rfl⟩
instance : FN Try.prog 154 Try.f154 := ⟨Try.func154, by kernel_rfl, by kernel_rfl⟩
instance : FN Try.prog 155 Try.f155 := ⟨Try.func155, by kernel_rfl, by kernel_rfl⟩
instance : FN Try.prog 156 Try.f156 := ⟨Try.func156, by kernel_rfl, by kernel_rfl⟩
instance : FN Try.prog 157 Try.f157 := ⟨Try.func157, by kernel_rfl, by kernel_rfl⟩
instance : FN Try.prog 158 Try.f158 := ⟨Try.func158, by kernel_rfl, by kernel_rfl⟩
instance : FN Try.prog 159 Try.f159 := ⟨Try.func159, by kernel_rfl, by kernel_rfl⟩
def tab : Tab := ⟨[(25, [0, 1, 2]), (29, [0, 1, 2]), (38, [0]), (46, [0, 1, 2, 3, 4, 5, 6, 7]), (53, [0, 1, 2]), (56, [0, 1]), (87, [0, 1, 2, 3]), (95, [0, 1, 2, 3, 4, 5, 6, 7, 8, 9]), (102, [0, 1, 2])], [2, 3, 4, 5, 9, 21, 22, 23, 27, 36, 43, 44, 50, 71, 84, 85, 121, 131, 141, 150, 154], [(25, 3), (29, 3), (38, 1), (46, 8), (53, 3), (56, 2), (79, 256), (80, 256), (87, 4), (95, 10), (102, 3), (137, 18), (147, 0)], [22, 23, 27, 36, 43, 44, 50, 85], [9], [4]⟩
theorem tabOk : TabOk Try.prog tab := ⟨by kernel_rfl, by kernel_rfl, by kernel_rfl, by kernel_rfl, by kernel_rfl, by kernel_rfl⟩
theorem mixed : Try.prog.follows .mixedOrders = true := by kernel_rfl
def plains : List Nat := [2, 3, 4, 5, 6, 7, 9, 12, 13, 21, 22, 23, 24, 25, 27, 28, 29, 36, 37, 38, 43, 44, 45, 46, 50, 52, 53, 55, 56, 86, 87, 94, 95, 101, 102, 121, 150]
theorem plainsOk : (plains.all (typB Try.prog plains)) = true := by kernel_rfl
end Go.Proofs.Ytdikinkihnepaaa
/- The laws' own helpers on slices of integers, over values: sizes, copies, comparisons. -/
namespace Go.Proofs.Ytdikinkihnepaaa
set_option linter.unusedSimpArgs false
set_option linter.unusedVariables false
open Go.RowKit
def sz1 (left n : Int) : Int := if left < n then -1 else left - n
theorem sz1_neg {left n : Int} (h : left < n) : sz1 left n = -1 := if_pos h
theorem sz1_pos {left n : Int} (h : n ≤ left) : sz1 left n = left - n := if_neg (by omega)
theorem sz1_lt {left n : Int} (h : sz1 left n < 0) : sz1 left n = -1 := by
  by_cases hl : left < n
  · exact sz1_neg hl
  · rw [sz1_pos (by omega)] at h; omega
theorem sz1_ge {left n : Int} (h : ¬ sz1 left n < 0) : n ≤ left := by
  by_cases hl : left < n
  · rw [sz1_neg hl] at h; omega
  · omega
theorem seals_ints (e : TypeId) (l : List Int) : Seals (.row e 1 (l.map RV.int)) (intsR l) := by
  have h := seals_row1 e (l.map RV.int)
  rwa [List.map_map] at h
theorem take_set {α : Type} (l : List α) (z : α) (n k : Nat) (hn : l.length = n) (x : α) (hx : l[k]? = some x) : (l.take k ++ List.replicate (n - k) z).set k x = l.take (k + 1) ++ List.replicate (n - (k + 1)) z := by
  obtain ⟨hk, rfl⟩ := List.getElem?_eq_some_iff.1 hx
  exact set_step l z n k hn (by omega) hk
end Go.Proofs.Ytdikinkihnepaaa
/- The laws' own helpers on programs, over values: sizes, copies, comparisons. -/
namespace Go.Proofs.Ytdikinkihnepaaa
set_option linter.unusedSimpArgs false
set_option linter.unusedVariables false
open Go.RowKit
structure Ins where
  op : Int
  a : Int
  b : Int
structure Prg where
  code : List Ins
  entries : List Int
def insR (i : Ins) : List RV := [.int i.op, .int i.a, .int i.b]
def inssR (l : List Ins) : RV := .seq 3 (l.map insR)
def prgR (p : Prg) : RV := .agg [inssR p.code, intsR p.entries]
theorem insR_len (i : Ins) : (insR i).length = 3 := rfl
end Go.Proofs.Ytdikinkihnepaaa
/- A program, opened. -/
namespace Go.Proofs.Ytdikinkihnepaaa
set_option linter.unusedSimpArgs false
set_option linter.unusedVariables false
open Go.RowKit
def InsOk (i : Ins) : Prop := I64 i.op ∧ I64 i.a ∧ I64 i.b
structure PrgOk (p : Prg) : Prop where
  code : ∀ i ∈ p.code, InsOk i
  entries : ∀ e ∈ p.entries, I64 e
  clen : p.code.length ≤ maxLen
  elen : p.entries.length ≤ maxLen
end Go.Proofs.Ytdikinkihnepaaa
/- Equality of slices and of programs: both sides return the same. -/
namespace Go.Proofs.Ytdikinkihnepaaa
set_option linter.unusedSimpArgs false
set_option linter.unusedVariables false
open Go.RowKit
deriving instance DecidableEq for Ins
deriving instance DecidableEq for Prg
section
variable {α : Type} {a b : List α} {j : Nat} {x y : α}
theorem take_eq_next (h : a.take j = b.take j) (hx : a[j]? = some x) (hy : b[j]? = some x) : a.take (j + 1) = b.take (j + 1) := by
  rw [List.take_add_one, List.take_add_one, h, hx, hy]
theorem take_eq_not (hx : a[j]? = some x) (hy : b[j]? = some y) (hn : x ≠ y) : a ≠ b := by
  rintro rfl
  rw [hx] at hy; injection hy with hy; exact hn hy
theorem take_eq_all (h : a.take a.length = b.take a.length) (hl : a.length = b.length) : a = b := by
  rw [List.take_length] at h; rw [hl, List.take_length] at h; exact h
end
def insV (i : Ins) : List Value := [.int .i64 i.op, .int .i64 i.a, .int .i64 i.b]
theorem ins_eqIn (i j : Ins) (d : Nat) (w : World) : (Op.equalIn (d + 2) 53 (.agg (insV i).toArray) (.agg (insV j).toArray)).run Try.prog w = .ok (decide (i = j)) w := by
  have hu : Try.prog.underlying 3 = some (.int .i64) := Try.underlying3
  rw [run_equalIn_agg w (d + 1) 53 _ _ (by kernel_rfl) (by kernel_rfl)]
  unfold Program.fieldsOf
  rw [Try.underlying53]
  simp [insV, go_sem, Op.eqFields, run_equalIn_int w d 3 .i64 .i64 _ _ hu]
  obtain ⟨a, b, c⟩ := i
  obtain ⟨x, y, z⟩ := j
  simp only [Ins.mk.injEq]
  split
  · split
    · split <;> simp_all
    · simp_all
  · simp_all
theorem ins_neq (x y : Operand) (i j : Ins) (w : World) : ((do eqGuard .neq 53 x y (.agg (insV i).toArray) (.agg (insV j).toArray); binOp .neq 53 (.agg (insV i).toArray) (.agg (insV j).toArray) : Sem Value)).run Try.prog w = .ok (.bool (!decide (i = j))) w := by
  rw [Sem.run_bind, run_eqGuard_agg w .neq _ x y _ _ (by kernel_rfl), Result.andThen_ok, run_neq_struct, ins_eqIn i j 9998 w]
  rfl
end Go.Proofs.Ytdikinkihnepaaa
/- Bytes over values: the laws' helpers, equality, conversion to a string. -/
namespace Go.Proofs.Ytdikinkihnepaaa
set_option linter.unusedSimpArgs false
set_option linter.unusedVariables false
open Go.RowKit
open AV (Mem Keeps)
section
variable {P : Program} {C : Ctx} {env : Env} {σ : List Ob} {t : Nat} {ty : TypeId} {pos : String} {after : Array Edge} {gd : Option (Nat × Bool)}
theorem pu_string {src dst e : TypeId} {x : Operand} {l : List UInt8} (hs : P.underlying src = some (.slice e)) (he : P.underlying e = some (.int .u8)) (hd : P.underlying dst = some .string) (hx : ev env x = .ro (bytesR l)) :
    Pur P C ⟨some t, .convert src dst x, ty, pos, after, gd⟩ env σ (.str ⟨l.toArray⟩) :=
  Pur.of (fun a m hG hσ hH => by
    have h := hH x (by simp [Op.operands])
    rw [hx] at h
    simp only [AV.rel, bytesR, RV.rel] at h
    obtain ⟨A, n, c, e1, hn, hc, _, hA⟩ := h
    rw [List.length_map] at hn
    refine ⟨.string ⟨l.toArray⟩, ?_, by simp [AV.rel, RV.rel]⟩
    have key : (convert src dst (a.eval x)).run P m.w = .ok (.string ⟨l.toArray⟩) m.w := by
      rw [e1]
      cases hl : l with
      | nil =>
        subst hl
        have : n = 0 := by simpa using hn
        subst this
        cases A with
        | none => rw [run_convert_bytes_string m.w src dst e none 0 c hs he hd]; rfl
        | some a => exact run_convert_bytes_back m.w src dst e a c [] hs he hd (fun j hj => absurd hj (by simp))
      | cons y ys =>
        obtain ⟨b, o, eA, hb, _, hE⟩ := hA (by rw [hn, hl]; simp)
        rw [eA, hn, ← hl]
        refine run_convert_bytes_back m.w src dst e ⟨b, o, none⟩ c l hs he hd fun j hj => ?_
        have h1 := RV.relE_at _ o 1 hE j [.u8 l[j]] (by rw [List.getElem?_map, List.getElem?_eq_getElem hj]; rfl)
        obtain ⟨_, h2⟩ := h1
        simp only [RV.relAt] at h2
        obtain ⟨⟨u, k1, _, k3⟩, _⟩ := h2
        simp only [RV.rel] at k3
        rw [add_lit, ← k3, ← k1, Nat.mul_one]
    simp only [execOp, Sem.run_bind, key, Result.andThen]
    rfl)
end
theorem szBytes_ac (a : List UInt8) (left : Int) (h0 : 0 ≤ left) (h1 : left ≤ 1048576) (hl : a.length ≤ maxLen) : ACv Try.prog 36 [bytesR a, .int left] (.int (sz1 left a.length)) := by
  unfold maxLen at hl
  refine ac_enter Try.func36 rfl _ Try.ntmps36 (by simp) fun C hn hm => ?_
  by_cases h : left < (a.length : Int)
  · repeat' (first
 | refine RunsL.step tabOk hn rfl ?_
 | refine RunsL.nil ?_
 | refine Runs.toRegion 30 rfl ?_
 | (refine RunsL.pe hn rfl rfl rfl ?_; first
 | refine ⟨_, pu_sub rfl rfl (by first | omega | (simp only [List.length_map]; omega)), ?_⟩)
 | (refine Runs.ctls 30 rfl ?_; first | refine Runs.cond_t rfl ?_ | refine Runs.cond_f rfl ?_ | ((first | refine Runs.cond_yes rfl ?_ ?_ | refine Runs.cond_nno rfl ?_ ?_); · first | omega | rfl | assumption | (simp only [List.length_map]; omega)) | ((first | refine Runs.cond_no rfl ?_ ?_ | refine Runs.cond_nyes rfl ?_ ?_); · first | omega | rfl | assumption | (simp only [List.length_map]; omega)) | refine Runs.cond_dec rfl (fun h => ?_) (fun h => ?_) | refine Runs.cond_ndec rfl (fun h => ?_) (fun h => ?_) | refine Runs.cond_nb rfl (fun h => ?_) (fun h => ?_) | refine Runs.cond_b rfl (fun h => ?_) (fun h => ?_) | refine Runs.ret (ends_ro hm rfl rfl ?_) | exact Runs.ret (ends_cellR hm rfl rfl rfl (Nat.le_of_ble_eq_true rfl) rfl rfl))
 | refine op_box rfl (tl hn rfl) ?_
 | refine op_storeF rfl rfl rfl rfl (Nat.le_of_ble_eq_true rfl) ?_
 | refine op_alloc (tl hn rfl) ?_
 | refine op_storeN rfl rfl rfl rfl (Nat.le_of_ble_eq_true rfl) ?_
 | (refine RunsL.pe hn rfl rfl rfl ?_; first
 | refine ⟨_, pu_add rfl rfl (by omega), ?_⟩
 | refine ⟨_, pu_indexAddr_map rfl rfl (by omega) (by assumption), ?_⟩
 | refine ⟨_, pu_sub rfl rfl (by omega), ?_⟩
 | refine ⟨_, pu_pick_b rfl rfl rfl, ?_⟩
 | refine ⟨_, pu_mul rfl rfl (by omega), ?_⟩
 | refine ⟨_, pu_build rfl rfl rfl rfl rfl rfl, ?_⟩))
    exact rr_int (sz1_neg h).symm
  · repeat' (first
 | refine RunsL.step tabOk hn rfl ?_
 | refine RunsL.nil ?_
 | refine Runs.toRegion 30 rfl ?_
 | (refine RunsL.pe hn rfl rfl rfl ?_; first
 | refine ⟨_, pu_sub rfl rfl (by first | omega | (simp only [List.length_map]; omega)), ?_⟩)
 | (refine Runs.ctls 30 rfl ?_; first | refine Runs.cond_t rfl ?_ | refine Runs.cond_f rfl ?_ | ((first | refine Runs.cond_yes rfl ?_ ?_ | refine Runs.cond_nno rfl ?_ ?_); · first | omega | rfl | assumption | (simp only [List.length_map]; omega)) | ((first | refine Runs.cond_no rfl ?_ ?_ | refine Runs.cond_nyes rfl ?_ ?_); · first | omega | rfl | assumption | (simp only [List.length_map]; omega)) | refine Runs.cond_dec rfl (fun h => ?_) (fun h => ?_) | refine Runs.cond_ndec rfl (fun h => ?_) (fun h => ?_) | refine Runs.cond_nb rfl (fun h => ?_) (fun h => ?_) | refine Runs.cond_b rfl (fun h => ?_) (fun h => ?_) | refine Runs.ret (ends_ro hm rfl rfl ?_) | exact Runs.ret (ends_cellR hm rfl rfl rfl (Nat.le_of_ble_eq_true rfl) rfl rfl))
 | refine op_box rfl (tl hn rfl) ?_
 | refine op_storeF rfl rfl rfl rfl (Nat.le_of_ble_eq_true rfl) ?_
 | refine op_alloc (tl hn rfl) ?_
 | refine op_storeN rfl rfl rfl rfl (Nat.le_of_ble_eq_true rfl) ?_
 | (refine RunsL.pe hn rfl rfl rfl ?_; first
 | refine ⟨_, pu_add rfl rfl (by omega), ?_⟩
 | refine ⟨_, pu_indexAddr_map rfl rfl (by omega) (by assumption), ?_⟩
 | refine ⟨_, pu_sub rfl rfl (by omega), ?_⟩
 | refine ⟨_, pu_pick_b rfl rfl rfl, ?_⟩
 | refine ⟨_, pu_mul rfl rfl (by omega), ?_⟩
 | refine ⟨_, pu_build rfl rfl rfl rfl rfl rfl, ?_⟩))
    exact rr_int (by rw [sz1_pos (by omega)]; simp)
theorem eqBytes_ac (a : List UInt8) (hl : a.length ≤ maxLen) : ACv Try.prog 40 [bytesR a, bytesR a] (.bool true) := by
  unfold maxLen at hl
  refine ac_enter Try.func40 rfl _ Try.ntmps40 (by simp) fun C hn hm => ?_
  repeat' (first
 | refine RunsL.step tabOk hn rfl ?_
 | refine RunsL.nil ?_
 | refine Runs.toRegion 30 rfl ?_
 | (refine Runs.ctls 30 rfl ?_; first | refine Runs.cond_t rfl ?_ | refine Runs.cond_f rfl ?_ | ((first | refine Runs.cond_yes rfl ?_ ?_ | refine Runs.cond_nno rfl ?_ ?_); · first | omega | rfl | assumption | (simp only [List.length_map]; omega)) | ((first | refine Runs.cond_no rfl ?_ ?_ | refine Runs.cond_nyes rfl ?_ ?_); · first | omega | rfl | assumption | (simp only [List.length_map]; omega)) | refine Runs.cond_dec rfl (fun h => ?_) (fun h => ?_) | refine Runs.cond_ndec rfl (fun h => ?_) (fun h => ?_) | refine Runs.cond_nb rfl (fun h => ?_) (fun h => ?_) | refine Runs.cond_b rfl (fun h => ?_) (fun h => ?_) | refine Runs.ret (ends_ro hm rfl rfl ?_) | exact Runs.ret (ends_cellR hm rfl rfl rfl (Nat.le_of_ble_eq_true rfl) rfl rfl))
 | refine op_box rfl (tl hn rfl) ?_
 | refine op_storeF rfl rfl rfl rfl (Nat.le_of_ble_eq_true rfl) ?_
 | refine op_alloc (tl hn rfl) ?_
 | refine op_storeN rfl rfl rfl rfl (Nat.le_of_ble_eq_true rfl) ?_
 | refine RunsD.step tabOk hn rfl rfl ?_
 | refine RunsD.nil ?_
 | refine Runs.toDraw 30 mixed hn rfl (by kernel_rfl) rfl ?_
 | ((first | refine RunsL.pe hn rfl rfl rfl ?_ | refine RunsD.pe rfl rfl ?_); first
 | refine ⟨_, pu_add rfl rfl (by omega), ?_⟩
 | refine ⟨_, pu_indexAddr_map rfl rfl (by omega) (by assumption), ?_⟩
 | refine ⟨_, pu_sub rfl rfl (by omega), ?_⟩
 | refine ⟨_, pu_pick_b rfl rfl rfl, ?_⟩
 | refine ⟨_, pu_mul rfl rfl (by omega), ?_⟩
 | refine ⟨_, pu_build rfl rfl rfl rfl rfl rfl, ?_⟩))
  refine Runs.loopN 30 rfl (fun j => [(0, .ro (bytesR a)), (1, .ro (bytesR a)), (5, .int (j : Int))]) (fun _ => []) (fun _ => True) a.length 0 (Nat.zero_le _) trivial ⟨rfl, rfl, rfl, trivial⟩ rfl fun j hj _ next => ?_
  by_cases hlt : j < a.length
  · obtain ⟨x, hx⟩ : ∃ x, a[(j : Int).toNat]? = some x := ⟨_, List.getElem?_eq_getElem hlt⟩
    repeat' (first
 | refine RunsL.step tabOk hn rfl ?_
 | refine RunsL.nil ?_
 | refine Runs.toRegion 30 rfl ?_
 | (refine Runs.ctls 30 rfl ?_; first | refine Runs.cond_t rfl ?_ | refine Runs.cond_f rfl ?_ | ((first | refine Runs.cond_yes rfl ?_ ?_ | refine Runs.cond_nno rfl ?_ ?_); · first | omega | rfl | assumption | (simp only [List.length_map]; omega)) | ((first | refine Runs.cond_no rfl ?_ ?_ | refine Runs.cond_nyes rfl ?_ ?_); · first | omega | rfl | assumption | (simp only [List.length_map]; omega)) | refine Runs.cond_dec rfl (fun h => ?_) (fun h => ?_) | refine Runs.cond_ndec rfl (fun h => ?_) (fun h => ?_) | refine Runs.cond_nb rfl (fun h => ?_) (fun h => ?_) | refine Runs.cond_b rfl (fun h => ?_) (fun h => ?_) | refine Runs.ret (ends_ro hm rfl rfl ?_) | exact Runs.ret (ends_cellR hm rfl rfl rfl (Nat.le_of_ble_eq_true rfl) rfl rfl))
 | refine op_box rfl (tl hn rfl) ?_
 | refine op_storeF rfl rfl rfl rfl (Nat.le_of_ble_eq_true rfl) ?_
 | refine op_alloc (tl hn rfl) ?_
 | refine op_storeN rfl rfl rfl rfl (Nat.le_of_ble_eq_true rfl) ?_
 | refine RunsD.step tabOk hn rfl rfl ?_
 | refine RunsD.nil ?_
 | refine Runs.toDraw 30 mixed hn rfl (by kernel_rfl) rfl ?_
 | ((first | refine RunsL.pe hn rfl rfl rfl ?_ | refine RunsD.pe rfl rfl ?_); first
 | refine ⟨_, pu_add rfl rfl (by omega), ?_⟩
 | refine ⟨_, pu_indexAddr_map rfl rfl (by omega) (by assumption), ?_⟩
 | refine ⟨_, pu_sub rfl rfl (by omega), ?_⟩
 | refine ⟨_, pu_pick_b rfl rfl rfl, ?_⟩
 | refine ⟨_, pu_mul rfl rfl (by omega), ?_⟩
 | refine ⟨_, pu_build rfl rfl rfl rfl rfl rfl, ?_⟩))
    exact next _ _ ⟨rfl, rfl, rfl, trivial⟩ hlt trivial rfl
  · repeat' (first
 | refine RunsL.step tabOk hn rfl ?_
 | refine RunsL.nil ?_
 | refine Runs.toRegion 30 rfl ?_
 | (refine Runs.ctls 30 rfl ?_; first | refine Runs.cond_t rfl ?_ | refine Runs.cond_f rfl ?_ | ((first | refine Runs.cond_yes rfl ?_ ?_ | refine Runs.cond_nno rfl ?_ ?_); · first | omega | rfl | assumption | (simp only [List.length_map]; omega)) | ((first | refine Runs.cond_no rfl ?_ ?_ | refine Runs.cond_nyes rfl ?_ ?_); · first | omega | rfl | assumption | (simp only [List.length_map]; omega)) | refine Runs.cond_dec rfl (fun h => ?_) (fun h => ?_) | refine Runs.cond_ndec rfl (fun h => ?_) (fun h => ?_) | refine Runs.cond_nb rfl (fun h => ?_) (fun h => ?_) | refine Runs.cond_b rfl (fun h => ?_) (fun h => ?_) | refine Runs.ret (ends_ro hm rfl rfl ?_) | exact Runs.ret (ends_cellR hm rfl rfl rfl (Nat.le_of_ble_eq_true rfl) rfl rfl))
 | refine op_box rfl (tl hn rfl) ?_
 | refine op_storeF rfl rfl rfl rfl (Nat.le_of_ble_eq_true rfl) ?_
 | refine op_alloc (tl hn rfl) ?_
 | refine op_storeN rfl rfl rfl rfl (Nat.le_of_ble_eq_true rfl) ?_
 | refine RunsD.step tabOk hn rfl rfl ?_
 | refine RunsD.nil ?_
 | refine Runs.toDraw 30 mixed hn rfl (by kernel_rfl) rfl ?_
 | ((first | refine RunsL.pe hn rfl rfl rfl ?_ | refine RunsD.pe rfl rfl ?_); first
 | refine ⟨_, pu_add rfl rfl (by omega), ?_⟩
 | refine ⟨_, pu_indexAddr_map rfl rfl (by omega) (by assumption), ?_⟩
 | refine ⟨_, pu_sub rfl rfl (by omega), ?_⟩
 | refine ⟨_, pu_pick_b rfl rfl rfl, ?_⟩
 | refine ⟨_, pu_mul rfl rfl (by omega), ?_⟩
 | refine ⟨_, pu_build rfl rfl rfl rfl rfl rfl, ?_⟩))
    exact rr_bool rfl
theorem seals_bytes (e : TypeId) (l : List UInt8) : Seals (.row e 1 (l.map RV.u8)) (bytesR l) := by
  have h := seals_row1 e (l.map RV.u8)
  rwa [List.map_map] at h
theorem toBytes_ac (a : List UInt8) (hl : a.length ≤ 4194304) : ACv Try.prog 38 [bytesR a] (bytesR a) := by
  refine AC.shut (R := fun rr => rr = .row 5 1 (a.map RV.u8)) ?_ (by rintro _ rfl; exact seals_bytes _ a)
  refine ac_enter Try.func38 rfl _ Try.ntmps38 (by simp) fun C hn hm => ?_
  repeat' (first
 | refine RunsL.step tabOk hn rfl ?_
 | refine RunsL.nil ?_
 | refine Runs.toRegion 30 rfl ?_
 | refine op_make1 rfl rfl rfl rfl (by first | omega | (simp only [List.length_map]; omega)) (by unfold maxLen; simp only [List.length_map]; omega) (tl hn rfl) ?_
 | (refine Runs.ctls 30 rfl ?_; first | refine Runs.cond_t rfl ?_ | refine Runs.cond_f rfl ?_ | ((first | refine Runs.cond_yes rfl ?_ ?_ | refine Runs.cond_nno rfl ?_ ?_); · first | omega | rfl | assumption | (simp only [List.length_map]; omega)) | ((first | refine Runs.cond_no rfl ?_ ?_ | refine Runs.cond_nyes rfl ?_ ?_); · first | omega | rfl | assumption | (simp only [List.length_map]; omega)) | refine Runs.cond_dec rfl (fun h => ?_) (fun h => ?_) | refine Runs.cond_ndec rfl (fun h => ?_) (fun h => ?_) | refine Runs.cond_nb rfl (fun h => ?_) (fun h => ?_) | refine Runs.cond_b rfl (fun h => ?_) (fun h => ?_) | refine Runs.ret (ends_ro hm rfl rfl ?_) | exact Runs.ret (ends_cellR hm rfl rfl rfl (Nat.le_of_ble_eq_true rfl) rfl rfl))
 | refine op_box rfl (tl hn rfl) ?_
 | refine op_storeF rfl rfl rfl rfl (Nat.le_of_ble_eq_true rfl) ?_
 | refine op_alloc (tl hn rfl) ?_
 | refine op_storeN rfl rfl rfl rfl (Nat.le_of_ble_eq_true rfl) ?_
 | (refine RunsL.pe hn rfl rfl rfl ?_; first
 | refine ⟨_, pu_add rfl rfl (by omega), ?_⟩
 | refine ⟨_, pu_indexAddr_map rfl rfl (by omega) (by assumption), ?_⟩
 | refine ⟨_, pu_sub rfl rfl (by omega), ?_⟩
 | refine ⟨_, pu_pick_b rfl rfl rfl, ?_⟩
 | refine ⟨_, pu_mul rfl rfl (by omega), ?_⟩
 | refine ⟨_, pu_build rfl rfl rfl rfl rfl rfl, ?_⟩))
  refine Runs.loopN 30 rfl (fun j => [(0, .ro (bytesR a)), (3, .own 0), (4, .int (j : Int))]) (fun j => [⟨5, 1, (a.take j ++ List.replicate (a.length - j) 0).map fun z => .ro (.u8 z)⟩]) (fun _ => True) a.length 0 (Nat.zero_le _) trivial ⟨rfl, rfl, rfl, trivial⟩ (by simp) fun j hj _ next => ?_
  by_cases hlt : j < a.length
  · obtain ⟨x, hx⟩ : ∃ x, a[(j : Int).toNat]? = some x := ⟨_, List.getElem?_eq_getElem hlt⟩
    repeat' (first
 | refine RunsL.step tabOk hn rfl ?_
 | refine RunsL.nil ?_
 | refine Runs.toRegion 30 rfl ?_
 | refine op_storeF rfl rfl rfl rfl (by simp; omega) ?_
 | (refine RunsL.pe hn rfl rfl rfl ?_; first
 | refine ⟨_, pu_indexAddr_own (n := a.length) rfl rfl rfl rfl (by simp; omega) (by omega) (by omega), ?_⟩)
 | (refine Runs.ctls 30 rfl ?_; first | refine Runs.cond_t rfl ?_ | refine Runs.cond_f rfl ?_ | ((first | refine Runs.cond_yes rfl ?_ ?_ | refine Runs.cond_nno rfl ?_ ?_); · first | omega | rfl | assumption | (simp only [List.length_map]; omega)) | ((first | refine Runs.cond_no rfl ?_ ?_ | refine Runs.cond_nyes rfl ?_ ?_); · first | omega | rfl | assumption | (simp only [List.length_map]; omega)) | refine Runs.cond_dec rfl (fun h => ?_) (fun h => ?_) | refine Runs.cond_ndec rfl (fun h => ?_) (fun h => ?_) | refine Runs.cond_nb rfl (fun h => ?_) (fun h => ?_) | refine Runs.cond_b rfl (fun h => ?_) (fun h => ?_) | refine Runs.ret (ends_ro hm rfl rfl ?_) | exact Runs.ret (ends_cellR hm rfl rfl rfl (Nat.le_of_ble_eq_true rfl) rfl rfl))
 | refine op_box rfl (tl hn rfl) ?_
 | refine op_storeF rfl rfl rfl rfl (Nat.le_of_ble_eq_true rfl) ?_
 | refine op_alloc (tl hn rfl) ?_
 | refine op_storeN rfl rfl rfl rfl (Nat.le_of_ble_eq_true rfl) ?_
 | (refine RunsL.pe hn rfl rfl rfl ?_; first
 | refine ⟨_, pu_add rfl rfl (by omega), ?_⟩
 | refine ⟨_, pu_indexAddr_map rfl rfl (by omega) (by assumption), ?_⟩
 | refine ⟨_, pu_sub rfl rfl (by omega), ?_⟩
 | refine ⟨_, pu_pick_b rfl rfl rfl, ?_⟩
 | refine ⟨_, pu_mul rfl rfl (by omega), ?_⟩
 | refine ⟨_, pu_build rfl rfl rfl rfl rfl rfl, ?_⟩))
    refine next _ _ ⟨rfl, rfl, rfl, trivial⟩ hlt trivial ?_
    have h := take_set a 0 a.length j rfl x hx
    simp only [List.set_cons_zero, Nat.mul_one, Int.toNat_natCast]
    rw [← h, List.map_set]
  · obtain rfl : j = a.length := by omega
    repeat' (first
 | refine RunsL.step tabOk hn rfl ?_
 | refine RunsL.nil ?_
 | refine Runs.toRegion 30 rfl ?_
 | (refine Runs.ctls 30 rfl ?_; first | refine Runs.cond_t rfl ?_ | refine Runs.cond_f rfl ?_ | ((first | refine Runs.cond_yes rfl ?_ ?_ | refine Runs.cond_nno rfl ?_ ?_); · first | omega | rfl | assumption | (simp only [List.length_map]; omega)) | ((first | refine Runs.cond_no rfl ?_ ?_ | refine Runs.cond_nyes rfl ?_ ?_); · first | omega | rfl | assumption | (simp only [List.length_map]; omega)) | refine Runs.cond_dec rfl (fun h => ?_) (fun h => ?_) | refine Runs.cond_ndec rfl (fun h => ?_) (fun h => ?_) | refine Runs.cond_nb rfl (fun h => ?_) (fun h => ?_) | refine Runs.cond_b rfl (fun h => ?_) (fun h => ?_) | refine Runs.ret (ends_ro hm rfl rfl ?_) | exact Runs.ret (ends_cellR hm rfl rfl rfl (Nat.le_of_ble_eq_true rfl) rfl rfl))
 | refine op_box rfl (tl hn rfl) ?_
 | refine op_storeF rfl rfl rfl rfl (Nat.le_of_ble_eq_true rfl) ?_
 | refine op_alloc (tl hn rfl) ?_
 | refine op_storeN rfl rfl rfl rfl (Nat.le_of_ble_eq_true rfl) ?_
 | (refine RunsL.pe hn rfl rfl rfl ?_; first
 | refine ⟨_, pu_add rfl rfl (by omega), ?_⟩
 | refine ⟨_, pu_indexAddr_map rfl rfl (by omega) (by assumption), ?_⟩
 | refine ⟨_, pu_sub rfl rfl (by omega), ?_⟩
 | refine ⟨_, pu_pick_b rfl rfl rfl, ?_⟩
 | refine ⟨_, pu_mul rfl rfl (by omega), ?_⟩
 | refine ⟨_, pu_build rfl rfl rfl rfl rfl rfl, ?_⟩))
    exact Runs.ctls 30 rfl (Runs.ret (ends_own (rs := a.map RV.u8) hm rfl rfl rfl (by simp) rfl))
theorem u8_ext {x y : UInt8} (h : (x.toNat : Int) = (y.toNat : Int)) : x = y := UInt8.toNat_inj.1 (Int.ofNat_inj.1 h)
end Go.Proofs.Ytdikinkihnepaaa
/- Sums over lists; integers in a frame. Over any program. -/
namespace Go.Proofs.Ytdikinkihnepaaa
set_option linter.unusedSimpArgs false
set_option linter.unusedVariables false
open Go.RowKit
section
variable {α : Type} (f : α → Nat)
theorem sum_take_next {l : List α} {j : Nat} {x : α} (hx : l[j]? = some x) : ((l.take (j + 1)).map f).sum = ((l.take j).map f).sum + f x := by
  obtain ⟨hj, rfl⟩ := List.getElem?_eq_some_iff.1 hx
  rw [List.take_succ_eq_append_getElem hj]; simp only [List.map_append, List.map_cons, List.map_nil, List.sum_append, List.sum_cons, List.sum_nil, Nat.add_zero]
theorem sum_take_le (l : List α) (j : Nat) : ((l.take j).map f).sum ≤ (l.map f).sum := by
  have h := congrArg (fun l => (l.map f).sum) (List.take_append_drop j l)
  simp only [List.map_append, List.sum_append] at h
  omega
theorem sum_mem_le {l : List α} {x : α} (h : x ∈ l) : f x ≤ (l.map f).sum := by
  induction l with
  | nil => cases h
  | cons y l ih =>
    rw [List.map_cons, List.sum_cons]
    rcases List.mem_cons.1 h with e | e
    · rw [e]; omega
    · have := ih e; omega
end
theorem av_int {a b : Int} (h : a = b) : AV.int a = AV.int b := by rw [h]
end Go.Proofs.Ytdikinkihnepaaa
/- Descriptions over values: the laws' helpers on strings, rules and descriptions; opened arguments. -/
namespace Go.Proofs.Ytdikinkihnepaaa
set_option linter.unusedSimpArgs false
set_option linter.unusedVariables false
open Go.RowKit
structure Rul where
  name : ByteArray
  kind : Int
  size : Int
  little : Bool
  bytes : List UInt8
  names : List ByteArray
  tags : List Int
  kids : List Int
abbrev Des := List Rul
def rulR (r : Rul) : List RV := [.str r.name, .int r.kind, .int r.size, .bool r.little, bytesR r.bytes, strsR r.names, intsR r.tags, intsR r.kids]
def rulsR (d : Des) : RV := .seq 8 (d.map rulR)
def desR (d : Des) : RV := .agg [rulsR d]
theorem rulR_len (r : Rul) : (rulR r).length = 8 := rfl
namespace Rul
def total (r : Rul) : Nat := r.name.size + r.bytes.length + (r.names.length + (r.names.map ByteArray.size).sum) + r.tags.length + r.kids.length
structure Ok (r : Rul) : Prop where
  kind : I64 r.kind
  size : I64 r.size
  tags : ∀ z ∈ r.tags, I64 z
  kids : ∀ z ∈ r.kids, I64 z
  lens : r.name.size ≤ maxLen ∧ r.bytes.length ≤ maxLen ∧ r.names.length ≤ maxLen ∧ (∀ s ∈ r.names, s.size ≤ maxLen) ∧ r.tags.length ≤ maxLen ∧ r.kids.length ≤ maxLen ∧ True
end Rul
def dtotal (d : Des) : Nat := d.length + (d.map Rul.total).sum
structure DesOk (d : Des) : Prop where
  rules : ∀ r ∈ d, r.Ok
  len : d.length ≤ maxLen
section
variable {P : Program} {C : Ctx} {env : Env} {σ : List Ob} {t : Nat} {ty : TypeId} {pos : String} {after : Array Edge} {gd : Option (Nat × Bool)}
theorem pu_neqSame {xt yt : TypeId} {x y : Operand} {s : ByteArray} (hx : ev env x = .str s) (hy : ev env y = .str s) : Pur P C ⟨some t, .binOp .neq xt x y yt, ty, pos, after, gd⟩ env σ (.bool false) := by
  have h := pu_neqS (P := P) (C := C) (σ := σ) (t := t) (ty := ty) (pos := pos) (after := after) (gd := gd) (xt := xt) (yt := yt) hx hy
  have e : (!(s.toList == s.toList)) = false := by simp
  rwa [e] at h
end
end Go.Proofs.Ytdikinkihnepaaa
/- The verifier of one instruction: both sides return the same. -/
namespace Go.Proofs.Ytdikinkihnepaaa
set_option linter.unusedSimpArgs false
set_option linter.unusedVariables false
open Go.RowKit
abbrev InR (x lo hi : Int) : Prop := lo ≤ x ∧ x ≤ hi
theorem inRange_ac (x lo hi : Int) : ACv Try.prog 55 [.int x, .int lo, .int hi] (.bool (decide (InR x lo hi))) := by
  refine ac_enter Try.func55 rfl _ Try.ntmps55 (by simp) fun C hn hm => ?_
  repeat' (first
 | refine RunsL.step tabOk hn rfl ?_
 | refine RunsL.nil ?_
 | refine Runs.toRegion 30 rfl ?_
 | (refine Runs.ctls 30 rfl ?_; first | refine Runs.cond_t rfl ?_ | refine Runs.cond_f rfl ?_ | ((first | refine Runs.cond_yes rfl ?_ ?_ | refine Runs.cond_nno rfl ?_ ?_); · first | omega | rfl | assumption | (simp only [List.length_map]; omega)) | ((first | refine Runs.cond_no rfl ?_ ?_ | refine Runs.cond_nyes rfl ?_ ?_); · first | omega | rfl | assumption | (simp only [List.length_map]; omega)) | refine Runs.cond_dec rfl (fun h => ?_) (fun h => ?_) | refine Runs.cond_ndec rfl (fun h => ?_) (fun h => ?_) | refine Runs.cond_nb rfl (fun h => ?_) (fun h => ?_) | refine Runs.cond_b rfl (fun h => ?_) (fun h => ?_) | refine Runs.ret (ends_ro hm rfl rfl ?_) | exact Runs.ret (ends_cellR hm rfl rfl rfl (Nat.le_of_ble_eq_true rfl) rfl rfl))
 | refine op_box rfl (tl hn rfl) ?_
 | refine op_storeF rfl rfl rfl rfl (Nat.le_of_ble_eq_true rfl) ?_
 | refine op_alloc (tl hn rfl) ?_
 | refine op_storeN rfl rfl rfl rfl (Nat.le_of_ble_eq_true rfl) ?_
 | (refine RunsL.pe hn rfl rfl rfl ?_; first
 | refine ⟨_, pu_add rfl rfl (by omega), ?_⟩
 | refine ⟨_, pu_indexAddr_map rfl rfl (by omega) (by assumption), ?_⟩
 | refine ⟨_, pu_sub rfl rfl (by omega), ?_⟩
 | refine ⟨_, pu_pick_b rfl rfl rfl, ?_⟩
 | refine ⟨_, pu_mul rfl rfl (by omega), ?_⟩
 | refine ⟨_, pu_build rfl rfl rfl rfl rfl rfl, ?_⟩)
 | ((first | refine RunsL.guard_dec rfl rfl rfl ?_ ?_ | refine RunsL.guard_ndec rfl rfl rfl ?_ ?_ | refine RunsL.guard_nb rfl rfl rfl ?_ ?_ | refine RunsL.guard_b rfl rfl rfl ?_ ?_) <;> intro h <;> try (exfalso; first | omega | contradiction | (simp only [List.length_map] at h; omega))))
  all_goals exact rr_bool (by rw [Bool.eq_iff_iff]; simp only [decide_eq_true_eq, Bool.not_eq_true', decide_eq_false_iff_not, Bool.false_eq_true, true_iff, false_iff, Bool.and_eq_true, Bool.or_eq_true, Bool.not_eq_eq_eq_not, Bool.not_true, Bool.not_false, reduceCtorEq, eq_self, iff_true, iff_false, ne_eq]; simp only [InR] at *; omega)
theorem l1In_ac (x lo hi : Int) : ACv Try.prog 53 [.int x, .int lo, .int hi] (.bool (decide (InR x lo hi))) := by
  refine ac_enter Try.func53 rfl _ Try.ntmps53 (by simp) fun C hn hm => ?_
  repeat' (first
 | refine RunsL.step tabOk hn rfl ?_
 | refine RunsL.nil ?_
 | refine Runs.toRegion 30 rfl ?_
 | (refine Runs.ctls 30 rfl ?_; first | refine Runs.cond_t rfl ?_ | refine Runs.cond_f rfl ?_ | ((first | refine Runs.cond_yes rfl ?_ ?_ | refine Runs.cond_nno rfl ?_ ?_); · first | omega | rfl | assumption | (simp only [List.length_map]; omega)) | ((first | refine Runs.cond_no rfl ?_ ?_ | refine Runs.cond_nyes rfl ?_ ?_); · first | omega | rfl | assumption | (simp only [List.length_map]; omega)) | refine Runs.cond_dec rfl (fun h => ?_) (fun h => ?_) | refine Runs.cond_ndec rfl (fun h => ?_) (fun h => ?_) | refine Runs.cond_nb rfl (fun h => ?_) (fun h => ?_) | refine Runs.cond_b rfl (fun h => ?_) (fun h => ?_) | refine Runs.ret (ends_ro hm rfl rfl ?_) | exact Runs.ret (ends_cellR hm rfl rfl rfl (Nat.le_of_ble_eq_true rfl) rfl rfl))
 | refine op_box rfl (tl hn rfl) ?_
 | refine op_storeF rfl rfl rfl rfl (Nat.le_of_ble_eq_true rfl) ?_
 | refine op_alloc (tl hn rfl) ?_
 | refine op_storeN rfl rfl rfl rfl (Nat.le_of_ble_eq_true rfl) ?_
 | (refine RunsL.pe hn rfl rfl rfl ?_; first
 | refine ⟨_, pu_add rfl rfl (by omega), ?_⟩
 | refine ⟨_, pu_indexAddr_map rfl rfl (by omega) (by assumption), ?_⟩
 | refine ⟨_, pu_sub rfl rfl (by omega), ?_⟩
 | refine ⟨_, pu_pick_b rfl rfl rfl, ?_⟩
 | refine ⟨_, pu_mul rfl rfl (by omega), ?_⟩
 | refine ⟨_, pu_build rfl rfl rfl rfl rfl rfl, ?_⟩)
 | ((first | refine RunsL.guard_dec rfl rfl rfl ?_ ?_ | refine RunsL.guard_ndec rfl rfl rfl ?_ ?_ | refine RunsL.guard_nb rfl rfl rfl ?_ ?_ | refine RunsL.guard_b rfl rfl rfl ?_ ?_) <;> intro h <;> try (exfalso; first | omega | contradiction | (simp only [List.length_map] at h; omega))))
  all_goals exact rr_bool (by rw [Bool.eq_iff_iff]; simp only [decide_eq_true_eq, Bool.not_eq_true', decide_eq_false_iff_not, Bool.false_eq_true, true_iff, false_iff, Bool.and_eq_true, Bool.or_eq_true, Bool.not_eq_eq_eq_not, Bool.not_true, Bool.not_false, reduceCtorEq, eq_self, iff_true, iff_false, ne_eq]; simp only [InR] at *; omega)
abbrev Idx (p : Prg) (i : Int) : Prop := 0 ≤ i ∧ i < p.code.length
theorem isIndex_ac (p : Prg) (i : Int) : ACv Try.prog 86 [prgR p, .int i] (.bool (decide (Idx p i))) := by
  have hl : (p.code.map insR).length = p.code.length := List.length_map ..
  refine ac_enter Try.func86 rfl _ Try.ntmps86 (by simp) fun C hn hm => ?_
  repeat' (first
 | refine RunsL.step tabOk hn rfl ?_
 | refine RunsL.nil ?_
 | refine Runs.toRegion 30 rfl ?_
 | (refine Runs.ctls 30 rfl ?_; first | refine Runs.cond_t rfl ?_ | refine Runs.cond_f rfl ?_ | ((first | refine Runs.cond_yes rfl ?_ ?_ | refine Runs.cond_nno rfl ?_ ?_); · first | omega | rfl | assumption | (simp only [List.length_map]; omega)) | ((first | refine Runs.cond_no rfl ?_ ?_ | refine Runs.cond_nyes rfl ?_ ?_); · first | omega | rfl | assumption | (simp only [List.length_map]; omega)) | refine Runs.cond_dec rfl (fun h => ?_) (fun h => ?_) | refine Runs.cond_ndec rfl (fun h => ?_) (fun h => ?_) | refine Runs.cond_nb rfl (fun h => ?_) (fun h => ?_) | refine Runs.cond_b rfl (fun h => ?_) (fun h => ?_) | refine Runs.ret (ends_ro hm rfl rfl ?_) | exact Runs.ret (ends_cellR hm rfl rfl rfl (Nat.le_of_ble_eq_true rfl) rfl rfl))
 | refine op_box rfl (tl hn rfl) ?_
 | refine op_storeF rfl rfl rfl rfl (Nat.le_of_ble_eq_true rfl) ?_
 | refine op_alloc (tl hn rfl) ?_
 | refine op_storeN rfl rfl rfl rfl (Nat.le_of_ble_eq_true rfl) ?_
 | (refine RunsL.pe hn rfl rfl rfl ?_; first
 | refine ⟨_, pu_add rfl rfl (by omega), ?_⟩
 | refine ⟨_, pu_indexAddr_map rfl rfl (by omega) (by assumption), ?_⟩
 | refine ⟨_, pu_sub rfl rfl (by omega), ?_⟩
 | refine ⟨_, pu_pick_b rfl rfl rfl, ?_⟩
 | refine ⟨_, pu_mul rfl rfl (by omega), ?_⟩
 | refine ⟨_, pu_build rfl rfl rfl rfl rfl rfl, ?_⟩)
 | ((first | refine RunsL.guard_dec rfl rfl rfl ?_ ?_ | refine RunsL.guard_ndec rfl rfl rfl ?_ ?_ | refine RunsL.guard_nb rfl rfl rfl ?_ ?_ | refine RunsL.guard_b rfl rfl rfl ?_ ?_) <;> intro h <;> try (exfalso; first | omega | contradiction | (simp only [List.length_map] at h; omega))))
  all_goals exact rr_bool (by rw [Bool.eq_iff_iff]; simp only [decide_eq_true_eq, Bool.not_eq_true', decide_eq_false_iff_not, Bool.false_eq_true, true_iff, false_iff, Bool.and_eq_true, Bool.or_eq_true, Bool.not_eq_eq_eq_not, Bool.not_true, Bool.not_false, reduceCtorEq, eq_self, iff_true, iff_false, ne_eq]; simp only [Idx] at *; omega)
abbrev Goes (op : Int) : Prop := op ≠ 8 ∧ op ≠ 10 ∧ op ≠ 12 ∧ op ≠ 17
theorem goesOn_ac (op : Int) : ACv Try.prog 87 [.int op] (.bool (decide (Goes op))) := by
  refine ac_enter Try.func87 rfl _ Try.ntmps87 (by simp) fun C hn hm => ?_
  repeat' (first
 | refine RunsL.step tabOk hn rfl ?_
 | refine RunsL.nil ?_
 | refine Runs.toRegion 30 rfl ?_
 | (refine Runs.ctls 30 rfl ?_; first | refine Runs.cond_t rfl ?_ | refine Runs.cond_f rfl ?_ | ((first | refine Runs.cond_yes rfl ?_ ?_ | refine Runs.cond_nno rfl ?_ ?_); · first | omega | rfl | assumption | (simp only [List.length_map]; omega)) | ((first | refine Runs.cond_no rfl ?_ ?_ | refine Runs.cond_nyes rfl ?_ ?_); · first | omega | rfl | assumption | (simp only [List.length_map]; omega)) | refine Runs.cond_dec rfl (fun h => ?_) (fun h => ?_) | refine Runs.cond_ndec rfl (fun h => ?_) (fun h => ?_) | refine Runs.cond_nb rfl (fun h => ?_) (fun h => ?_) | refine Runs.cond_b rfl (fun h => ?_) (fun h => ?_) | refine Runs.ret (ends_ro hm rfl rfl ?_) | exact Runs.ret (ends_cellR hm rfl rfl rfl (Nat.le_of_ble_eq_true rfl) rfl rfl))
 | refine op_box rfl (tl hn rfl) ?_
 | refine op_storeF rfl rfl rfl rfl (Nat.le_of_ble_eq_true rfl) ?_
 | refine op_alloc (tl hn rfl) ?_
 | refine op_storeN rfl rfl rfl rfl (Nat.le_of_ble_eq_true rfl) ?_
 | (refine RunsL.pe hn rfl rfl rfl ?_; first
 | refine ⟨_, pu_add rfl rfl (by omega), ?_⟩
 | refine ⟨_, pu_indexAddr_map rfl rfl (by omega) (by assumption), ?_⟩
 | refine ⟨_, pu_sub rfl rfl (by omega), ?_⟩
 | refine ⟨_, pu_pick_b rfl rfl rfl, ?_⟩
 | refine ⟨_, pu_mul rfl rfl (by omega), ?_⟩
 | refine ⟨_, pu_build rfl rfl rfl rfl rfl rfl, ?_⟩)
 | ((first | refine RunsL.guard_dec rfl rfl rfl ?_ ?_ | refine RunsL.guard_ndec rfl rfl rfl ?_ ?_ | refine RunsL.guard_nb rfl rfl rfl ?_ ?_ | refine RunsL.guard_b rfl rfl rfl ?_ ?_) <;> intro h <;> try (exfalso; first | omega | contradiction | (simp only [List.length_map] at h; omega))))
  all_goals exact rr_bool (by rw [Bool.eq_iff_iff]; simp only [decide_eq_true_eq, Bool.not_eq_true', decide_eq_false_iff_not, Bool.false_eq_true, true_iff, false_iff, Bool.and_eq_true, Bool.or_eq_true, Bool.not_eq_eq_eq_not, Bool.not_true, Bool.not_false, reduceCtorEq, eq_self, iff_true, iff_false, ne_eq]; simp only [Goes] at *; omega)
theorem l16Op_ac (op : Int) (l : List Int) (hl : l.length ≤ maxLen) : ACv Try.prog 111 [.int op, intsR l] (.bool (decide (op ∈ l))) := by
  unfold maxLen at hl
  refine ac_enter Try.func111 rfl _ Try.ntmps111 (by simp) fun C hn hm => ?_
  repeat' (first
 | refine RunsL.step tabOk hn rfl ?_
 | refine RunsL.nil ?_
 | refine Runs.toRegion 30 rfl ?_
 | (refine Runs.ctls 30 rfl ?_; first | refine Runs.cond_t rfl ?_ | refine Runs.cond_f rfl ?_ | ((first | refine Runs.cond_yes rfl ?_ ?_ | refine Runs.cond_nno rfl ?_ ?_); · first | omega | rfl | assumption | (simp only [List.length_map]; omega)) | ((first | refine Runs.cond_no rfl ?_ ?_ | refine Runs.cond_nyes rfl ?_ ?_); · first | omega | rfl | assumption | (simp only [List.length_map]; omega)) | refine Runs.cond_dec rfl (fun h => ?_) (fun h => ?_) | refine Runs.cond_ndec rfl (fun h => ?_) (fun h => ?_) | refine Runs.cond_nb rfl (fun h => ?_) (fun h => ?_) | refine Runs.cond_b rfl (fun h => ?_) (fun h => ?_) | refine Runs.ret (ends_ro hm rfl rfl ?_) | exact Runs.ret (ends_cellR hm rfl rfl rfl (Nat.le_of_ble_eq_true rfl) rfl rfl))
 | refine op_box rfl (tl hn rfl) ?_
 | refine op_storeF rfl rfl rfl rfl (Nat.le_of_ble_eq_true rfl) ?_
 | refine op_alloc (tl hn rfl) ?_
 | refine op_storeN rfl rfl rfl rfl (Nat.le_of_ble_eq_true rfl) ?_
 | (refine RunsL.pe hn rfl rfl rfl ?_; first
 | refine ⟨_, pu_add rfl rfl (by omega), ?_⟩
 | refine ⟨_, pu_indexAddr_map rfl rfl (by omega) (by assumption), ?_⟩
 | refine ⟨_, pu_sub rfl rfl (by omega), ?_⟩
 | refine ⟨_, pu_pick_b rfl rfl rfl, ?_⟩
 | refine ⟨_, pu_mul rfl rfl (by omega), ?_⟩
 | refine ⟨_, pu_build rfl rfl rfl rfl rfl rfl, ?_⟩))
  refine Runs.loopN 30 rfl (fun j => [(0, .int op), (1, .ro (intsR l)), (5, .int (j : Int))]) (fun _ => []) (fun j => op ∉ l.take j) l.length 0 (Nat.zero_le _) (by simp) ⟨rfl, rfl, rfl, trivial⟩ rfl fun j hj hQ next => ?_
  by_cases hlt : j < l.length
  · obtain ⟨x, hx⟩ : ∃ x, l[(j : Int).toNat]? = some x := ⟨_, List.getElem?_eq_getElem hlt⟩
    have hx' : l[j]? = some x := hx
    repeat' (first
 | refine RunsL.step tabOk hn rfl ?_
 | refine RunsL.nil ?_
 | refine Runs.toRegion 30 rfl ?_
 | (refine Runs.ctls 30 rfl ?_; first | refine Runs.cond_t rfl ?_ | refine Runs.cond_f rfl ?_ | ((first | refine Runs.cond_yes rfl ?_ ?_ | refine Runs.cond_nno rfl ?_ ?_); · first | omega | rfl | assumption | (simp only [List.length_map]; omega)) | ((first | refine Runs.cond_no rfl ?_ ?_ | refine Runs.cond_nyes rfl ?_ ?_); · first | omega | rfl | assumption | (simp only [List.length_map]; omega)) | refine Runs.cond_dec rfl (fun h => ?_) (fun h => ?_) | refine Runs.cond_ndec rfl (fun h => ?_) (fun h => ?_) | refine Runs.cond_nb rfl (fun h => ?_) (fun h => ?_) | refine Runs.cond_b rfl (fun h => ?_) (fun h => ?_) | refine Runs.ret (ends_ro hm rfl rfl ?_) | exact Runs.ret (ends_cellR hm rfl rfl rfl (Nat.le_of_ble_eq_true rfl) rfl rfl))
 | refine op_box rfl (tl hn rfl) ?_
 | refine op_storeF rfl rfl rfl rfl (Nat.le_of_ble_eq_true rfl) ?_
 | refine op_alloc (tl hn rfl) ?_
 | refine op_storeN rfl rfl rfl rfl (Nat.le_of_ble_eq_true rfl) ?_
 | (refine RunsL.pe hn rfl rfl rfl ?_; first
 | refine ⟨_, pu_add rfl rfl (by omega), ?_⟩
 | refine ⟨_, pu_indexAddr_map rfl rfl (by omega) (by assumption), ?_⟩
 | refine ⟨_, pu_sub rfl rfl (by omega), ?_⟩
 | refine ⟨_, pu_pick_b rfl rfl rfl, ?_⟩
 | refine ⟨_, pu_mul rfl rfl (by omega), ?_⟩
 | refine ⟨_, pu_build rfl rfl rfl rfl rfl rfl, ?_⟩))
    · exact rr_bool (decide_eq_true (by subst h; exact List.mem_of_getElem? hx')).symm
    · refine next _ _ ⟨rfl, rfl, rfl, trivial⟩ hlt ?_ rfl
      rw [List.take_succ_eq_append_getElem hlt, List.mem_append]
      rintro (hm' | hm')
      · exact hQ hm'
      · rw [List.getElem?_eq_getElem hlt] at hx'; injection hx' with hx'
        simp only [List.mem_singleton] at hm'
        exact h (by rw [hm', hx'])
  · repeat' (first
 | refine RunsL.step tabOk hn rfl ?_
 | refine RunsL.nil ?_
 | refine Runs.toRegion 30 rfl ?_
 | (refine Runs.ctls 30 rfl ?_; first | refine Runs.cond_t rfl ?_ | refine Runs.cond_f rfl ?_ | ((first | refine Runs.cond_yes rfl ?_ ?_ | refine Runs.cond_nno rfl ?_ ?_); · first | omega | rfl | assumption | (simp only [List.length_map]; omega)) | ((first | refine Runs.cond_no rfl ?_ ?_ | refine Runs.cond_nyes rfl ?_ ?_); · first | omega | rfl | assumption | (simp only [List.length_map]; omega)) | refine Runs.cond_dec rfl (fun h => ?_) (fun h => ?_) | refine Runs.cond_ndec rfl (fun h => ?_) (fun h => ?_) | refine Runs.cond_nb rfl (fun h => ?_) (fun h => ?_) | refine Runs.cond_b rfl (fun h => ?_) (fun h => ?_) | refine Runs.ret (ends_ro hm rfl rfl ?_) | exact Runs.ret (ends_cellR hm rfl rfl rfl (Nat.le_of_ble_eq_true rfl) rfl rfl))
 | refine op_box rfl (tl hn rfl) ?_
 | refine op_storeF rfl rfl rfl rfl (Nat.le_of_ble_eq_true rfl) ?_
 | refine op_alloc (tl hn rfl) ?_
 | refine op_storeN rfl rfl rfl rfl (Nat.le_of_ble_eq_true rfl) ?_
 | (refine RunsL.pe hn rfl rfl rfl ?_; first
 | refine ⟨_, pu_add rfl rfl (by omega), ?_⟩
 | refine ⟨_, pu_indexAddr_map rfl rfl (by omega) (by assumption), ?_⟩
 | refine ⟨_, pu_sub rfl rfl (by omega), ?_⟩
 | refine ⟨_, pu_pick_b rfl rfl rfl, ?_⟩
 | refine ⟨_, pu_mul rfl rfl (by omega), ?_⟩
 | refine ⟨_, pu_build rfl rfl rfl rfl rfl rfl, ?_⟩))
    rw [show j = l.length by omega, List.take_length] at hQ
    exact rr_bool (decide_eq_false hQ).symm
def OpOk (x : Ins) : Prop := (x.op = 1 → InR x.a 1 4 ∧ InR x.b 0 1) ∧ (x.op = 2 ∨ x.op = 16 → InR x.a 0 255) ∧ (x.op = 3 ∨ x.op = 5 → InR x.a 0 400) ∧ (x.op = 11 → 0 ≤ x.a) ∧ (x.op = 12 → InR x.a 1 8) ∧ InR x.op 1 17
instance (x : Ins) : Decidable (OpOk x) := by unfold OpOk; infer_instance
def SafeX (n i : Int) (x : Ins) : Prop := OpOk x ∧ (x.op = 7 ∨ x.op = 8 ∨ x.op = 9 ∨ x.op = 13 → 0 ≤ x.a ∧ x.a < n) ∧ (x.op = 11 → 0 ≤ x.b ∧ x.b < n) ∧ (Goes x.op → i + 1 < n)
instance (n i : Int) (x : Ins) : Decidable (SafeX n i x) := by unfold SafeX; infer_instance
def SafeI (p : Prg) (i : Int) : Prop := match p.code[i.toNat]? with
  | some x => 0 ≤ i ∧ SafeX p.code.length i x
  | none => False
instance (p : Prg) (i : Int) : Decidable (SafeI p i) := by unfold SafeI; split <;> infer_instance
theorem safeI_some {p : Prg} {i : Int} {x : Ins} (h : p.code[i.toNat]? = some x) : SafeI p i ↔ 0 ≤ i ∧ SafeX p.code.length i x := by unfold SafeI; rw [h]
theorem safeI_out {p : Prg} {i : Int} (h : ¬ Idx p i) : SafeI p i ↔ False := by
  unfold SafeI
  split
  · rename_i x hx
    have := (List.getElem?_eq_some_iff.1 hx).1
    unfold Idx at h
    exact ⟨fun h' => h (by omega), False.elim⟩
  · exact Iff.rfl
theorem l16Operands_ac (x : Ins) : ACv Try.prog 112 [.agg (insR x)] (.bool (decide (OpOk x))) := by
  refine ac_enter Try.func112 rfl _ Try.ntmps112 (by simp) fun C hn hm => ?_
  repeat' (first
 | refine RunsL.step tabOk hn rfl ?_
 | refine RunsL.nil ?_
 | refine Runs.toRegion 30 rfl ?_
 | (refine RunsL.pe hn rfl rfl rfl ?_; first
 | refine ⟨_, pu_callR (l1In_ac _ _ _) rfl, ?_⟩)
 | (refine Runs.ctls 30 rfl ?_; first | refine Runs.cond_t rfl ?_ | refine Runs.cond_f rfl ?_ | ((first | refine Runs.cond_yes rfl ?_ ?_ | refine Runs.cond_nno rfl ?_ ?_); · first | omega | rfl | assumption | (simp only [List.length_map]; omega)) | ((first | refine Runs.cond_no rfl ?_ ?_ | refine Runs.cond_nyes rfl ?_ ?_); · first | omega | rfl | assumption | (simp only [List.length_map]; omega)) | refine Runs.cond_dec rfl (fun h => ?_) (fun h => ?_) | refine Runs.cond_ndec rfl (fun h => ?_) (fun h => ?_) | refine Runs.cond_nb rfl (fun h => ?_) (fun h => ?_) | refine Runs.cond_b rfl (fun h => ?_) (fun h => ?_) | refine Runs.ret (ends_ro hm rfl rfl ?_) | exact Runs.ret (ends_cellR hm rfl rfl rfl (Nat.le_of_ble_eq_true rfl) rfl rfl))
 | refine op_box rfl (tl hn rfl) ?_
 | refine op_storeF rfl rfl rfl rfl (Nat.le_of_ble_eq_true rfl) ?_
 | refine op_alloc (tl hn rfl) ?_
 | refine op_storeN rfl rfl rfl rfl (Nat.le_of_ble_eq_true rfl) ?_
 | (refine RunsL.pe hn rfl rfl rfl ?_; first
 | refine ⟨_, pu_add rfl rfl (by omega), ?_⟩
 | refine ⟨_, pu_indexAddr_map rfl rfl (by omega) (by assumption), ?_⟩
 | refine ⟨_, pu_sub rfl rfl (by omega), ?_⟩
 | refine ⟨_, pu_pick_b rfl rfl rfl, ?_⟩
 | refine ⟨_, pu_mul rfl rfl (by omega), ?_⟩
 | refine ⟨_, pu_build rfl rfl rfl rfl rfl rfl, ?_⟩)
 | ((first | refine RunsL.guard_dec rfl rfl rfl ?_ ?_ | refine RunsL.guard_ndec rfl rfl rfl ?_ ?_ | refine RunsL.guard_nb rfl rfl rfl ?_ ?_ | refine RunsL.guard_b rfl rfl rfl ?_ ?_) <;> intro h <;> try (exfalso; first | omega | contradiction | (simp only [List.length_map] at h; omega))))
  all_goals exact rr_bool (by rw [Bool.eq_iff_iff]; simp only [decide_eq_true_eq, Bool.not_eq_true', decide_eq_false_iff_not, Bool.false_eq_true, true_iff, false_iff, Bool.and_eq_true, Bool.or_eq_true, Bool.not_eq_eq_eq_not, Bool.not_true, Bool.not_false, reduceCtorEq, eq_self, iff_true, iff_false, ne_eq]; simp only [OpOk, InR] at *; omega)
end Go.Proofs.Ytdikinkihnepaaa
