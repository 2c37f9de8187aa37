/- Gathered texts. -/
import Derived.Test.YtnecoghfhcimeaaGat0
import Derived.Test.YtnecoghfhcimeaaGat1
import Derived.Test.YtnecoghfhcimeaaGat2
import Derived.StillTail
import Derived.Laws.Tables
import Derived.Laws.Bits128
import Derived.Lib.ItoaNum
/- Functions that are handed objects of their caller's and write into them. Over any program. -/
namespace Go.Proofs.Ytnecoghfhcimeaa
set_option linter.unusedSimpArgs false
set_option linter.unusedVariables false
set_option linter.unusedSectionVars false
open Go.RowKit
open AV (Mem Keeps)
theorem good_junk {C : Ctx} {w : World} {φ : Nat → Option Nat} {σ : List Ob} (hG : Good C ⟨w, φ, σ, C.ok⟩) {j p : Nat} {o : Ob} (ho : σ[j]? = some o) :
    Good C ⟨w, φ, σ.set j ⟨o.t, o.sz, o.cs.set p .junk⟩, C.ok⟩ ∧ Keeps (fun _ => True) ⟨w, φ, σ, C.ok⟩ ⟨w, φ, σ.set j ⟨o.t, o.sz, o.cs.set p .junk⟩, C.ok⟩ := by
  have hj := (List.getElem?_eq_some_iff.1 ho).1
  have hK : Keeps (fun _ => True) ⟨w, φ, σ, C.ok⟩ ⟨w, φ, σ.set j ⟨o.t, o.sz, o.cs.set p .junk⟩, C.ok⟩ := by
    refine ⟨⟨Nat.le_refl _, fun b _ hb => ⟨⟨hb.1, fun i hi => hb.2 i (by simpa using hi)⟩, rfl⟩⟩, fun i _ hi => ⟨by simpa using hi, rfl⟩, fun i ob _ hi => ?_, fun i g us t _ _ _ hh => ⟨us, hh, rfl⟩⟩
    by_cases e : i = j
    · subst e
      have : ob = o := Option.some.inj (hi.symm.trans ho)
      subst this
      exact ⟨ob.cs.set p .junk, by simp [hj], by simp⟩
    · exact ⟨ob.cs, by simp only [List.getElem?_set_ne (Ne.symm e)]; exact hi, rfl⟩
  refine ⟨⟨rfl, fun a b g ha hb => hG.inj a b g (by simpa using ha) (by simpa using hb), fun i ob hi => ?_, fun i g hi => hG.mine i g (by simpa using hi), hG.frm⟩, hK⟩
  by_cases e : i = j
  · subst e
    simp only [List.getElem?_set_self hj, Option.some.injEq] at hi
    subst hi
    have h := hG.ob i o ho
    show ObRel _ _ (φ i)
    simp only at h
    cases hφ : φ i with
    | none =>
      rw [hφ] at h
      simp only [ObRel] at h ⊢
      simp [h]
    | some g =>
      rw [hφ] at h
      obtain ⟨us, h1, h2, h3⟩ := h
      refine ⟨us, h1, by simpa using h2, fun k v hk => ?_⟩
      simp only [List.getElem?_set] at hk
      split at hk
      · rename_i hpk
        subst hpk
        split at hk
        · rename_i hlt
          injection hk with hk; subst hk
          obtain ⟨u, e1, e2, _⟩ := h3 p _ (List.getElem?_eq_getElem hlt)
          exact ⟨u, e1, e2, by simp [AV.rel]⟩
        · cases hk
      · obtain ⟨u, e1, e2, e3⟩ := h3 k v hk
        exact ⟨u, e1, e2, AV.rel_keeps hK _ _ (AV.only_true _) e3⟩
  · rw [List.getElem?_set_ne (Ne.symm e)] at hi
    exact (hG.ob i ob hi).keeps hK fun _ _ => rfl
section
variable {P : Program} {C : Ctx} {ops : Array Oper} {rest : List Oper} {k : List Item} {R : Act → World → Prop} {env : Env} {σ : List Ob} {t : Nat} {ty : TypeId} {pos : String} {after : Array Edge}
theorem RunsL.junk {l : List Oper} (j p : Nat) {o : Ob} (ho : σ[j]? = some o) (hk : RunsL P C ops l k R ⟨env, σ.set j ⟨o.t, o.sz, o.cs.set p .junk⟩⟩) : RunsL P C ops l k R ⟨env, σ⟩ :=
  ⟨fun a w ⟨h1, h2, φ, h3, h4⟩ => by
    obtain ⟨g1, g2⟩ := good_junk (p := p) h3 ho
    exact hk.run a w ⟨h1, h2, φ, g1, h4.keeps g2⟩⟩
end
section
variable {P : Program} {C : Ctx} {fn : Func} {S : St} {gs : Nat → Nat} {st : List Nat} {σ' : List Ob} {v : AV}
end
mutual
def AV.ren (r : Nat → Nat) : AV → AV
  | .ro v => .ro v
  | .junk => .junk
  | .obj i off => .obj (r i) off
  | .pin i off g => .pin (r i) off g
  | .own i => .own (r i)
  | .agg cs => .agg (AV.rens r cs)
  | .tup vs => .tup (AV.rens r vs)
  | .fn f a b => .fn f (AV.rens r a) (AV.rens r b)
def AV.rens (r : Nat → Nat) : List AV → List AV
  | [] => []
  | x :: xs => AV.ren r x :: AV.rens r xs
end
def Ob.ren (r : Nat → Nat) (o : Ob) : Ob := ⟨o.t, o.sz, AV.rens r o.cs⟩
theorem rens_len (r : Nat → Nat) : ∀ l : List AV, (AV.rens r l).length = l.length
  | [] => rfl
  | x :: xs => by simp [AV.rens, rens_len r xs]
theorem rens_at (r : Nat → Nat) : ∀ (l : List AV) (j : Nat), (AV.rens r l)[j]? = (l[j]?).map (AV.ren r)
  | [], j => by simp [AV.rens]
  | x :: xs, 0 => by simp [AV.rens]
  | x :: xs, j + 1 => by simp [AV.rens, rens_at r xs j]
mutual
def AV.rid (lent st : Nat → Bool) : AV → AV
  | .ro v => .ro v
  | .junk => .junk
  | .obj i off => match lent i, st i with
    | true, false => .junk
    | _, _ => .obj i off
  | .pin i off g => match lent i, st i with
    | true, false => .junk
    | _, _ => .pin i off g
  | .own i => match lent i with
    | true => .junk
    | false => .own i
  | .agg cs => .agg (AV.rids lent st cs)
  | .tup vs => .tup (AV.rids lent st vs)
  | .fn f a b => .fn f (AV.rids lent st a) (AV.rids lent st b)
def AV.rids (lent st : Nat → Bool) : List AV → List AV
  | [] => []
  | x :: xs => AV.rid lent st x :: AV.rids lent st xs
end
section
variable {m m' : Mem} {r : Nat → Nat} {lent st : Nat → Bool}
mutual
theorem rel_unren {n : Nat} (hw : m'.w = m.w) (hok : ∀ b, m.ok b → m'.ok b) (hφ : ∀ i, i < n → m'.φ i = m.φ (r i)) (hn : m'.σ.length = n) (hσ : ∀ (i : Nat) o, i < n → m.σ[r i]? = some o → ∃ cs, m'.σ[i]? = some ⟨o.t, o.sz, cs⟩ ∧ cs.length = o.cs.length) :
    ∀ (v : AV) (u : Value), v.only (fun i => i < n) → AV.rel m (v.ren r) u → AV.rel m' v u
  | .ro v, u, _, h => by
    simp only [AV.ren, AV.rel] at h ⊢
    exact RV.rel_mono ⟨by rw [hw]; exact Nat.le_refl _, fun b _ hb => ⟨hok b hb, by rw [hw]⟩⟩ v u h
  | .junk, u, _, _ => by simp [AV.rel]
  | .obj i off, u, ho, h => by
    simp only [AV.ren, AV.rel, AV.only] at h ho ⊢
    obtain ⟨_, g, h2, h3⟩ := h
    exact ⟨by omega, g, (hφ i ho).trans h2, h3⟩
  | .pin i off g, u, ho, h => by
    simp only [AV.ren, AV.rel, AV.only] at h ho ⊢
    obtain ⟨_, h2, h3⟩ := h
    exact ⟨by omega, (hφ i ho).trans h2, h3⟩
  | .own i, u, ho, h => by
    simp only [AV.ren, AV.rel, AV.only] at h ho ⊢
    obtain ⟨ob, k, h1, h2, h3, h4⟩ := h
    obtain ⟨cs, e1, e2⟩ := hσ i ob ho h1
    refine ⟨_, k, e1, by simp only; rw [e2]; exact h2, h3, ?_⟩
    rcases h4 with ⟨q1, q2, q3⟩ | ⟨g, cap, us, q1, q2, q3, q4⟩
    · exact .inl ⟨q1, q2, (hφ i ho).trans q3⟩
    · exact .inr ⟨g, cap, us, (hφ i ho).trans q1, q2, by rw [hw]; exact q3, q4⟩
  | .agg cs, u, ho, h => by
    simp only [AV.ren, AV.rel, AV.only] at h ho ⊢
    obtain ⟨us, e, h1⟩ := h
    exact ⟨us, e, rels_unren hw hok hφ hn hσ cs _ ho h1⟩
  | .tup cs, u, ho, h => by
    simp only [AV.ren, AV.rel, AV.only] at h ho ⊢
    obtain ⟨us, e, h1⟩ := h
    exact ⟨us, e, rels_unren hw hok hφ hn hσ cs _ ho h1⟩
  | .fn f a b, u, ho, h => by
    simp only [AV.ren, AV.rel, AV.only] at h ho ⊢
    obtain ⟨us, vs, e, h1, h2⟩ := h
    exact ⟨us, vs, e, rels_unren hw hok hφ hn hσ a _ ho.1 h1, rels_unren hw hok hφ hn hσ b _ ho.2 h2⟩
theorem rels_unren {n : Nat} (hw : m'.w = m.w) (hok : ∀ b, m.ok b → m'.ok b) (hφ : ∀ i, i < n → m'.φ i = m.φ (r i)) (hn : m'.σ.length = n) (hσ : ∀ (i : Nat) o, i < n → m.σ[r i]? = some o → ∃ cs, m'.σ[i]? = some ⟨o.t, o.sz, cs⟩ ∧ cs.length = o.cs.length) :
    ∀ (vs : List AV) (us : List Value), AV.onlys (fun i => i < n) vs → AV.rels m (AV.rens r vs) us → AV.rels m' vs us
  | [], us, _, h => by simpa [AV.rens, AV.rels] using h
  | x :: xs, us, ho, h => by
    simp only [AV.rens, AV.rels, AV.onlys] at h ho ⊢
    obtain ⟨u, us', e, h1, h2⟩ := h
    exact ⟨u, us', e, rel_unren hw hok hφ hn hσ x u ho.1 h1, rels_unren hw hok hφ hn hσ xs us' ho.2 h2⟩
end
mutual
theorem rel_ren {n : Nat} (hw : m'.w = m.w) (hok : ∀ b, m.ok b → m'.ok b) (hφ : ∀ i, i < n → m'.φ (r i) = m.φ i) (hr : ∀ i, i < n → r i < m'.σ.length) (hn : m.σ.length = n) (hσ : ∀ (i : Nat) o, m.σ[i]? = some o → ∃ cs, m'.σ[r i]? = some ⟨o.t, o.sz, cs⟩ ∧ cs.length = o.cs.length) :
    ∀ (v : AV) (u : Value), AV.rel m v u → AV.rel m' (v.ren r) u
  | .ro v, u, h => by
    simp only [AV.ren, AV.rel] at h ⊢
    exact RV.rel_mono ⟨by rw [hw]; exact Nat.le_refl _, fun b _ hb => ⟨hok b hb, by rw [hw]⟩⟩ v u h
  | .junk, u, _ => by simp [AV.rel, AV.ren]
  | .obj i off, u, h => by
    simp only [AV.ren, AV.rel] at h ⊢
    obtain ⟨h1, g, h2, h3⟩ := h
    exact ⟨hr i (by omega), g, (hφ i (by omega)).trans h2, h3⟩
  | .pin i off g, u, h => by
    simp only [AV.ren, AV.rel] at h ⊢
    obtain ⟨h1, h2, h3⟩ := h
    exact ⟨hr i (by omega), (hφ i (by omega)).trans h2, h3⟩
  | .own i, u, h => by
    simp only [AV.ren, AV.rel] at h ⊢
    obtain ⟨ob, k, h1, h2, h3, h4⟩ := h
    obtain ⟨cs, e1, e2⟩ := hσ i ob h1
    have hi : i < n := by have := (List.getElem?_eq_some_iff.1 h1).1; omega
    refine ⟨_, k, e1, by simp only; rw [e2]; exact h2, h3, ?_⟩
    rcases h4 with ⟨q1, q2, q3⟩ | ⟨g, cap, us, q1, q2, q3, q4⟩
    · exact .inl ⟨q1, q2, (hφ i hi).trans q3⟩
    · exact .inr ⟨g, cap, us, (hφ i hi).trans q1, q2, by rw [hw]; exact q3, q4⟩
  | .agg cs, u, h => by
    simp only [AV.ren, AV.rel] at h ⊢
    obtain ⟨us, e, h1⟩ := h
    exact ⟨us, e, rels_ren hw hok hφ hr hn hσ cs _ h1⟩
  | .tup cs, u, h => by
    simp only [AV.ren, AV.rel] at h ⊢
    obtain ⟨us, e, h1⟩ := h
    exact ⟨us, e, rels_ren hw hok hφ hr hn hσ cs _ h1⟩
  | .fn f a b, u, h => by
    simp only [AV.ren, AV.rel] at h ⊢
    obtain ⟨us, vs, e, h1, h2⟩ := h
    exact ⟨us, vs, e, rels_ren hw hok hφ hr hn hσ a _ h1, rels_ren hw hok hφ hr hn hσ b _ h2⟩
theorem rels_ren {n : Nat} (hw : m'.w = m.w) (hok : ∀ b, m.ok b → m'.ok b) (hφ : ∀ i, i < n → m'.φ (r i) = m.φ i) (hr : ∀ i, i < n → r i < m'.σ.length) (hn : m.σ.length = n) (hσ : ∀ (i : Nat) o, m.σ[i]? = some o → ∃ cs, m'.σ[r i]? = some ⟨o.t, o.sz, cs⟩ ∧ cs.length = o.cs.length) :
    ∀ (vs : List AV) (us : List Value), AV.rels m vs us → AV.rels m' (AV.rens r vs) us
  | [], us, h => by simpa [AV.rens, AV.rels] using h
  | x :: xs, us, h => by
    simp only [AV.rens, AV.rels] at h ⊢
    obtain ⟨u, us', e, h1, h2⟩ := h
    exact ⟨u, us', e, rel_ren hw hok hφ hr hn hσ x u h1, rels_ren hw hok hφ hr hn hσ xs us' h2⟩
end
mutual
theorem rel_rid (hro : RV.Kept m.w m.ok m'.w m'.ok) (hlen : m'.σ.length = m.σ.length) (hφ : ∀ i, i < m.σ.length → lent i = false ∨ st i = true → m'.φ i = m.φ i) (hσ : ∀ i, lent i = false → m'.σ[i]? = m.σ[i]?) (hb : ∀ i g, i < m.σ.length → lent i = false → m.φ i = some g → m'.w.heap[g]? = m.w.heap[g]?) :
    ∀ (v : AV) (u : Value), AV.rel m v u → AV.rel m' (v.rid lent st) u
  | .ro v, u, h => by
    simp only [AV.rid, AV.rel] at h ⊢
    exact RV.rel_mono hro v u h
  | .junk, u, _ => by simp [AV.rel, AV.rid]
  | .obj i off, u, h => by
    have key : lent i = false ∨ st i = true → AV.rel m' (.obj i off) u := fun hk => by
      simp only [AV.rel] at h ⊢
      obtain ⟨h1, g, h2, h3⟩ := h
      exact ⟨by omega, g, (hφ i h1 hk).trans h2, h3⟩
    unfold AV.rid
    cases h1 : lent i <;> cases h2 : st i <;> first | exact key (.inl h1) | exact key (.inr h2) | simp [AV.rel]
  | .pin i off g, u, h => by
    have key : lent i = false ∨ st i = true → AV.rel m' (.pin i off g) u := fun hk => by
      simp only [AV.rel] at h ⊢
      obtain ⟨h1, h2, h3⟩ := h
      exact ⟨by omega, (hφ i h1 hk).trans h2, h3⟩
    unfold AV.rid
    cases h1 : lent i <;> cases h2 : st i <;> first | exact key (.inl h1) | exact key (.inr h2) | simp [AV.rel]
  | .own i, u, h => by
    have key : lent i = false → AV.rel m' (.own i) u := fun hk => by
      simp only [AV.rel] at h ⊢
      obtain ⟨ob, k, h1, h2, h3, h4⟩ := h
      have hi := (List.getElem?_eq_some_iff.1 h1).1
      refine ⟨ob, k, (hσ i hk).trans h1, h2, h3, ?_⟩
      rcases h4 with ⟨q1, q2, q3⟩ | ⟨g, cap, us, q1, q2, q3, q4⟩
      · exact .inl ⟨q1, q2, (hφ i hi (.inl hk)).trans q3⟩
      · exact .inr ⟨g, cap, us, (hφ i hi (.inl hk)).trans q1, q2, (hb i g hi hk q1).trans q3, q4⟩
    unfold AV.rid
    cases h1 : lent i <;> first | exact key h1 | simp [AV.rel]
  | .agg cs, u, h => by
    simp only [AV.rid, AV.rel] at h ⊢
    obtain ⟨us, e, h1⟩ := h
    exact ⟨us, e, rels_rid hro hlen hφ hσ hb cs _ h1⟩
  | .tup cs, u, h => by
    simp only [AV.rid, AV.rel] at h ⊢
    obtain ⟨us, e, h1⟩ := h
    exact ⟨us, e, rels_rid hro hlen hφ hσ hb cs _ h1⟩
  | .fn f a b, u, h => by
    simp only [AV.rid, AV.rel] at h ⊢
    obtain ⟨us, vs, e, h1, h2⟩ := h
    exact ⟨us, vs, e, rels_rid hro hlen hφ hσ hb a _ h1, rels_rid hro hlen hφ hσ hb b _ h2⟩
theorem rels_rid (hro : RV.Kept m.w m.ok m'.w m'.ok) (hlen : m'.σ.length = m.σ.length) (hφ : ∀ i, i < m.σ.length → lent i = false ∨ st i = true → m'.φ i = m.φ i) (hσ : ∀ i, lent i = false → m'.σ[i]? = m.σ[i]?) (hb : ∀ i g, i < m.σ.length → lent i = false → m.φ i = some g → m'.w.heap[g]? = m.w.heap[g]?) :
    ∀ (vs : List AV) (us : List Value), AV.rels m vs us → AV.rels m' (AV.rids lent st vs) us
  | [], us, h => by simpa [AV.rids, AV.rels] using h
  | x :: xs, us, h => by
    simp only [AV.rids, AV.rels] at h ⊢
    obtain ⟨u, us', e, h1, h2⟩ := h
    exact ⟨u, us', e, rel_rid hro hlen hφ hσ hb x u h1, rels_rid hro hlen hφ hσ hb xs us' h2⟩
end
end
def rof (ι : List Nat) (i : Nat) : Nat := (ι[i]?).getD 0
def lentB (ι : List Nat) (i : Nat) : Bool := ι.any fun j => Nat.beq j i
def stB' (ι st : List Nat) (i : Nat) : Bool := st.any fun j => Nat.beq (rof ι j) i
def LentAt (ι : List Nat) (σ : List Ob) : List Ob → Nat → Prop
  | [], _ => True
  | o :: os, j => σ[rof ι j]? = some (o.ren (rof ι)) ∧ LentAt ι σ os (j + 1)
theorem LentAt.at_ {ι : List Nat} {σ : List Ob} : ∀ {os : List Ob} {j : Nat}, LentAt ι σ os j → ∀ (k : Nat) o, os[k]? = some o → σ[rof ι (j + k)]? = some (o.ren (rof ι))
  | [], j, _, k, o, h => by simp at h
  | x :: os, j, hl, k, o, h => by
    simp only [LentAt] at hl
    cases k with
    | zero => simp at h; subst h; exact hl.1
    | succ k =>
      simp at h
      have := LentAt.at_ hl.2 k o h
      rwa [show j + 1 + k = j + (k + 1) by omega] at this
def FreeR (ι st : List Nat) : Nat → List Ob → Prop
  | _, [] => True
  | i, o :: os => (lentB ι i = true ∨ AV.rids (lentB ι) (stB' ι st) o.cs = o.cs) ∧ FreeR ι st (i + 1) os
theorem FreeR.at_ {ι st : List Nat} : ∀ {os : List Ob} {i : Nat}, FreeR ι st i os → ∀ (k : Nat) o, os[k]? = some o → lentB ι (i + k) = true ∨ AV.rids (lentB ι) (stB' ι st) o.cs = o.cs
  | [], i, _, k, o, h => by simp at h
  | x :: os, i, hl, k, o, h => by
    simp only [FreeR] at hl
    cases k with
    | zero => simp at h; subst h; exact hl.1
    | succ k =>
      simp at h
      have := FreeR.at_ hl.2 k o h
      rwa [show i + 1 + k = i + (k + 1) by omega] at this
structure Lent (ι st : List Nat) (σ σ0 σ1 : List Ob) : Prop where
  len : Nat.beq σ0.length ι.length = true
  len1 : Nat.beq σ1.length ι.length = true
  lt : (ι.all fun i => Nat.ble (i + 1) σ.length) = true
  inj : ι.Nodup
  at_ : LentAt ι σ σ0 0
  closed : FreeO σ0.length σ0
  stl : (st.all fun j => Nat.ble (j + 1) ι.length) = true
  free : FreeR ι st 0 σ
def unpin : AV → AV
  | .pin i off _ => .obj i off
  | v => v
theorem unpin_rel {m : Mem} {v : AV} {u : Value} (h : AV.rel m v u) : AV.rel m (unpin v) u := by
  cases v <;> simp only [unpin] <;> try exact h
  case pin i off g =>
    simp only [AV.rel] at h ⊢
    exact ⟨h.1, g, h.2.1, h.2.2⟩
section
variable {P : Program} {C : Ctx} {ops : Array Oper} {rest : List Oper} {k : List Item} {R : Act → World → Prop} {env : Env} {σ : List Ob} {t : Nat} {ty : TypeId} {pos : String} {after : Array Edge}
end
end Go.Proofs.Ytnecoghfhcimeaa
/- Functions that are handed the first objects of their caller's. Over any program. -/
namespace Go.Proofs.Ytnecoghfhcimeaa
set_option linter.unusedSimpArgs false
set_option linter.unusedVariables false
set_option linter.unusedSectionVars false
open Go.RowKit
open AV (Mem Keeps)
def ltB (n i : Nat) : Bool := Nat.ble (i + 1) n
def memB (st : List Nat) (i : Nat) : Bool := st.any fun j => Nat.beq j i
def FreeP (n : Nat) (st : List Nat) : List Ob → Prop
  | [] => True
  | o :: os => AV.rids (ltB n) (memB st) o.cs = o.cs ∧ FreeP n st os
mutual
theorem ren_id {r : Nat → Nat} {n : Nat} (hr : ∀ i, i < n → r i = i) : ∀ v : AV, v.only (fun i => i < n) → v.ren r = v
  | .ro _, _ | .junk, _ => rfl
  | .obj i off, h => by simp only [AV.only] at h; simp only [AV.ren, hr i h]
  | .pin i off g, h => by simp only [AV.only] at h; simp only [AV.ren, hr i h]
  | .own i, h => by simp only [AV.only] at h; simp only [AV.ren, hr i h]
  | .agg cs, h => by simp only [AV.only] at h; simp only [AV.ren, rens_id hr cs h]
  | .tup cs, h => by simp only [AV.only] at h; simp only [AV.ren, rens_id hr cs h]
  | .fn f a b, h => by simp only [AV.only] at h; simp only [AV.ren, rens_id hr a h.1, rens_id hr b h.2]
theorem rens_id {r : Nat → Nat} {n : Nat} (hr : ∀ i, i < n → r i = i) : ∀ vs : List AV, AV.onlys (fun i => i < n) vs → AV.rens r vs = vs
  | [], _ => rfl
  | x :: xs, h => by simp only [AV.onlys] at h; simp only [AV.rens, ren_id hr x h.1, rens_id hr xs h.2]
end
theorem FreeP.at_ {n : Nat} {st : List Nat} : ∀ {os : List Ob}, FreeP n st os → ∀ (k : Nat) o, os[k]? = some o → AV.rids (ltB n) (memB st) o.cs = o.cs
  | [], _, k, o, h => by simp at h
  | x :: os, hl, k, o, h => by
    simp only [FreeP] at hl
    cases k with
    | zero => simp at h; subst h; exact hl.1
    | succ k => simp at h; exact FreeP.at_ hl.2 k o h
section
variable {P : Program} {C : Ctx} {ops : Array Oper} {rest : List Oper} {k : List Item} {R : Act → World → Prop} {env : Env} {σ : List Ob} {t : Nat} {ty : TypeId} {pos : String} {after : Array Edge}
theorem pu_nilCheckP {gd : Option (Nat × Bool)} {x : Operand} {i off g : Nat} (hx : ev env x = .pin i off g) : Pur P C ⟨some t, .nilCheck x, ty, pos, after, gd⟩ env σ (.pin i off g) :=
  Pur.of (fun a m hG hσ hH => by
    have h := hH x (by simp [Op.operands, Call.operands])
    rw [hx] at h
    have h' := h
    simp only [AV.rel] at h
    obtain ⟨_, _, e⟩ := h
    exact ⟨a.eval x, by simp [execOp, e], h'⟩)
theorem Lends.pin {i off g : Nat} {o : Ob} {rs : List RV} (ho : σ[i]? = some o) (h : LendsL C σ (o.cs.drop off) rs) : Lends C σ (.pin i off g) (.rp rs) := fun m u ok' hG hσ k1 k2 hu => by
  refine Lends.obj ho h m u ok' hG hσ k1 k2 ?_
  exact unpin_rel (v := .pin i off g) hu
theorem sim_nilCell (i p : Nat) {o : Ob} {e : TypeId} {sz : Nat} (hs : 0 < sz) (ho : σ[i]? = some o) (h : o.cs[p]? = some .nil) {a : Act} {w : World} (hsim : Sim C ⟨env, σ⟩ a w) : Sim C ⟨env, σ.set i ⟨o.t, o.sz, o.cs.set p (.own σ.length)⟩ ++ [⟨e, sz, []⟩]⟩ a w := by
  obtain ⟨h1, h2, φ, hG, hH⟩ := hsim
  have hil := (List.getElem?_eq_some_iff.1 ho).1
  obtain ⟨g1, g2⟩ := good_grow (φ' := upd φ σ.length none) (new := [⟨e, sz, []⟩]) hG (Below.refl _ _) (fun i hi => upd_ne (show i ≠ σ.length from Nat.ne_of_lt hi)) (fun j hj g hg => by
      simp at hj; subst hj; simp [upd_eq] at hg) (fun i j g hi hj _ _ => by simp at hi hj; omega) (fun j o hj => by
      cases j with
      | zero => simp at hj; subst hj; simp [upd_eq, ObRel]
      | succ j => simp at hj)
  -- the cell is that row
  have hlen : (σ.set i ⟨o.t, o.sz, o.cs.set p (.own σ.length)⟩ ++ [(⟨e, sz, []⟩ : Ob)]).length = (σ ++ [(⟨e, sz, []⟩ : Ob)]).length := by simp
  have hat : ∀ j, j ≠ i → (σ.set i ⟨o.t, o.sz, o.cs.set p (.own σ.length)⟩ ++ [(⟨e, sz, []⟩ : Ob)])[j]? = (σ ++ [(⟨e, sz, []⟩ : Ob)])[j]? := fun j hj => by
    rcases Nat.lt_or_ge j σ.length with h | h
    · rw [List.getElem?_append_left (by simpa using h), List.getElem?_append_left h, List.getElem?_set_ne (Ne.symm hj)]
    · rw [List.getElem?_append_right (by simpa using h), List.getElem?_append_right h]; simp
  have hati : (σ.set i ⟨o.t, o.sz, o.cs.set p (.own σ.length)⟩ ++ [(⟨e, sz, []⟩ : Ob)])[i]? = some ⟨o.t, o.sz, o.cs.set p (.own σ.length)⟩ := by
    rw [List.getElem?_append_left (by simpa using hil), List.getElem?_set_self hil]
  have hati0 : (σ ++ [(⟨e, sz, []⟩ : Ob)])[i]? = some o := by rw [List.getElem?_append_left hil]; exact ho
  have hK : Keeps (fun _ => True) ⟨w, upd φ σ.length none, σ ++ [⟨e, sz, []⟩], C.ok⟩ ⟨w, upd φ σ.length none, σ.set i ⟨o.t, o.sz, o.cs.set p (.own σ.length)⟩ ++ [⟨e, sz, []⟩], C.ok⟩ := by
    refine ⟨⟨Nat.le_refl _, fun b _ hb => ⟨⟨hb.1, fun j hj => hb.2 j (by rw [← hlen]; exact hj)⟩, rfl⟩⟩, fun j _ hj => ⟨by rw [← hlen] at hj; exact hj, rfl⟩, fun j ob _ hj => ?_, fun j g us t _ _ _ hh => ⟨us, hh, rfl⟩⟩
    by_cases e : j = i
    · subst e
      simp only at hj
      rw [hati0] at hj; injection hj with hj; subst hj
      exact ⟨_, hati, by simp⟩
    · exact ⟨ob.cs, by simp only; rw [hat j e]; exact hj, rfl⟩
  refine ⟨h1, h2, upd φ σ.length none, ⟨rfl, fun a b g ha hb => g1.inj a b g (by rw [← hlen]; exact ha) (by rw [← hlen]; exact hb), fun j ob hj => ?_, fun j g hj => g1.mine j g (by rw [← hlen]; exact hj), g1.frm⟩, (hH.keeps g2).keeps hK⟩
  by_cases e' : j = i
  · subst e'
    simp only at hj
    rw [hati] at hj; injection hj with hj; subst hj
    have h0 := g1.ob j o hati0
    show ObRel _ _ (upd φ σ.length none j)
    simp only at h0
    cases hφ : upd φ σ.length none j with
    | none =>
      rw [hφ] at h0
      simp only [ObRel] at h0
      rw [h0] at h; simp at h
    | some g =>
      rw [hφ] at h0
      obtain ⟨us, q1, q2, q3⟩ := h0
      refine ⟨us, q1, by simpa using q2, fun m v hm => ?_⟩
      simp only [List.getElem?_set] at hm
      split at hm
      · rename_i hpm
        subst hpm
        split at hm
        · injection hm with hm; subst hm
          obtain ⟨u, k1, k2, k3⟩ := q3 p _ h
          simp only [AV.rel, RV.rel] at k3
          subst k3
          refine ⟨_, k1, rfl, ?_⟩
          simp only [AV.rel]
          exact ⟨⟨e, sz, []⟩, 0, by rw [List.getElem?_append_right (by simp)]; simp, by simp, hs, .inl ⟨by first | rfl | trivial, by first | rfl | trivial, upd_eq⟩⟩
        · cases hm
      · obtain ⟨u, k1, k2, k3⟩ := q3 m v hm
        exact ⟨u, k1, k2, AV.rel_keeps hK _ _ (AV.only_true _) k3⟩
  · simp only at hj
    rw [hat j e'] at hj
    exact (g1.ob j ob hj).keeps hK fun _ _ => rfl
theorem RunsL.nilCell {l : List Oper} (i p : Nat) {o : Ob} {e : TypeId} {sz : Nat} (hs : 0 < sz) (ho : σ[i]? = some o) (h : o.cs[p]? = some .nil) (hk : RunsL P C ops l k R ⟨env, σ.set i ⟨o.t, o.sz, o.cs.set p (.own σ.length)⟩ ++ [⟨e, sz, []⟩]⟩) : RunsL P C ops l k R ⟨env, σ⟩ :=
  ⟨fun a w hsim => hk.run a w (sim_nilCell i p hs ho h hsim)⟩
theorem Runs.nilCell (i p : Nat) {o : Ob} {e : TypeId} {sz : Nat} (hs : 0 < sz) (ho : σ[i]? = some o) (h : o.cs[p]? = some .nil) (hk : Runs P C k R ⟨env, σ.set i ⟨o.t, o.sz, o.cs.set p (.own σ.length)⟩ ++ [⟨e, sz, []⟩]⟩) : Runs P C k R ⟨env, σ⟩ :=
  ⟨fun a w hsim => hk.run a w (sim_nilCell i p hs ho h hsim)⟩
end
end Go.Proofs.Ytnecoghfhcimeaa
/- Wrapping at 64 bits. -/
namespace Go.Proofs.Ytnecoghfhcimeaa
set_option linter.unusedSimpArgs false
set_option linter.unusedVariables false
set_option linter.unusedSectionVars false
open Go.RowKit
abbrev w64 (x : Int) : Int := IntKind.i64.wrap x
end Go.Proofs.Ytnecoghfhcimeaa
/- Functions that return a pointer at a new object. Over any program. -/
namespace Go.Proofs.Ytnecoghfhcimeaa
set_option linter.unusedSimpArgs false
set_option linter.unusedVariables false
set_option linter.unusedSectionVars false
open Go.RowKit
open AV (Mem Keeps)
section
variable {P : Program} {C : Ctx} {ops : Array Oper} {rest : List Oper} {k : List Item} {R : Act → World → Prop} {env : Env} {σ : List Ob} {t : Nat} {ty : TypeId} {pos : String} {after : Array Edge}
end
end Go.Proofs.Ytnecoghfhcimeaa
/- Functions that draw: they are handed a cursor, move it on, and return what they drew. Over any program. -/
namespace Go.Proofs.Ytnecoghfhcimeaa
set_option linter.unusedSimpArgs false
set_option linter.unusedVariables false
set_option linter.unusedSectionVars false
open Go.RowKit
open AV (Mem Keeps)
def curOb (ct : TypeId) (u : Value) (i h : Int) : Ob := ⟨ct, 0, [.ro (.c u), .int i, .int h]⟩
def CurAt (ct : TypeId) (w : World) (g : Nat) (u : Value) (i h : Int) : Prop :=
  ∃ us : Array Value, w.heap[g]? = some (.cells us ct (0, 0)) ∧ us[0]? = some u ∧ us[1]? = some (.int .i64 i) ∧ us[2]? = some (.int .i64 h)
def CurOk (b : List UInt8) (i : Int) : Prop := 0 ≤ i ∧ i ≤ b.length
structure Bx (g : Nat) (w w' : World) : Prop where
  os : w'.os = w.os
  tape : w'.tape = w.tape
  output : w'.output = w.output
  size : w.heap.size ≤ w'.heap.size
  block : ∀ b, b < w.heap.size → b ≠ g → w'.heap[b]? = w.heap[b]?
def Drw (P : Program) (ct : TypeId) (f : FuncId) (b : List UInt8) (args : List RV) (Q : RR → Prop) : Prop :=
  ∀ (w : World) (ok : Nat → Prop) (g : Nat) (u : Value) (i h : Int) (us : List Value), (∀ x, w.heap.size ≤ x → ok x) → CurAt ct w g u i h →
    RV.rel w (fun x => ok x ∧ x ≠ g) (bytesR b) u → CurOk b i → RV.rels w (fun x => ok x ∧ x ≠ g) args us →
    Calls P f (.pointer (some ⟨g, 0, none⟩) :: us).toArray w fun e w' => ∃ v rr bs i' h', e = .returned v ∧ Q rr ∧ RR.rel w' (fun x => (ok x ∧ x ≠ g) ∧ x ∉ bs) rr v bs ∧ bs.Nodup ∧
      (∀ x ∈ bs, w.heap.size ≤ x ∧ x < w'.heap.size) ∧ CurOk b i' ∧ CurAt ct w' g u i' h' ∧ Bx g w w'
theorem Drw.mono {P : Program} {ct : TypeId} {f : FuncId} {b : List UInt8} {args : List RV} {Q Q' : RR → Prop} (h : Drw P ct f b args Q) (hq : ∀ rr, Q rr → Q' rr) : Drw P ct f b args Q' :=
  fun w ok g u i hh us h0 h1 h2 h3 h4 => (h w ok g u i hh us h0 h1 h2 h3 h4).mono fun _ _ ⟨v, rr, bs, i', h', e, q, r⟩ => ⟨v, rr, bs, i', h', e, hq rr q, r⟩
def HU (C : Ctx) (b : List UInt8) (u : Value) : Prop := RV.rel C.w0 (fun x => C.ok x ∧ ¬ C.mu x) (bytesR b) u
theorem HU.now {C : Ctx} {b : List UInt8} {u : Value} (h : HU C b u) {m : Mem} (hG : Good C m) : RV.rel m.w (fun x => C.ok x ∧ ∀ j, j < m.σ.length → m.φ j ≠ some x) (bytesR b) u :=
  RV.rel_mono ⟨hG.frm.size, fun x hx ho => ⟨⟨ho.1, fun j hj e => by
    rcases hG.mine j x hj e with k | k
    · exact ho.2 k
    · omega⟩, hG.frm.block x hx ho.2⟩⟩ _ _ h
theorem HU.ok {C : Ctx} {b : List UInt8} {u : Value} (h : HU C b u) {m : Mem} (hG : Good C m) : RV.rel m.w m.ok (bytesR b) u :=
  RV.rel_mono ⟨Nat.le_refl _, fun x _ ho => ⟨⟨by rw [hG.ok0]; exact ho.1, ho.2⟩, rfl⟩⟩ _ _ (h.now hG)
theorem HU.shape {C : Ctx} {b : List UInt8} {u : Value} (h : HU C b u) : ∃ A n c, u = .slice A n c := by
  simp only [HU, bytesR, RV.rel] at h
  obtain ⟨A, n, c, e, _⟩ := h
  exact ⟨A, n, c, e⟩
section
variable {P : Program} {C : Ctx} {env : Env} {σ : List Ob} {o : Oper} {b : List UInt8} {u : Value}
theorem Pur.know (hu : HU C b u) (h : Pur P C o env σ (.ro (.c u))) : Pur P C o env σ (.ro (bytesR b)) :=
  ⟨fun a m hG hσ hH K Q hK => h.run a m hG hσ hH K Q fun x w' hb hv => hK x w' hb (by
    simp only [AV.rel, RV.rel] at hv ⊢
    subst hv
    have hG' : Good C { m with w := w' } := by
      have e : m = ⟨m.w, m.φ, m.σ, C.ok⟩ := by rw [← hG.ok0]
      have := (good_below (C := C) (w := m.w) (φ := m.φ) (σ := m.σ) (by rw [← e]; exact hG) hb).1
      rw [hG.ok0]; exact this
    exact hu.ok hG')⟩
end
mutual
def cln : AV → Bool
  | .own i => !(Nat.beq i 0)
  | .agg cs => clns cs
  | .tup vs => clns vs
  | .fn _ x y => clns x && clns y
  | _ => true
def clns : List AV → Bool
  | [] => true
  | x :: xs => cln x && clns xs
end
def clnE : Env → Bool
  | [] => true
  | (_, v) :: e => cln v && clnE e
def clnO : List Ob → Bool
  | [] => true
  | o :: os => clns o.cs && clnO os
theorem clnE.look {env : Env} (h : clnE env = true) (t : Nat) : cln (look env t) = true := by
  induction env with
  | nil => rfl
  | cons p e ih =>
    obtain ⟨s, v⟩ := p
    simp only [clnE, Bool.and_eq_true] at h
    rw [look_put]
    split
    · exact h.1
    · exact ih h.2
theorem clns_at : ∀ {cs : List AV}, clns cs = true → ∀ (j : Nat) v, cs[j]? = some v → cln v = true
  | [], _, j, v, hj => by simp at hj
  | x :: xs, h, j, v, hj => by
    simp only [clns, Bool.and_eq_true] at h
    cases j with
    | zero => simp at hj; subst hj; exact h.1
    | succ j => exact clns_at h.2 j v (by simpa using hj)
theorem clnO_at : ∀ {os : List Ob}, clnO os = true → ∀ (i : Nat) o, os[i]? = some o → clns o.cs = true
  | [], _, i, o, hi => by simp at hi
  | x :: os, h, i, o, hi => by
    simp only [clnO, Bool.and_eq_true] at h
    cases i with
    | zero => simp at hi; subst hi; exact h.1
    | succ i => exact clnO_at h.2 i o (by simpa using hi)
theorem clnO_cons {o : Ob} {os : List Ob} (h1 : clns o.cs = true) (h2 : clnO os = true) : clnO (o :: os) = true := by simp only [clnO, h1, h2, Bool.and_self]
theorem clns_ro : ∀ rs : List RV, clns (rs.map .ro) = true
  | [] => rfl
  | r :: rs => by simp only [List.map_cons, clns, cln, clns_ro rs, Bool.and_self]
section
variable {m m' : Mem}
mutual
theorem rel_cln (hro : RV.Kept m.w m.ok m'.w m'.ok) (hlen : m.σ.length ≤ m'.σ.length) (hφ : ∀ i, i < m.σ.length → m'.φ i = m.φ i) (hσ : ∀ i, i ≠ 0 → i < m.σ.length → m'.σ[i]? = m.σ[i]?) (hb : ∀ i g, i ≠ 0 → i < m.σ.length → m.φ i = some g → m'.w.heap[g]? = m.w.heap[g]?) :
    ∀ (v : AV) (u : Value), cln v = true → AV.rel m v u → AV.rel m' v u
  | .ro v, u, _, h => by
    simp only [AV.rel] at h ⊢
    exact RV.rel_mono hro v u h
  | .junk, u, _, _ => by simp [AV.rel]
  | .obj i off, u, _, h => by
    simp only [AV.rel] at h ⊢
    obtain ⟨h1, g, h2, h3⟩ := h
    exact ⟨by omega, g, (hφ i h1).trans h2, h3⟩
  | .pin i off g, u, _, h => by
    simp only [AV.rel] at h ⊢
    obtain ⟨h1, h2, h3⟩ := h
    exact ⟨by omega, (hφ i h1).trans h2, h3⟩
  | .own i, u, hc, h => by
    have hi0 : i ≠ 0 := by
      intro e; subst e; simp [cln] at hc
    simp only [AV.rel] at h ⊢
    obtain ⟨ob, k, h1, h2, h3, h4⟩ := h
    have hi := (List.getElem?_eq_some_iff.1 h1).1
    refine ⟨ob, k, (hσ i hi0 hi).trans h1, h2, h3, ?_⟩
    rcases h4 with ⟨q1, q2, q3⟩ | ⟨g, cap, us, q1, q2, q3, q4⟩
    · exact .inl ⟨q1, q2, (hφ i hi).trans q3⟩
    · exact .inr ⟨g, cap, us, (hφ i hi).trans q1, q2, (hb i g hi0 hi q1).trans q3, q4⟩
  | .agg cs, u, hc, h => by
    simp only [AV.rel] at h ⊢
    obtain ⟨us, e, h1⟩ := h
    exact ⟨us, e, rels_cln hro hlen hφ hσ hb cs _ (by simpa only [cln] using hc) h1⟩
  | .tup cs, u, hc, h => by
    simp only [AV.rel] at h ⊢
    obtain ⟨us, e, h1⟩ := h
    exact ⟨us, e, rels_cln hro hlen hφ hσ hb cs _ (by simpa only [cln] using hc) h1⟩
  | .fn f a b, u, hc, h => by
    simp only [AV.rel] at h ⊢
    simp only [cln, Bool.and_eq_true] at hc
    obtain ⟨us, vs, e, h1, h2⟩ := h
    exact ⟨us, vs, e, rels_cln hro hlen hφ hσ hb a _ hc.1 h1, rels_cln hro hlen hφ hσ hb b _ hc.2 h2⟩
theorem rels_cln (hro : RV.Kept m.w m.ok m'.w m'.ok) (hlen : m.σ.length ≤ m'.σ.length) (hφ : ∀ i, i < m.σ.length → m'.φ i = m.φ i) (hσ : ∀ i, i ≠ 0 → i < m.σ.length → m'.σ[i]? = m.σ[i]?) (hb : ∀ i g, i ≠ 0 → i < m.σ.length → m.φ i = some g → m'.w.heap[g]? = m.w.heap[g]?) :
    ∀ (vs : List AV) (us : List Value), clns vs = true → AV.rels m vs us → AV.rels m' vs us
  | [], us, _, h => by simpa [AV.rels] using h
  | x :: xs, us, hc, h => by
    simp only [AV.rels] at h ⊢
    simp only [clns, Bool.and_eq_true] at hc
    obtain ⟨u, us', e, h1, h2⟩ := h
    exact ⟨u, us', e, rel_cln hro hlen hφ hσ hb x u hc.1 h1, rels_cln hro hlen hφ hσ hb xs us' hc.2 h2⟩
end
end
theorem draw_good {C : Ctx} {ct : TypeId} {u : Value} {i h i' h' : Int} {more new : List Ob} {w w' : World} {φ φ' : Nat → Option Nat} {g : Nat} (hG : Good C ⟨w, φ, curOb ct u i h :: more, C.ok⟩) (hg : φ 0 = some g) (hu : u.oneCell' = true) (hat : CurAt ct w' g u i' h') (hb : Bx g w w') (hcl : clnO more = true)
    (hφ : ∀ j, j < more.length + 1 → φ' j = φ j) (hn : ∀ j, j < new.length → ∀ x, φ' (more.length + 1 + j) = some x → w.heap.size ≤ x) (hinj : ∀ a c x, a < new.length → c < new.length → φ' (more.length + 1 + a) = some x → φ' (more.length + 1 + c) = some x → a = c)
    (hob : ∀ (j : Nat) o, new[j]? = some o → ObRel ⟨w', φ', (curOb ct u i' h' :: more) ++ new, C.ok⟩ o (φ' (more.length + 1 + j))) :
    Good C ⟨w', φ', (curOb ct u i' h' :: more) ++ new, C.ok⟩ ∧ ∀ v x, cln v = true → AV.rel ⟨w, φ, curOb ct u i h :: more, C.ok⟩ v x → AV.rel ⟨w', φ', (curOb ct u i' h' :: more) ++ new, C.ok⟩ v x := by
  have hlt : ∀ j x, j < more.length + 1 → φ j = some x → x < w.heap.size := fun j x hj hx => hG.lt (m := ⟨w, φ, curOb ct u i h :: more, C.ok⟩) (by simpa using hj) hx
  have hne : ∀ j x, j ≠ 0 → j < more.length + 1 → φ j = some x → x ≠ g := fun j x h0 hj hx e => h0 (hG.inj j 0 g (by simpa using hj) (by simp) (e ▸ hx) hg)
  have hro : RV.Kept w (AV.Mem.ok ⟨w, φ, curOb ct u i h :: more, C.ok⟩) w' (AV.Mem.ok ⟨w', φ', (curOb ct u i' h' :: more) ++ new, C.ok⟩) := ⟨hb.size, fun x hx ho => ⟨⟨ho.1, fun j hj e => by
    simp only [List.length_append, List.length_cons] at hj
    rcases Nat.lt_or_ge j (more.length + 1) with k | k
    · exact ho.2 j (by simpa using k) ((hφ j k).symm.trans e)
    · have := hn (j - (more.length + 1)) (by omega) x (by rwa [show more.length + 1 + (j - (more.length + 1)) = j by omega])
      omega⟩, hb.block x hx fun e => ho.2 0 (by simp) (e ▸ hg)⟩⟩
  have key : ∀ v x, cln v = true → AV.rel ⟨w, φ, curOb ct u i h :: more, C.ok⟩ v x → AV.rel ⟨w', φ', (curOb ct u i' h' :: more) ++ new, C.ok⟩ v x :=
    rel_cln (m := ⟨w, φ, curOb ct u i h :: more, C.ok⟩) (m' := ⟨w', φ', (curOb ct u i' h' :: more) ++ new, C.ok⟩) hro (by simp) (fun j hj => hφ j (by simpa using hj)) (fun j h0 hj => by
      cases j with
      | zero => exact absurd rfl h0
      | succ j => simp only [List.cons_append, List.getElem?_cons_succ]; exact List.getElem?_append_left (by simpa using hj)) (fun j x h0 hj hx => hb.block x (hlt j x (by simpa using hj) hx) (hne j x h0 (by simpa using hj) hx))
  refine ⟨⟨rfl, fun a c x ha hc e1 e2 => ?_, fun j o hj => ?_, fun j x hj hx => ?_, ⟨hb.os.trans hG.frm.os, hb.tape.trans hG.frm.tape, hb.output.trans hG.frm.output, Nat.le_trans hG.frm.size hb.size, fun x hx hm => ?_, hG.frm.new⟩⟩, key⟩
  · simp only [List.length_append, List.length_cons] at ha hc
    rcases Nat.lt_or_ge a (more.length + 1) with k1 | k1 <;> rcases Nat.lt_or_ge c (more.length + 1) with k2 | k2
    · exact hG.inj a c x (by simpa using k1) (by simpa using k2) ((hφ a k1).symm.trans e1) ((hφ c k2).symm.trans e2)
    · have a1 := hlt a x k1 ((hφ a k1).symm.trans e1)
      have a2 := hn (c - (more.length + 1)) (by omega) x (by rwa [show more.length + 1 + (c - (more.length + 1)) = c by omega])
      omega
    · have a1 := hlt c x k2 ((hφ c k2).symm.trans e2)
      have a2 := hn (a - (more.length + 1)) (by omega) x (by rwa [show more.length + 1 + (a - (more.length + 1)) = a by omega])
      omega
    · have := hinj (a - (more.length + 1)) (c - (more.length + 1)) x (by omega) (by omega) (by rwa [show more.length + 1 + (a - (more.length + 1)) = a by omega]) (by rwa [show more.length + 1 + (c - (more.length + 1)) = c by omega])
      omega
  · rcases Nat.lt_or_ge j (more.length + 1) with k | k
    · cases j with
      | zero =>
        simp only [List.cons_append, List.getElem?_cons_zero, Option.some.injEq] at hj
        subst hj
        show ObRel _ _ (φ' 0)
        rw [hφ 0 k, hg]
        obtain ⟨us, q0, q1, q2, q3⟩ := hat
        refine ⟨us, q0, ?_, fun p v hp => ?_⟩
        · have := (Array.getElem?_eq_some_iff.1 q3).1
          simp [curOb]; omega
        · simp only [curOb] at hp
          match p, hp with
          | 0, hp => simp at hp; subst hp; exact ⟨u, q1, hu, by simp [AV.rel, RV.rel]⟩
          | 1, hp => simp at hp; subst hp; exact ⟨_, q2, rfl, by simp [AV.rel, RV.rel]⟩
          | 2, hp => simp at hp; subst hp; exact ⟨_, q3, rfl, by simp [AV.rel, RV.rel]⟩
          | p + 3, hp => simp at hp
      | succ j =>
        have hj' : more[j]? = some o := by
          simp only [List.cons_append, List.getElem?_cons_succ] at hj
          rwa [List.getElem?_append_left (by omega)] at hj
        have h0 := hG.ob (j + 1) o (by simpa using hj')
        show ObRel _ _ (φ' (j + 1))
        rw [hφ (j + 1) k]
        simp only at h0
        cases hx : φ (j + 1) with
        | none => rw [hx] at h0; exact h0
        | some x =>
          rw [hx] at h0
          obtain ⟨us, q1, q2, q3⟩ := h0
          refine ⟨us, (hb.block x (hlt _ x k hx) (hne _ x (by omega) k hx)).trans q1, q2, fun p v hp => ?_⟩
          obtain ⟨y, e1, e2, e3⟩ := q3 p v hp
          exact ⟨y, e1, e2, key v y (clns_at (clnO_at hcl j o hj') p v hp) e3⟩
    · have hj' : new[j - (more.length + 1)]? = some o := by
        rw [List.getElem?_append_right (by simpa using k)] at hj
        simpa using hj
      have := hob _ o hj'
      rwa [show more.length + 1 + (j - (more.length + 1)) = j by omega] at this
  · simp only [List.length_append, List.length_cons] at hj
    rcases Nat.lt_or_ge j (more.length + 1) with k | k
    · exact hG.mine j x (by simpa using k) ((hφ j k).symm.trans hx)
    · have := hn (j - (more.length + 1)) (by omega) x (by rwa [show more.length + 1 + (j - (more.length + 1)) = j by omega])
      exact .inr (Nat.le_trans hG.frm.size this)
  · have hgm := hG.mine 0 g (by simp) hg
    refine (hb.block x (Nat.lt_of_lt_of_le hx hG.frm.size) fun e => ?_).trans (hG.frm.block x hx hm)
    subst e
    rcases hgm with k | k
    · exact hm k
    · omega
mutual
def flatR : RR → Bool
  | .ro r => flat r
  | .row _ _ cs => cs.all flat
  | .agg rs => flatRs rs
  | .tup rs => flatRs rs
def flatRs : List RR → Bool
  | [] => true
  | x :: xs => flatR x && flatRs xs
end
section
variable {w : World} {ok ok' : Nat → Prop}
theorem flat_rels : ∀ (rs : List RV) (us : List Value), rs.all flat = true → RV.rels w ok rs us → RV.rels w ok' rs us
  | [], us, _, h => by simpa [RV.rels] using h
  | r :: rs, us, hf, h => by
    rw [List.all_cons, Bool.and_eq_true] at hf
    simp only [RV.rels] at h ⊢
    obtain ⟨u, us', e, h1, h2⟩ := h
    refine ⟨u, us', e, ?_, flat_rels rs us' hf.2 h2⟩
    cases r <;> simp [flat] at hf
    simpa only [RV.rel] using h1
mutual
theorem flatR_rel : ∀ (rr : RR) (u : Value) (bs : List Nat), flatR rr = true → rr.rel w ok u bs → rr.rel w ok' u bs
  | .ro r, u, bs, hf, h => by
    simp only [RR.rel] at h ⊢
    refine ⟨?_, h.2⟩
    cases r <;> simp [flatR, flat] at hf
    simpa only [RV.rel] using h.1
  | .row e sz cs, u, bs, hf, h => by
    simp only [RR.rel] at h ⊢
    obtain ⟨n, xs, h1, h2, h3, h4⟩ := h
    exact ⟨n, xs, h1, h2, flat_rels _ _ (by simpa only [flatR] using hf) h3, h4⟩
  | .agg rs, u, bs, hf, h => by
    simp only [RR.rel] at h ⊢
    obtain ⟨us, e, h⟩ := h
    exact ⟨us, e, flatRs_rel rs _ _ (by simpa only [flatR] using hf) h⟩
  | .tup rs, u, bs, hf, h => by
    simp only [RR.rel] at h ⊢
    obtain ⟨us, e, h⟩ := h
    exact ⟨us, e, flatRs_rel rs _ _ (by simpa only [flatR] using hf) h⟩
theorem flatRs_rel : ∀ (rs : List RR) (us : List Value) (bs : List Nat), flatRs rs = true → RR.rels w ok rs us bs → RR.rels w ok' rs us bs
  | [], us, bs, _, h => by simpa [RR.rels] using h
  | x :: xs, us, bs, hf, h => by
    simp only [flatRs, Bool.and_eq_true] at hf
    simp only [RR.rels] at h ⊢
    obtain ⟨u, us', b, bs', e1, e2, h1, h2⟩ := h
    exact ⟨u, us', b, bs', e1, e2, flatR_rel x u b hf.1 h1, flatRs_rel xs us' bs' hf.2 h2⟩
end
end
def LendsP (C : Ctx) (σ : List Ob) (v : AV) (r : RV) : Prop := ∀ (m : Mem) (u : Value) (ok' : Nat → Prop), Good C m → m.σ = σ → (∀ b, m.ok b → ok' b) → (∀ (i g : Nat), 0 < i → i < σ.length → m.φ i = some g → ok' g) → AV.rel m v u → RV.rel m.w ok' r u
inductive LendsPL (C : Ctx) (σ : List Ob) : List AV → List RV → Prop
  | nil : LendsPL C σ [] []
  | cons {v : AV} {r : RV} {vs : List AV} {rs : List RV} : LendsP C σ v r → LendsPL C σ vs rs → LendsPL C σ (v :: vs) (r :: rs)
section
variable {C : Ctx} {σ : List Ob}
theorem LendsP.ro {r : RV} : LendsP C σ (.ro r) r := fun m u _ _ _ h1 _ hu => RV.rel_mono ⟨Nat.le_refl _, fun b _ hb => ⟨h1 b hb, rfl⟩⟩ r u (by simpa only [AV.rel] using hu)
theorem LendsP.nil (sz : Nat) : LendsP C σ (.ro .nil) (.seq sz []) := fun m u ok' _ _ h1 _ hu => RV.rel_mono ⟨Nat.le_refl _, fun b _ hb => ⟨h1 b hb, rfl⟩⟩ _ u (Fits.nil sz m u hu)
theorem LendsPL.rels {m : Mem} {ok' : Nat → Prop} (hG : Good C m) (hσ : m.σ = σ) (k1 : ∀ b, m.ok b → ok' b) (k2 : ∀ (i g : Nat), 0 < i → i < σ.length → m.φ i = some g → ok' g) {vs : List AV} {rs : List RV} (h : LendsPL C σ vs rs) : ∀ us, AV.rels m vs us → RV.rels m.w ok' rs us := by
  induction h with
  | nil => intro us hu; simpa [AV.rels, RV.rels] using hu
  | cons h1 _ ih =>
    intro us hu
    simp only [AV.rels] at hu
    obtain ⟨u, us', rfl, k3, k4⟩ := hu
    simp only [RV.rels]
    exact ⟨u, us', rfl, h1 m u ok' hG hσ k1 k2 k3, ih us' k4⟩
theorem LendsP.agg {vs : List AV} {rs : List RV} (h : LendsPL C σ vs rs) : LendsP C σ (.agg vs) (.agg rs) := fun m u ok' hG hσ k1 k2 hu => by
  simp only [AV.rel, RV.rel] at hu ⊢
  obtain ⟨us, e, hr⟩ := hu
  exact ⟨us, e, h.rels hG hσ k1 k2 _ hr⟩
theorem LendsPL.ros : ∀ rs : List RV, LendsPL C σ (rs.map .ro) rs
  | [] => .nil
  | _ :: rs => .cons .ro (LendsPL.ros rs)
theorem LendsP.own {i : Nat} {o : Ob} {els : List (List RV)} (hi : 0 < i) (ho : σ[i]? = some o) (h : o.cs = els.flatten.map .ro) (hl : ∀ x ∈ els, x.length = o.sz) : LendsP C σ (.own i) (.seq o.sz els) := fun m u ok' hG hσ k1 k2 hu => by
  have hrow := row_own (cs := els.flatten) (e := o.t) (sz := o.sz) hG (by rw [hσ, ho]; cases o; simp_all) hu
  obtain ⟨n, xs, h1, h2, h3, h4, h5, h6⟩ := hrow
  refine seals_rel (ok := m.ok) k1 (.row o.t o.sz els.flatten) (.seq o.sz els) u u.ownBlock.toList (by simp only [Seals]; exact ⟨els, rfl, rfl, hl⟩) (by simp only [RR.rel]; exact ⟨n, xs, h1, h2, h3, h4, h5, trivial⟩) fun b hb => ?_
  rw [h6] at hb
  exact k2 i b hi (List.getElem?_eq_some_iff.1 ho).1 (by simpa [Option.mem_toList] using hb)
end
def EndsD (P : Program) (C : Ctx) (fn : Func) (ct : TypeId) (b : List UInt8) (g : Nat) (u : Value) (Q : RR → Prop) (a : Act) (w : World) : Prop :=
  a.defers = [] ∧ ∃ v, (results fn a.tmps).run P w = .ok v w ∧ ∃ rr bs i' h', Q rr ∧ RR.rel w (fun x => (C.ok x ∧ x ≠ g) ∧ x ∉ bs) rr v bs ∧ bs.Nodup ∧ (∀ x ∈ bs, C.w0.heap.size ≤ x ∧ x < w.heap.size) ∧ CurOk b i' ∧ CurAt ct w g u i' h' ∧ Bx g C.w0 w
theorem drw_enter {P : Program} {ct : TypeId} {f : FuncId} {fn : Func} {c : Code} {b : List UInt8} {args : List RV} {Q : RR → Prop} (hf : P.funcs[f]? = some fn) (hb : fn.body = some c) (n : Nat) (hn : fn.ntmps = n) (hl : args.length + 1 ≤ n)
    (h : ∀ (C : Ctx) (g : Nat) (u : Value) (i hh : Int), C.n = n → (∀ x, C.mu x → x = g) → HU C b u → CurOk b i → Runs P C [.code c] (EndsD P C fn ct b g u Q) ⟨(0, .pin 0 0 g) :: startEnv 1 args, [curOb ct u i hh]⟩) : Drw P ct f b args Q := by
  intro w ok g u i hh us h0 hat hu hi hus
  have hlen := RV.rels_len args _ hus
  have hu1 : u.oneCell' = true := RV.rel_one (bytesR b) u rfl hu
  obtain ⟨cs, a0, a1, a2, a3⟩ := hat
  have hgl : g < w.heap.size := (Array.getElem?_eq_some_iff.1 a0).1
  refine calls_of_fin hf hb ?_
  have hs : Sim ⟨w, ok, fun x => x = g, n⟩ ⟨(0, .pin 0 0 g) :: startEnv 1 args, [curOb ct u i hh]⟩ { tmps := (.pointer (some ⟨g, 0, none⟩) :: us).toArray ++ Array.replicate (fn.ntmps - (.pointer (some ⟨g, 0, none⟩) :: us).toArray.size) undef, defers := [] } w := by
    refine ⟨rfl, by simp; omega, fun j => if j = 0 then some g else none, ⟨rfl, fun p q x hp hq _ _ => by simp at hp hq; omega, fun p o hp => ?_, fun p x hp hx => ?_, ⟨rfl, rfl, rfl, Nat.le_refl _, fun _ _ _ => rfl, h0⟩⟩, fun t => ?_⟩
    · cases p with
      | succ p => simp at hp
      | zero =>
        simp at hp; subst hp
        simp only [if_true]
        refine ⟨cs, a0, ?_, fun p v hp => ?_⟩
        · have := (Array.getElem?_eq_some_iff.1 a3).1
          simp [curOb]; omega
        · simp only [curOb] at hp
          match p, hp with
          | 0, hp => simp at hp; subst hp; exact ⟨u, a1, hu1, by simp [AV.rel, RV.rel]⟩
          | 1, hp => simp at hp; subst hp; exact ⟨_, a2, rfl, by simp [AV.rel, RV.rel]⟩
          | 2, hp => simp at hp; subst hp; exact ⟨_, a3, rfl, by simp [AV.rel, RV.rel]⟩
          | p + 3, hp => simp at hp
    · simp at hp; subst hp; simp at hx; exact .inl hx.symm
    · rw [look_put]
      split
      · rename_i e; subst e
        simp only [AV.rel]
        refine ⟨by simp, rfl, ?_⟩
        rw [Array.getD_eq_getD_getElem?, Array.getElem?_append_left (by simp)]
        simp
      · rename_i e
        rw [start_look]
        by_cases h1 : 1 ≤ t
        · rw [if_pos h1]
          cases hr : args[t - 1]? with
          | none => simp [AV.rel]
          | some r =>
            obtain ⟨x, e1, e2⟩ := RV.rels_at args _ hus (t - 1) r hr
            have ht : t - 1 < us.length := (List.getElem?_eq_some_iff.1 e1).1
            simp only [AV.rel]
            have : ((.pointer (some ⟨g, 0, none⟩) :: us).toArray ++ Array.replicate (fn.ntmps - (.pointer (some ⟨g, 0, none⟩) :: us).toArray.size) undef).getD t undef = x := by
              rw [Array.getD_eq_getD_getElem?, Array.getElem?_append_left (by simp; omega)]
              obtain ⟨t', rfl⟩ : ∃ t', t = t' + 1 := ⟨t - 1, by omega⟩
              simp at e1 ⊢
              simp [e1]
            rw [this]
            refine RV.rel_mono ⟨Nat.le_refl _, fun x _ hx => ⟨⟨hx.1, fun j hj he => ?_⟩, rfl⟩⟩ r x e2
            simp at hj; subst hj
            simp at he; exact hx.2 he.symm
        · omega
  have hr := (h ⟨w, ok, fun x => x = g, n⟩ g u i hh rfl (fun _ h => h) (RV.rel_mono ⟨Nat.le_refl _, fun x _ hx => ⟨hx, rfl⟩⟩ _ _ hu) hi).run _ w hs
  intro bb cc
  obtain ⟨a', w', todo, ⟨hd, v, hv, rr, bs, i', h', q1, q2, q3, q4, q5, q6, q7⟩, hst⟩ := hr bb cc
  exact ⟨a', w', todo, ⟨hd, v, hv, v, rr, bs, i', h', rfl, q1, q2, q3, q4, q5, q6, q7⟩, hst⟩
theorem Frm.bx {C : Ctx} {w : World} {g : Nat} (h : Frm C w) (hm : ∀ x, C.mu x → x = g) : Bx g C.w0 w := ⟨h.os, h.tape, h.output, h.size, fun x hx hn => h.block x hx fun k => hn (hm x k)⟩
section
variable {P : Program} {C : Ctx} {fn : Func} {ct : TypeId} {b : List UInt8} {g : Nat} {u : Value} {Q : RR → Prop} {S : St} {i h : Int} {more : List Ob}
theorem cur_at {m : Mem} (hG : Good C m) (hσ : m.σ = curOb ct u i h :: more) (hg : m.φ 0 = some g) : CurAt ct m.w g u i h := by
  have h0 := hG.ob 0 (curOb ct u i h) (by rw [hσ]; rfl)
  rw [hg] at h0
  obtain ⟨us, q1, q2, q3⟩ := h0
  obtain ⟨x0, e0, _, r0⟩ := q3 0 (.ro (.c u)) rfl
  obtain ⟨x1, e1, _, r1⟩ := q3 1 (.int i) rfl
  obtain ⟨x2, e2, _, r2⟩ := q3 2 (.int h) rfl
  simp only [AV.rel, RV.rel] at r0 r1 r2
  subst r0; subst r1; subst r2
  exact ⟨us, q1, e0, e1, e2⟩
theorem endsD_of (hm : ∀ x, C.mu x → x = g) {a : Act} {w : World} {φ : Nat → Option Nat} (hd : a.defers = []) (hG : Good C ⟨w, φ, S.σ, C.ok⟩) (hσ : S.σ = curOb ct u i h :: more) (hg : φ 0 = some g) (hi : CurOk b i) {v : AV} {x : Value} (hx : (results fn a.tmps).run P w = .ok x w) (hv : AV.rel ⟨w, φ, S.σ, C.ok⟩ v x)
    (rr : RR) (is : List Nat) (hh : Harv S.σ rr v is) (hn : is.Nodup) (h0 : 0 ∉ is) (hQ : Q rr) : EndsD P C fn ct b g u Q a w := by
  have hne : ∀ y ∈ blocks φ is, y ≠ g := fun y hy e => by
    obtain ⟨j, hj, e'⟩ := mem_blocks.1 hy
    have hjl := harv_lt _ _ _ _ hh j hj
    have := hG.inj j 0 g hjl (by simp only [hσ, List.length_cons]; omega) (e ▸ e') hg
    exact h0 (this ▸ hj)
  refine ⟨hd, x, hx, rr, blocks φ is, i, h, hQ, ?_, blocks_nodup hG is hn (harv_lt _ _ _ _ hh), fun y hy => ?_, hi, cur_at hG hσ hg, hG.frm.bx hm⟩
  · have := harv_rel hG rr _ _ is hh hv
    refine RR.rel_mono (fun y hy => ⟨⟨hy.1, fun e => hy.2 0 (by simp only [hσ, List.length_cons]; omega) (e ▸ hg)⟩, fun hmm => ?_⟩) _ _ _ this
    obtain ⟨j, hj, e⟩ := mem_blocks.1 hmm
    exact hy.2 j (harv_lt _ _ _ _ hh j hj) e
  · obtain ⟨j, hj, e⟩ := mem_blocks.1 hy
    have hjl := harv_lt _ _ _ _ hh j hj
    refine ⟨?_, hG.lt hjl e⟩
    rcases hG.mine j y hjl e with k | k
    · exact absurd (hm y k) (hne y hy)
    · exact k
theorem pin_at {t : Nat} {φ : Nat → Option Nat} {w : World} {a : Act} (hH : Holds ⟨w, φ, S.σ, C.ok⟩ S.env a) (ht : look S.env t = .pin 0 0 g) : φ 0 = some g := by
  have := hH t
  rw [ht] at this
  simp only [AV.rel] at this
  exact this.2.1
theorem endsD1 {x : ResultVar} (hm : ∀ x, C.mu x → x = g) (hr : fn.results = #[x]) (hσ : S.σ = curOb ct u i h :: more) (ht : look S.env 0 = .pin 0 0 g) (hi : CurOk b i) (v : AV) (hx : ResV P S x v) (rr : RR) (is : List Nat) (hh : Harv S.σ rr v is) (hn : is.Nodup) (h0 : 0 ∉ is) (hQ : Q rr) :
    ∀ a w, Sim C S a w → EndsD P C fn ct b g u Q a w := by
  intro a w ⟨h1, h2, φ, hG, hH⟩
  obtain ⟨y, k1, k2⟩ := resV_run (P := P) hG hH x v hx
  exact endsD_of hm h1 hG hσ (pin_at hH ht) hi (by rw [results_eq, hr]; simp [k1]) k2 rr is hh hn h0 hQ
theorem endsD_ro {t : Nat} {r : RV} (hm : ∀ x, C.mu x → x = g) (hr : fn.results = #[.tmp t]) (hσ : S.σ = curOb ct u i h :: more) (ht : look S.env 0 = .pin 0 0 g) (hi : CurOk b i) (hx : look S.env t = .ro r) (hQ : Q (.ro r)) : ∀ a w, Sim C S a w → EndsD P C fn ct b g u Q a w :=
  endsD1 hm hr hσ ht hi _ rfl (.ro r) [] (by simp only [Harv]; exact ⟨hx, trivial⟩) List.nodup_nil (by simp) hQ
theorem endsD_own {t j sz : Nat} {e : TypeId} {rs : List RV} (hm : ∀ x, C.mu x → x = g) (hr : fn.results = #[.tmp t]) (hσ : S.σ = curOb ct u i h :: more) (ht : look S.env 0 = .pin 0 0 g) (hi : CurOk b i) (hx : look S.env t = .own j) (hj : 0 < j) (ho : S.σ[j]? = some ⟨e, sz, rs.map .ro⟩) (hQ : Q (.row e sz rs)) : ∀ a w, Sim C S a w → EndsD P C fn ct b g u Q a w :=
  endsD1 hm hr hσ ht hi _ rfl (.row e sz rs) [j] (by simp only [Harv]; exact ⟨j, hx, ho, rfl⟩) (by simp) (by simp; omega) hQ
end
section
variable {P : Program} {C : Ctx} {ops : Array Oper} {rest : List Oper} {k : List Item} {R : Act → World → Prop} {env : Env} {σ : List Ob} {t : Nat} {ty : TypeId} {pos : String} {after : Array Edge} {ct : TypeId} {b : List UInt8} {u : Value} {i h : Int} {more : List Ob}
structure Drawn (C : Ctx) (ct : TypeId) (b : List UInt8) (u : Value) (m : Mem) (rr : RR) (v : Value) (w' : World) (i' h' : Int) (bs : List Nat) (g : Nat) : Prop where
  g0 : m.φ 0 = some g
  res : RR.rel w' (fun x => (C.ok x ∧ ∀ j, j < m.σ.length → m.φ j ≠ some x) ∧ x ∉ bs) rr v bs
  nodup : bs.Nodup
  fresh : ∀ x ∈ bs, m.w.heap.size ≤ x ∧ x < w'.heap.size
  ok : CurOk b i'
  at_ : CurAt ct w' g u i' h'
  bx : Bx g m.w w'
theorem cur_block {m : Mem} (hG : Good C m) (hσ : m.σ = curOb ct u i h :: more) : ∃ g, m.φ 0 = some g := by
  have h0 := hG.ob 0 (curOb ct u i h) (by rw [hσ]; rfl)
  cases hg : m.φ 0 with
  | none => rw [hg] at h0; simp [ObRel, curOb] at h0
  | some g => exact ⟨g, rfl⟩
theorem draw_wpF {f : FuncId} {fn : Func} {x0 : Operand} {xs : List Operand} {ats : Array TypeId} {args : List RV} {Q : RR → Prop} {d : Option Nat} {gd : Option (Nat × Bool)} [hfn : FN P f fn] (hf : Drw P ct f b args Q) (hq : ∀ rr, Q rr → flatR rr = true) (hc : unpin (ev env x0) = .obj 0 0) (hu : HU C b u) (hi : CurOk b i)
    {m : Mem} {a : Act} (hG : Good C m) (hσ : m.σ = curOb ct u i h :: more) (ha : LendsPL C m.σ (xs.map (ev env)) args) (hH : ∀ x ∈ x0 :: xs, AV.rel m (ev env x) (a.eval x)) {K : Act → World → Prop} {Q' : Exit → Act → World → Prop}
    (hK : ∀ rr v w' i' h' bs g, Q rr → Drawn C ct b u m rr v w' i' h' bs g → K (a.put d v) w') : (⟨d, .call { callee := .value (.func f), args := (x0 :: xs).toArray, argTypes := ats }, ty, pos, after, gd⟩ : Oper).wp P a m.w K Q' := by
  obtain ⟨g, hg⟩ := cur_block hG hσ
  have hp := unpin_rel (hH x0 (by simp))
  rw [hc] at hp
  simp only [AV.rel] at hp
  obtain ⟨_, g', hg', ep⟩ := hp
  rw [hg] at hg'; injection hg' with hg'; subst hg'
  have hne : ∀ j z, 0 < j → j < m.σ.length → m.φ j = some z → z ≠ g := fun j z h0 hj hz e => by
    have := hG.inj j 0 g hj (by simp only [hσ, List.length_cons]; omega) (e ▸ hz) hg
    omega
  have hokm : ∀ j z, 0 < j → j < m.σ.length → m.φ j = some z → (m.w.heap.size ≤ z ∨ C.ok z ∨ C.mu z) := fun j z _ hj hz => by
    rcases hG.mine j z hj hz with q | q
    · exact .inr (.inr q)
    · exact .inr (.inl (hG.frm.new z q))
  have hr := ha.rels (ok' := fun z => (C.ok z ∨ ∃ j, 0 < j ∧ j < m.σ.length ∧ m.φ j = some z) ∧ z ≠ g) hG rfl (fun z hz => ⟨.inl (by rw [← hG.ok0]; exact hz.1), fun e => hz.2 0 (by simp only [hσ, List.length_cons]; omega) (e ▸ hg)⟩) (fun j z h0 hj hz => ⟨.inr ⟨j, h0, hj, hz⟩, hne j z h0 hj hz⟩) _ (rels_eval (a := a) (m := m) xs fun x hx => hH x (by simp [hx]))
  unfold Oper.wp
  rw [execOp_call_go, run_call hfn]
  simp only [Oper.upon]
  have e0 : ((x0 :: xs).toArray.map a.eval) = (.pointer (some ⟨g, 0, none⟩) :: xs.map a.eval).toArray := by simp [ep]
  rw [e0]
  simp only [Array.empty_append, Array.append_empty]
  refine (hf m.w (fun z => C.ok z ∨ ∃ j, 0 < j ∧ j < m.σ.length ∧ m.φ j = some z) g u i h _ (fun z hz => .inl (hG.frm.new z (Nat.le_trans hG.frm.size hz))) (cur_at hG hσ hg) (RV.rel_mono ⟨Nat.le_refl _, fun z _ hz => ⟨⟨.inl hz.1, fun e => hz.2 0 (by simp only [hσ, List.length_cons]; omega) (e ▸ hg)⟩, rfl⟩⟩ _ _ (hu.now hG)) hi hr).mono ?_
  rintro e w' ⟨v, rr, bs, i', h', rfl, hQ, q1, q2, q3, q4, q5, q6⟩
  exact hK rr v w' i' h' bs g hQ ⟨hg, flatR_rel rr v bs (hq rr hQ) q1, q2, q3, q4, q5, q6⟩
theorem draw_wpN {f : FuncId} {fn : Func} {x0 : Operand} {xs : List Operand} {ats : Array TypeId} {args : List RV} {Q : RR → Prop} {d : Option Nat} {gd : Option (Nat × Bool)} [hfn : FN P f fn] (hf : Drw P ct f b args Q) (hc : unpin (ev env x0) = .obj 0 0) (hu : HU C b u) (hi : CurOk b i)
    {m : Mem} {a : Act} (hG : Good C m) (hσ : m.σ = curOb ct u i h :: more) (ha : FitsL (xs.map (ev env)) args) (hH : ∀ x ∈ x0 :: xs, AV.rel m (ev env x) (a.eval x)) {K : Act → World → Prop} {Q' : Exit → Act → World → Prop}
    (hK : ∀ rr v w' i' h' bs g, Q rr → Drawn C ct b u m rr v w' i' h' bs g → K (a.put d v) w') : (⟨d, .call { callee := .value (.func f), args := (x0 :: xs).toArray, argTypes := ats }, ty, pos, after, gd⟩ : Oper).wp P a m.w K Q' := by
  obtain ⟨g, hg⟩ := cur_block hG hσ
  have hp := unpin_rel (hH x0 (by simp))
  rw [hc] at hp
  simp only [AV.rel] at hp
  obtain ⟨_, g', hg', ep⟩ := hp
  rw [hg] at hg'; injection hg' with hg'; subst hg'
  have hl0 : 0 < m.σ.length := by simp only [hσ, List.length_cons]; omega
  have hr := ha.rels (m := m) _ (rels_eval (a := a) (m := m) xs fun x hx => hH x (by simp [hx]))
  unfold Oper.wp
  rw [execOp_call_go, run_call hfn]
  simp only [Oper.upon]
  have e0 : ((x0 :: xs).toArray.map a.eval) = (.pointer (some ⟨g, 0, none⟩) :: xs.map a.eval).toArray := by simp [ep]
  rw [e0]
  simp only [Array.empty_append, Array.append_empty]
  refine (hf m.w (fun z => C.ok z ∧ ∀ j, 0 < j → j < m.σ.length → m.φ j ≠ some z) g u i h _ (fun z hz => ⟨hG.frm.new z (Nat.le_trans hG.frm.size hz), fun j _ hj e => by have := hG.lt hj e; omega⟩) (cur_at hG hσ hg) (RV.rel_mono ⟨Nat.le_refl _, fun z _ hz => ⟨⟨⟨hz.1, fun j _ hj => hz.2 j hj⟩, fun e => hz.2 0 hl0 (e ▸ hg)⟩, rfl⟩⟩ _ _ (hu.now hG)) hi
    (RV.rels_mono ⟨Nat.le_refl _, fun z _ hz => ⟨⟨⟨by rw [← hG.ok0]; exact hz.1, fun j _ hj => hz.2 j hj⟩, fun e => hz.2 0 hl0 (e ▸ hg)⟩, rfl⟩⟩ _ _ hr)).mono ?_
  rintro e w' ⟨v, rr, bs, i', h', rfl, hQ, q1, q2, q3, q4, q5, q6⟩
  refine hK rr v w' i' h' bs g hQ ⟨hg, RR.rel_mono (fun z hz => ⟨⟨hz.1.1.1, fun j hj e => ?_⟩, hz.2⟩) _ _ _ q1, q2, q3, q4, q5, q6⟩
  by_cases h0 : j = 0
  · subst h0; rw [hg] at e; injection e with e; exact hz.1.2 e.symm
  · exact hz.1.1.2 j (by omega) hj e
theorem Drawn.simS {m : Mem} {rr : RR} {r : RV} {v : Value} {w' : World} {i' h' : Int} {bs : List Nat} {g : Nat} (hD : Drawn C ct b u m rr v w' i' h' bs g) (hG : Good C m) (hσ : m.σ = curOb ct u i h :: more) (hu : u.oneCell' = true) (hcl : clnO more = true) (hs : Seals rr r) :
    Good C ⟨w', m.φ, curOb ct u i' h' :: more, C.ok⟩ ∧ (∀ y x, cln y = true → AV.rel m y x → AV.rel ⟨w', m.φ, curOb ct u i' h' :: more, C.ok⟩ y x) ∧ AV.rel ⟨w', m.φ, curOb ct u i' h' :: more, C.ok⟩ (.ro r) v := by
  obtain ⟨w, φ, s, ok0⟩ := m
  have h0 := hG.ok0
  simp only at h0 hσ
  subst h0; subst hσ
  obtain ⟨g1, g2⟩ := draw_good (new := []) (φ' := φ) hG hD.g0 hu hD.at_ hD.bx hcl (fun _ _ => rfl) (fun j hj => by simp at hj) (fun a c x ha => by simp at ha) (fun j o hj => by simp at hj)
  simp only [List.append_nil] at g1 g2
  refine ⟨g1, g2, ?_⟩
  simp only [AV.rel]
  refine seals_rel (ok := fun x => (C.ok x ∧ ∀ j, j < (curOb ct u i h :: more).length → φ j ≠ some x) ∧ x ∉ bs) (fun x hx => ⟨hx.1.1, fun j hj => hx.1.2 j (by simpa using hj)⟩) rr r v bs hs hD.res fun x hx => ⟨hG.frm.new x (Nat.le_trans hG.frm.size (hD.fresh x hx).1), fun j hj e => ?_⟩
  have := hG.lt (by simpa using hj) e
  have := (hD.fresh x hx).1
  simp only at *
  omega
theorem Drawn.simO {m : Mem} {rr : RR} {v : Value} {w' : World} {i' h' : Int} {bs : List Nat} {g : Nat} (hD : Drawn C ct b u m rr v w' i' h' bs g) (hG : Good C m) (hσ : m.σ = curOb ct u i h :: more) (hu : u.oneCell' = true) (hcl : clnO more = true) :
    ∃ φ', Good C ⟨w', φ', (curOb ct u i' h' :: more) ++ obs rr, C.ok⟩ ∧ (∀ y x, cln y = true → AV.rel m y x → AV.rel ⟨w', φ', (curOb ct u i' h' :: more) ++ obs rr, C.ok⟩ y x) ∧ AV.rel ⟨w', φ', (curOb ct u i' h' :: more) ++ obs rr, C.ok⟩ (instA (more.length + 1) rr) v := by
  obtain ⟨w, φ, s, ok0⟩ := m
  have h0 := hG.ok0
  simp only at h0 hσ
  subst h0; subst hσ
  obtain ⟨ps, p1, p2, p3⟩ := inst_rel rr v bs hD.res
  subst p2
  let φ' : Nat → Option Nat := fun i => if i < more.length + 1 then φ i else (ps[i - (more.length + 1)]?).getD none
  have e1 : ∀ i, i < more.length + 1 → φ' i = φ i := fun i hi => if_pos hi
  have e2 : ∀ j, φ' (more.length + 1 + j) = (ps[j]?).getD none := fun j => by show (if more.length + 1 + j < more.length + 1 then _ else _) = _; rw [if_neg (by omega)]; simp
  have e3 : ∀ (j g : Nat), φ' (more.length + 1 + j) = some g → ps[j]? = some (some g) := fun j g hg => by
    rw [e2] at hg
    cases hp : ps[j]? with
    | none => simp [hp] at hg
    | some p => simp [hp] at hg; rw [hg]
  have hnew : ∀ (j g : Nat), φ' (more.length + 1 + j) = some g → g ∈ ps.flatMap Option.toList := fun j g hg => List.mem_flatMap.2 ⟨some g, List.mem_of_getElem? (e3 j g hg), by simp⟩
  have hLie : Lies ⟨w', φ', (curOb ct u i' h' :: more) ++ obs rr, C.ok⟩ (more.length + 1) ps (obs rr) := ⟨fun j p hj => by show φ' (more.length + 1 + j) = p; rw [e2, hj]; rfl, fun j o hj => by show ((curOb ct u i' h' :: more) ++ obs rr)[more.length + 1 + j]? = _; rw [List.getElem?_append_right (by simp), show more.length + 1 + j - (curOb ct u i' h' :: more).length = j by simp]; exact hj⟩
  have hok : ∀ x, ((C.ok x ∧ ∀ j, j < (curOb ct u i h :: more).length → φ j ≠ some x) ∧ x ∉ ps.flatMap Option.toList) → AV.Mem.ok ⟨w', φ', (curOb ct u i' h' :: more) ++ obs rr, C.ok⟩ x := fun x hx => ⟨hx.1.1, fun j hj he => by
    simp only at he
    rcases Nat.lt_or_ge j (more.length + 1) with hlt | hge
    · exact hx.1.2 j (by simpa using hlt) ((e1 j hlt).symm.trans he)
    · exact hx.2 (hnew (j - (more.length + 1)) x (by rwa [show more.length + 1 + (j - (more.length + 1)) = j by omega]))⟩
  obtain ⟨q1, q2⟩ := p3 ⟨w', φ', (curOb ct u i' h' :: more) ++ obs rr, C.ok⟩ (more.length + 1) rfl hok hLie
  obtain ⟨g1, g2⟩ := draw_good (new := obs rr) (φ' := φ') hG hD.g0 hu hD.at_ hD.bx hcl e1 (fun j hj x hx => (hD.fresh x (hnew j x hx)).1) (fun a c x ha hc ea ec => flat_nodup_inj hD.nodup a c x (e3 a x ea) (e3 c x ec)) q2
  exact ⟨φ', g1, g2, q1⟩
theorem HU.one (hu : HU C b u) : u.oneCell' = true := RV.rel_one (bytesR b) u rfl hu
theorem sim_put {S S' : St} {φ : Nat → Option Nat} {w w' : World} {a : Act} {t : Nat} {y : AV} {v : Value} {φ' : Nat → Option Nat} (s1 : a.defers = []) (s2 : a.tmps.size = C.n) (hH : Holds ⟨w, φ, S.σ, C.ok⟩ S.env a) (hG' : Good C ⟨w', φ', S'.σ, C.ok⟩) (he : S'.env = (t, y) :: S.env) (hcl : clnE S.env = true)
    (hk : ∀ y x, cln y = true → AV.rel ⟨w, φ, S.σ, C.ok⟩ y x → AV.rel ⟨w', φ', S'.σ, C.ok⟩ y x) (ht : t < C.n) (hv : AV.rel ⟨w', φ', S'.σ, C.ok⟩ y v) : Sim C S' (a.put (some t) v) w' :=
  ⟨s1, by simp [Act.put, s2], φ', hG', by rw [he]; exact Holds.put (fun s => hk _ _ (clnE.look hcl s) (hH s)) (by rw [s2]; exact ht) hv⟩
theorem op_drawF {f : FuncId} {fn : Func} {x0 : Operand} {xs : List Operand} {ats : Array TypeId} {args : List RV} {Q : RR → Prop} {Q' : RV → Prop} [hfn : FN P f fn] (hf : Drw P ct f b args Q) (hq : ∀ rr, Q rr → flatR rr = true ∧ ∃ r, Seals rr r ∧ Q' r) (hc : unpin (ev env x0) = .obj 0 0) (hu : HU C b u) (hi : CurOk b i) (hσ : σ = curOb ct u i h :: more) (ha : LendsPL C σ (xs.map (ev env)) args)
    (hce : clnE env = true) (hcl : clnO more = true) (ht : t < C.n) (hk : ∀ i' h' r, CurOk b i' → Q' r → RunsL P C ops rest k R ⟨(t, .ro r) :: env, curOb ct u i' h' :: more⟩) :
    RunsL P C ops (⟨some t, .call { callee := .value (.func f), args := (x0 :: xs).toArray, argTypes := ats }, ty, pos, after, none⟩ :: rest) k R ⟨env, σ⟩ := by
  refine ⟨fun a w ⟨s1, s2, φ, hG, hH⟩ => ?_⟩
  refine wpList_plain rfl fun K hK' => ?_
  refine draw_wpF hf (fun rr h => (hq rr h).1) hc hu hi (m := ⟨w, φ, σ, C.ok⟩) hG hσ ha (fun x _ => ev_rel hH x) fun rr v w' i' h' bs g hQ hD => ?_
  obtain ⟨_, r, hs, hr⟩ := hq rr hQ
  obtain ⟨g1, g2, g3⟩ := hD.simS hG hσ hu.one hcl hs
  exact hK' _ _ ((hk i' h' r hD.ok hr).run _ _ (sim_put (S := ⟨env, σ⟩) s1 s2 hH g1 rfl hce g2 ht g3))
theorem op_drawN {f : FuncId} {fn : Func} {x0 : Operand} {xs : List Operand} {ats : Array TypeId} {args : List RV} {Q : RR → Prop} {Q' : RV → Prop} [hfn : FN P f fn] (hf : Drw P ct f b args Q) (hq : ∀ rr, Q rr → ∃ r, Seals rr r ∧ Q' r) (hc : unpin (ev env x0) = .obj 0 0) (hu : HU C b u) (hi : CurOk b i) (hσ : σ = curOb ct u i h :: more) (ha : xs.map (ev env) = args.map .ro)
    (hce : clnE env = true) (hcl : clnO more = true) (ht : t < C.n) (hk : ∀ i' h' r, CurOk b i' → Q' r → RunsL P C ops rest k R ⟨(t, .ro r) :: env, curOb ct u i' h' :: more⟩) :
    RunsL P C ops (⟨some t, .call { callee := .value (.func f), args := (x0 :: xs).toArray, argTypes := ats }, ty, pos, after, none⟩ :: rest) k R ⟨env, σ⟩ := by
  refine ⟨fun a w ⟨s1, s2, φ, hG, hH⟩ => ?_⟩
  refine wpList_plain rfl fun K hK' => ?_
  refine draw_wpN hf hc hu hi (m := ⟨w, φ, σ, C.ok⟩) hG hσ (ha ▸ FitsL.ros args) (fun x _ => ev_rel hH x) fun rr v w' i' h' bs g hQ hD => ?_
  obtain ⟨r, hs, hr⟩ := hq rr hQ
  obtain ⟨g1, g2, g3⟩ := hD.simS hG hσ hu.one hcl hs
  exact hK' _ _ ((hk i' h' r hD.ok hr).run _ _ (sim_put (S := ⟨env, σ⟩) s1 s2 hH g1 rfl hce g2 ht g3))
theorem op_drawO {f : FuncId} {fn : Func} {x0 : Operand} {xs : List Operand} {ats : Array TypeId} {args : List RV} {Q : RR → Prop} [hfn : FN P f fn] (hf : Drw P ct f b args Q) (hc : unpin (ev env x0) = .obj 0 0) (hu : HU C b u) (hi : CurOk b i) (hσ : σ = curOb ct u i h :: more) (ha : xs.map (ev env) = args.map .ro)
    (hce : clnE env = true) (hcl : clnO more = true) (ht : t < C.n) (hk : ∀ i' h' rr, CurOk b i' → Q rr → RunsL P C ops rest k R ⟨(t, instA (more.length + 1) rr) :: env, (curOb ct u i' h' :: more) ++ obs rr⟩) :
    RunsL P C ops (⟨some t, .call { callee := .value (.func f), args := (x0 :: xs).toArray, argTypes := ats }, ty, pos, after, none⟩ :: rest) k R ⟨env, σ⟩ := by
  refine ⟨fun a w ⟨s1, s2, φ, hG, hH⟩ => ?_⟩
  refine wpList_plain rfl fun K hK' => ?_
  refine draw_wpN hf hc hu hi (m := ⟨w, φ, σ, C.ok⟩) hG hσ (ha ▸ FitsL.ros args) (fun x _ => ev_rel hH x) fun rr v w' i' h' bs g hQ hD => ?_
  obtain ⟨φ', g1, g2, g3⟩ := hD.simO hG hσ hu.one hcl
  exact hK' _ _ ((hk i' h' rr hD.ok hQ).run _ _ (sim_put (S := ⟨env, σ⟩) s1 s2 hH g1 rfl hce g2 ht g3))
end
end Go.Proofs.Ytnecoghfhcimeaa
/- Regions that draw their order, whose operations ahead of some place leave the world alone, and whose rest stands in the text's order: walked as the text says. Over any program. -/
namespace Go.Proofs.Ytnecoghfhcimeaa
set_option linter.unusedSimpArgs false
set_option linter.unusedVariables false
set_option linter.unusedSectionVars false
open Go.RowKit
open AV (Mem Keeps)
def Kp {α : Type} (s : Sem α) : Prop := ∀ (P : Program) (w : World) (x : α) (w' : World), s.run P w = .ok x w' → w' = w
theorem Kp.pure {α : Type} (a : α) : Kp (Pure.pure a : Sem α) := fun P w x w' h => by
  rw [Sem.run_pure] at h; injection h with _ h; exact h.symm
theorem Kp.bind {α β : Type} {s : Sem α} {f : α → Sem β} (h : Kp s) (hf : ∀ a, Kp (f a)) : Kp (s >>= f) := fun P w x w' e => by
  rw [Sem.run_bind] at e
  cases hs : s.run P w with
  | ok a w1 =>
    rw [hs] at e
    simp only [Result.andThen_ok] at e
    have h1 := h P w a w1 hs
    subst h1
    exact hf a P w1 x w' e
  | halt q w1 => rw [hs] at e; cases e
theorem Kp.stuck {α : Type} (s : String) : Kp (stuck s : Sem α) := fun P w x w' h => by cases h
theorem Kp.unsup {α : Type} (s : Unsupported) : Kp (unsupported s : Sem α) := fun P w x w' h => by cases h
theorem Kp.program : Kp program := fun P w x w' h => by rw [run_program] at h; injection h with _ h; exact h.symm
theorem Kp.load (a : Addr) (m : Mode) : Kp (load a m) := fun P w x w' h => by
  unfold Go.load Sem.run at h
  split at h
  · injection h with _ h; exact h.symm
  · split at h
    · injection h with _ h; exact h.symm
    · cases h
theorem Kp.typeInfo (t : TypeId) : Kp (typeInfo t) := Kp.bind Kp.program fun p => by
  split
  · exact Kp.pure _
  · exact Kp.stuck _
theorem Kp.underlying (t : TypeId) : Kp (underlying t) := Kp.bind Kp.program fun p => by
  split
  · exact Kp.pure _
  · exact Kp.stuck _
theorem Kp.sizeOf (t : TypeId) : Kp (sizeOf t) := Kp.bind (Kp.typeInfo t) fun _ => Kp.pure _
theorem Kp.isAgg (t : TypeId) : Kp (isAgg t) := Kp.bind (Kp.underlying t) fun _ => by
  split <;> exact Kp.pure _
theorem Kp.sureAddr (x : Value) : Kp (Instr.sureAddr x) := by
  unfold Instr.sureAddr
  split
  · exact Kp.pure _
  · exact Kp.stuck _
theorem Kp.loadCells (a : Addr) : ∀ (n i : Nat) (acc : Array Value), Kp (loadCellsFrom a i n acc)
  | 0, i, acc => Kp.pure _
  | n + 1, i, acc => Kp.bind (Kp.load _ _) fun v => Kp.loadCells a n (i + 1) _
theorem Kp.loadAt (t : TypeId) (x : Value) : Kp (Instr.loadAt t x) := Kp.bind (Kp.sureAddr x) fun a => Kp.bind (Kp.isAgg t) fun b => by
  split
  · exact Kp.bind (Kp.sizeOf t) fun n => Kp.bind (Kp.loadCells a n 0 _) fun _ => Kp.pure _
  · exact Kp.load _ _
def No {α : Type} (s : Sem α) : Prop := ∀ (P : Program) (w : World) (x : α) (w' : World), s.run P w ≠ .ok x w'
theorem No.kp {α : Type} {s : Sem α} (h : No s) : Kp s := fun P w x w' e => absurd e (h P w x w')
theorem No.bind {α β : Type} {s : Sem α} {f : α → Sem β} (hf : ∀ a, No (f a)) : No (s >>= f) := fun P w x w' e => by
  rw [Sem.run_bind] at e
  cases hs : s.run P w with
  | ok a w1 =>
    rw [hs] at e
    simp only [Result.andThen_ok] at e
    exact hf a P w1 x w' e
  | halt q w1 => rw [hs] at e; cases e
theorem No.nil {α : Type} : No (runtimePanic .nilDeref : Sem α) := No.bind fun p P w x w' h => by cases h
theorem No.bounds {α : Type} (k : IntKind) (x y : Int) (c : BoundsCode) : No (boundsPanic k x y c : Sem α) := by
  have key : ∀ b, No (runtimePanic (.bounds (IntKind.i64.wrap x) y b c) : Sem α) := fun b => by
    unfold runtimePanic
    refine No.bind fun p => ?_
    intro P w x w' h
    simp only [goPanic, Sem.run_halt] at h
    cases h
  unfold boundsPanic
  dsimp only
  split
  · exact No.bind fun b => key _
  · exact No.bind fun b => key _
theorem Kp.asIntOf (v : Value) : Kp (asIntOf v) := by
  unfold Go.asIntOf
  split
  · exact Kp.pure _
  · exact Kp.unsup _
  · exact Kp.stuck _
theorem Kp.bound (x : Value) (y : Nat) (c : BoundsCode) : Kp (Instr.sliceBound x y c) := Kp.bind (Kp.asIntOf x) fun ⟨k, i⟩ => by
  simp only
  split
  · exact Kp.pure _
  · exact (No.bounds _ _ _ _).kp
theorem Kp.bounds (b : Bool) (l c : Nat) (lo hi mx : Option Value) : Kp (Instr.sliceBounds b l c lo hi mx) := by
  unfold Instr.sliceBounds
  dsimp only
  have k3 : ∀ (m h : Nat), Kp (match lo with | some v => (do let l ← Instr.sliceBound v h (if mx.isSome = true then BoundsCode.slice3C else BoundsCode.sliceB); Pure.pure (l, h, m) : Sem (Nat × Nat × Nat)) | none => (do let l ← Pure.pure 0; Pure.pure (l, h, m))) := fun m h => by
    split
    · exact Kp.bind (Kp.bound _ _ _) fun _ => Kp.pure _
    · exact Kp.bind (Kp.pure _) fun _ => Kp.pure _
  split
  · refine Kp.bind (Kp.bound _ _ _) fun m => ?_
    split
    · exact Kp.bind (Kp.bound _ _ _) fun h => k3 _ _
    · exact Kp.bind (Kp.bound _ _ _) fun h => k3 _ _
    · exact Kp.bind (Kp.pure _) fun h => k3 _ _
    · exact Kp.bind (Kp.stuck _) fun h => k3 _ _
  · refine Kp.bind (Kp.pure _) fun m => ?_
    split
    · exact Kp.bind (Kp.bound _ _ _) fun h => k3 _ _
    · exact Kp.bind (Kp.bound _ _ _) fun h => k3 _ _
    · exact Kp.bind (Kp.pure _) fun h => k3 _ _
    · exact Kp.bind (Kp.stuck _) fun h => k3 _ _
theorem Kp.asAddr (x : Value) : Kp (asAddr x) := by
  unfold Go.asAddr
  split
  · exact Kp.pure _
  · exact No.nil.kp
  · exact Kp.stuck _
theorem Kp.slice (t : TypeId) (x : Value) (lo hi mx : Option Value) : Kp (Instr.slice t x lo hi mx) := by
  unfold Instr.slice
  refine Kp.bind (Kp.underlying t) fun u => ?_
  split
  · split
    · exact Kp.bind (Kp.stuck _) fun _ => Kp.bind (Kp.bounds _ _ _ _ _ _) fun ⟨_, _, _⟩ => Kp.pure _
    · exact Kp.bind (Kp.bounds _ _ _ _ _ _) fun ⟨_, _, _⟩ => Kp.pure _
  · exact Kp.bind (Kp.bounds _ _ _ _ _ _) fun ⟨_, _, _⟩ => Kp.bind (Kp.sizeOf _) fun _ => Kp.pure _
  · refine Kp.bind (Kp.asAddr _) fun a => Kp.bind (Kp.underlying _) fun d => ?_
    split
    · exact Kp.bind (Kp.bounds _ _ _ _ _ _) fun ⟨_, _, _⟩ => Kp.bind (Kp.sizeOf _) fun _ => Kp.pure _
    · exact Kp.stuck _
  · exact Kp.stuck _
theorem Kp.getShape (r : Nat) : Kp (shape r) := fun P w x w' h => by
  simp only [shape, Sem.run] at h
  injection h with _ h; exact h.symm
theorem Kp.getObj (r : Nat) : Kp (getObj r) := fun P w x w' h => by
  unfold Go.getObj Sem.run at h
  split at h
  · cases h
  · simp only [Sem.run] at h; injection h with _ h; exact h.symm
  · cases h
theorem Kp.noView (a : Addr) : Kp (noView a) := by
  unfold Go.noView viewAt
  refine Kp.bind (Kp.bind (Kp.getShape _) fun sh => ?_) fun o => ?_
  · split
    · exact Kp.pure _
    · refine Kp.bind (Kp.getObj _) fun o => ?_
      split <;> exact Kp.pure _
  · split
    · exact Kp.unsup _
    · exact Kp.pure _
theorem Kp.byteOf (a : Addr) : Kp (byteOf a) := by
  unfold Go.byteOf
  dsimp only
  split
  · exact Kp.pure _
  · refine Kp.bind Kp.program fun p => Kp.bind (Kp.noView a) fun _ => Kp.bind (Kp.getShape _) fun sh => ?_
    split
    · split
      · exact Kp.pure _
      · split
        · exact Kp.pure _
        · exact Kp.stuck _
    · exact Kp.stuck _
theorem Kp.place (a : Addr) (f : Field) : Kp (fieldPlace a f) := by
  unfold fieldPlace
  refine Kp.bind (Kp.sizeOf _) fun n => ?_
  split
  · exact Kp.bind (Kp.byteOf _) fun _ => Kp.bind (Kp.byteOf _) fun _ => Kp.pure _
  · exact Kp.pure _
theorem Kp.fieldAt (s : TypeId) (x : Value) (f : Nat) : Kp (Instr.fieldAt s x f) := by
  unfold Instr.fieldAt
  refine Kp.bind (Kp.underlying s) fun u => ?_
  split
  · split
    · exact Kp.bind (Kp.sureAddr x) fun a => Kp.bind (Kp.place a _) fun _ => Kp.pure _
    · exact Kp.stuck _
  · exact Kp.stuck _
theorem Kp.part (t : TypeId) (cs : Array Value) (off : Nat) : Kp (part t cs off) := by
  unfold Go.part
  refine Kp.bind (Kp.isAgg t) fun b => ?_
  split
  · exact Kp.bind (Kp.sizeOf _) fun _ => Kp.pure _
  · split
    · exact Kp.pure _
    · exact Kp.stuck _
structure KpV (s : Sem Next) : Prop where
  keep : Kp s
  val : ∀ (P : Program) (w : World) (x : Next) (w' : World), s.run P w = .ok x w' → ∃ v, x = .value v
theorem KpV.bind {α : Type} {s : Sem α} {f : α → Sem Next} (h : Kp s) (hf : ∀ a, KpV (f a)) : KpV (s >>= f) := ⟨Kp.bind h fun a => (hf a).keep, fun P w x w' e => by
  rw [Sem.run_bind] at e
  cases hs : s.run P w with
  | ok a w1 => rw [hs] at e; simp only [Result.andThen_ok] at e; exact (hf a).val P w1 x w' e
  | halt q w1 => rw [hs] at e; cases e⟩
theorem KpV.pure (v : Value) : KpV (Pure.pure (.value v) : Sem Next) := ⟨Kp.pure _, fun P w x w' e => by rw [Sem.run_pure] at e; injection e with e; exact ⟨v, e.symm⟩⟩
theorem KpV.of {s : Sem Value} (h : Kp s) : KpV (do Pure.pure (.value (← s)) : Sem Next) := KpV.bind h fun v => KpV.pure v
theorem KpV.no {s : Sem Next} (h : No s) : KpV s := ⟨h.kp, fun P w x w' e => absurd e (h P w x w')⟩
theorem KpV.unsup (u : Unsupported) : KpV (unsupported u : Sem Next) := KpV.no fun P w x w' h => by cases h
section
variable {P : Program} {C : Ctx} {k : List Item} {R : Act → World → Prop} {env : Env} {σ : List Ob}
end
end Go.Proofs.Ytnecoghfhcimeaa
/- Regions that draw their order, in which operations that look come late, and draws stand in a chain. Over any program. -/
namespace Go.Proofs.Ytnecoghfhcimeaa
set_option linter.unusedSimpArgs false
set_option linter.unusedVariables false
set_option linter.unusedSectionVars false
open Go.RowKit
open AV (Mem Keeps)
abbrev IOq := Nat × Oper
abbrev LO := Nat × Oper × Nat × AV
def tmpsOf (o : Oper) : List Nat := o.op.operands.toList.filterMap fun | .tmp t => some t | _ => none
def waitsB (o : Oper) (i : Nat) : Bool := o.after.any fun e => Region.binds .any e && Nat.beq e.on i
def edgesIn (o : Oper) (q : Nat → Bool) : Bool := o.after.all fun e => !Region.binds .any e || q e.on
def memI (H : List IOq) (i : Nat) : Bool := H.any fun p => Nat.beq p.1 i
def keysOf (H : List IOq) : List Nat := H.flatMap fun p => tmpsOf p.2 ++ p.2.dst.toList
def needB (H : List IOq) (o : Oper) : Bool := H.all fun q => (tmpsOf o).all fun s => (match q.2.dst with | some d => !(Nat.beq d s) | none => true) || waitsB o q.1
def chainI : List IOq → Bool
  | [] => true
  | [_] => true
  | p :: q :: r => waitsB q.2 p.1 && chainI (q :: r)
def progT (H : List IOq) : List IOq → List IOq → Bool
  | _, [] => true
  | old, p :: r => edgesIn p.2 (fun j => memI H j || memI old j) && progT H (p :: old) r
def lateB (n : Nat) (H T : List IOq) : Bool :=
  (H.all fun p => needB H p.2 && p.2.guard.isNone && p.2.dst.isSome && edgesIn p.2 (fun j => Nat.ble (j + 1) p.1 && memI H j)) &&
  (T.all fun p => needB H p.2 && !(memI H p.1) && (match p.2.dst with | some d => !((keysOf H).contains d) | none => true)) &&
  chainI T && progT H [] T && ((List.range n).all fun i => memI H i || memI T i)
section
variable {P : Program} {C : Ctx} {l : List Oper} {H T : List IOq} {k : List Item} {R : Act → World → Prop} {ct : TypeId} {u : Value} {more : List Ob}
theorem memI_iff {H : List IOq} {i : Nat} : memI H i = true ↔ ∃ p ∈ H, p.1 = i := by
  simp only [memI, List.any_eq_true]
  constructor
  · rintro ⟨p, hp, e⟩; exact ⟨p, hp, Nat.eq_of_beq_eq_true e⟩
  · rintro ⟨p, hp, rfl⟩; exact ⟨p, hp, Nat.beq_refl _⟩
theorem waitsB_iff {o : Oper} {i : Nat} : waitsB o i = true ↔ ∃ e ∈ o.after, Region.binds .any e = true ∧ e.on = i := by
  unfold waitsB
  rw [Array.any_eq_true']
  constructor
  · rintro ⟨e, he, h⟩
    rw [Bool.and_eq_true] at h
    exact ⟨e, he, h.1, Nat.eq_of_beq_eq_true h.2⟩
  · rintro ⟨e, he, h, rfl⟩
    exact ⟨e, he, by rw [Bool.and_eq_true]; exact ⟨h, Nat.beq_refl _⟩⟩
theorem edgesIn_iff {o : Oper} {q : Nat → Bool} : edgesIn o q = true ↔ ∀ e ∈ o.after, Region.binds .any e = true → q e.on = true := by
  unfold edgesIn
  rw [Array.all_eq_true_iff_forall_mem]
  constructor
  · intro h e he hb
    have := h e he
    simpa [hb] using this
  · intro h e he
    cases hb : Region.binds .any e
    · simp
    · simp [h e he hb]
def PurT (P : Program) (C : Ctx) (ct : TypeId) (u : Value) (more : List Ob) (E : Nat → AV) (p : LO) : Prop :=
  ∀ (a : Act) (m : Mem) (i h : Int), Good C m → m.σ = curOb ct u i h :: more → (∀ s ∈ tmpsOf p.2.1, AV.rel m (E s) (a.tmps.getD s undef)) → ∀ (K : Act → World → Prop) (Q : Exit → Act → World → Prop),
    (∀ x w', Below m.w.heap.size m.w w' → AV.rel { m with w := w' } p.2.2.2 x → K (a.put p.2.1.dst x) w') → p.2.1.wp P a m.w K Q
structure LFact (P : Program) (C : Ctx) (ct : TypeId) (u : Value) (more : List Ob) (E : Nat → AV) (p : LO) : Prop where
  pur : PurT P C ct u more E p
  val : E p.2.2.1 = p.2.2.2
  dst : p.2.1.dst = some p.2.2.1
  lt : p.2.2.1 < C.n
def maskE (pd : List LO) (env : Env) (t : Nat) : AV := if pd.any (fun p => Nat.beq p.2.2.1 t) then .junk else look env t
def SimM (C : Ctx) (E : Nat → AV) (σ : List Ob) (a : Act) (w : World) : Prop :=
  a.defers = [] ∧ a.tmps.size = C.n ∧ ∃ φ, Good C ⟨w, φ, σ, C.ok⟩ ∧ ∀ t, AV.rel ⟨w, φ, σ, C.ok⟩ (E t) (a.tmps.getD t undef)
theorem mem_keys {H : List IOq} {p : IOq} {s : Nat} (hp : p ∈ H) (hs : s ∈ tmpsOf p.2) : s ∈ keysOf H := List.mem_flatMap.2 ⟨p, hp, List.mem_append_left _ hs⟩
theorem mem_keys_dst {H : List IOq} {p : IOq} {s : Nat} (hp : p ∈ H) (hs : p.2.dst = some s) : s ∈ keysOf H := List.mem_flatMap.2 ⟨p, hp, List.mem_append_right _ (by simp [hs])⟩
theorem mem_operand {o : Oper} {s : Nat} (h : Operand.tmp s ∈ o.op.operands) : s ∈ tmpsOf o := by
  simp only [tmpsOf, List.mem_filterMap]
  exact ⟨.tmp s, by simpa using h, rfl⟩
theorem ev_tmps {m : Mem} {env : Env} {o : Oper} {a : Act} (h : ∀ s ∈ tmpsOf o, AV.rel m (look env s) (a.tmps.getD s undef)) : ∀ x ∈ o.op.operands, AV.rel m (ev env x) (a.eval x) := by
  intro x hx
  cases x with
  | tmp t => exact h t (mem_operand hx)
  | const v =>
    have h := const_rel (w := m.w) (ok := m.ok) v
    cases v <;> simpa only [ev, AV.rel, Act.eval, constRV] using h
  | func f => simp only [ev, AV.rel, Act.eval]; exact ⟨#[], #[], rfl, by simp [AV.rels], by simp [AV.rels]⟩
  | global g => simp [ev, AV.rel]
theorem wpOp_at {ops : Array Oper} {Q : Exit → Act → World → Prop} {K : Act → World → Prop} {i : Nat} {o : Oper} {a : Act} {w : World} (hi : ops[i]? = some o) (hg : o.guard = none) (h : o.wp P a w K Q) : wpOp P ops Q i K a w := by
  unfold wpOp
  simp only [hi]
  rw [if_pos (by simp [Region.wanted, hg])]
  exact .inl h
theorem chain_ready {listed : Array Bool} : ∀ (r : List IOq) (p q : IOq), chainI (p :: r) = true → (∀ x ∈ p :: r, listed.getD x.1 true = false) → (∀ x ∈ p :: r, l[x.1]? = some x.2) → q ∈ r → q.1 ∈ Region.ready .any l.toArray listed → False
  | [], _, _, _, _, _, hq, _ => by cases hq
  | y :: r, p, q, hc, hun, hat, hq, hr => by
    simp only [chainI, Bool.and_eq_true] at hc
    rcases List.mem_cons.1 hq with rfl | hq
    · obtain ⟨e, he, hb, hon⟩ := waitsB_iff.1 hc.1
      obtain ⟨_, o, h2, h3⟩ := mem_ready.1 hr
      have hqo := hat q (by simp)
      rw [show l.toArray[q.1]? = l[q.1]? by simp, hqo] at h2; injection h2 with h2; subst h2
      have := h3 e he hb
      rw [hon, getD_both (hun p (by simp))] at this
      cases this
    · exact chain_ready r y q hc.2 (fun x hx => hun x (by simp only [List.mem_cons] at hx ⊢; exact .inr hx)) (fun x hx => hat x (by simp only [List.mem_cons] at hx ⊢; exact .inr hx)) hq hr
theorem getD_set_selfL {listed : Array Bool} {i : Nat} (d : Bool) (h : i < listed.size) : (listed.setIfInBounds i true).getD i d = true := by
  rw [Array.getD_eq_getD_getElem?, Array.getElem?_setIfInBounds_self_of_lt h]; rfl
theorem getD_set' {listed : Array Bool} {i j : Nat} (d : Bool) (h : i ≠ j) : (listed.setIfInBounds i true).getD j d = listed.getD j d := by
  rw [Array.getD_eq_getD_getElem?, Array.getElem?_setIfInBounds_ne h, Array.getD_eq_getD_getElem?]
theorem getD_true_of {listed : Array Bool} {j : Nat} (hs : j < listed.size) (h : listed.getD j true ≠ false) : listed.getD j false = true := by
  simp only [Array.getD_eq_getD_getElem?, Array.getElem?_eq_getElem hs, Option.getD_some] at h ⊢
  simpa using h
def ClosedL (l : List Oper) (listed : Array Bool) : Prop := ∀ (j : Nat) o, l[j]? = some o → listed.getD j false = true → ∀ e ∈ o.after, Region.binds .any e = true → listed.getD e.on false = true
theorem ClosedL.next {listed : Array Bool} {i : Nat} (h : ClosedL l listed) (hr : i ∈ Region.ready .any l.toArray listed) (hs : listed.size = l.length) : ClosedL l (listed.setIfInBounds i true) := by
  intro j o hj hl e he hb
  have hup : ∀ k, listed.getD k false = true → (listed.setIfInBounds i true).getD k false = true := fun k hk => by
    by_cases e : i = k
    · subst e
      obtain ⟨_, o', h2, _⟩ := mem_ready.1 hr
      exact getD_set_selfL false (by have := (Array.getElem?_eq_some_iff.1 h2).1; simp at this; omega)
    · rw [getD_set' false e]; exact hk
  by_cases ei : i = j
  · subst ei
    obtain ⟨_, o', h2, h3⟩ := mem_ready.1 hr
    rw [show l.toArray[i]? = l[i]? by simp, hj] at h2; injection h2 with h2; subst h2
    exact hup _ (h3 e he hb)
  · rw [getD_set' false ei] at hl
    exact hup _ (h j o hj hl e he hb)
structure LatB (l : List Oper) (H T : List IOq) : Prop where
  hat : ∀ p ∈ H, l[p.1]? = some p.2
  tat : ∀ p ∈ T, l[p.1]? = some p.2
  need : ∀ p, p ∈ H ∨ p ∈ T → ∀ q ∈ H, ∀ s ∈ tmpsOf p.2, q.2.dst = some s → waitsB p.2 q.1 = true
  guard : ∀ p ∈ H, p.2.guard = none
  early : ∀ p ∈ H, ∀ e ∈ p.2.after, Region.binds .any e = true → e.on < p.1 ∧ ∃ q ∈ H, q.1 = e.on
  apart : ∀ p ∈ T, ∀ q ∈ H, q.1 ≠ p.1
  fresh : ∀ p ∈ T, ∀ d, p.2.dst = some d → d ∉ keysOf H
  chain : chainI T = true
  tnd : (T.map (·.1)).Nodup
  prog : ∃ old : List IOq, progT H old T = true ∧ ∀ q ∈ old, q.1 < l.length ∧ ∀ x ∈ T, x.1 ≠ q.1
theorem LatB.prog' (h : LatB l H T) (p : IOq) (r : List IOq) (e' : T = p :: r) : ∀ e ∈ p.2.after, Region.binds .any e = true → ∃ j, e.on = j ∧ j < l.length ∧ ∀ q ∈ T, q.1 ≠ j := by
  intro e he hb
  obtain ⟨old, h1, h2⟩ := h.prog
  subst e'
  simp only [progT, Bool.and_eq_true] at h1
  have h3 := edgesIn_iff.1 h1.1 e he hb
  simp only [Bool.or_eq_true, memI_iff] at h3
  refine ⟨e.on, rfl, ?_⟩
  rcases h3 with ⟨q, hq, e1⟩ | ⟨q, hq, e1⟩
  · rw [← e1]
    exact ⟨(List.getElem?_eq_some_iff.1 (h.hat q hq)).1, fun x hx => (h.apart x hx q hq).symm⟩
  · rw [← e1]
    exact h2 q hq
theorem LatB.tail {p : IOq} {r : List IOq} (h : LatB l H (p :: r)) : LatB l H r :=
  ⟨h.hat, fun q hq => h.tat q (by simp [hq]), fun q hq => h.need q (hq.imp id fun h => by simp [h]), h.guard, h.early, fun q hq => h.apart q (by simp [hq]), fun q hq => h.fresh q (by simp [hq]), by
    have := h.chain
    cases r with
    | nil => rfl
    | cons y r => simp only [chainI, Bool.and_eq_true] at this; exact this.2, by have := h.tnd; rw [List.map_cons, List.nodup_cons] at this; exact this.2, by
    obtain ⟨old, h1, h2⟩ := h.prog
    simp only [progT, Bool.and_eq_true] at h1
    refine ⟨p :: old, h1.2, fun q hq => ?_⟩
    rcases List.mem_cons.1 hq with rfl | hq
    · refine ⟨(List.getElem?_eq_some_iff.1 (h.tat q (by simp))).1, fun x hx e => ?_⟩
      have := h.tnd
      rw [List.map_cons, List.nodup_cons] at this
      exact this.1 (List.mem_map.2 ⟨x, hx, e⟩)
    · exact ⟨(h2 q hq).1, fun x hx => (h2 q hq).2 x (by simp [hx])⟩⟩
structure RunsP (P : Program) (C : Ctx) (ct : TypeId) (u : Value) (more : List Ob) (l : List Oper) (H T : List IOq) (k : List Item) (R : Act → World → Prop) (i h : Int) (env : Env) : Prop where
  run : LatB l H T → ∀ (late : List LO) (E0 : Nat → AV), (∀ p ∈ late, (p.1, p.2.1) ∈ H) → (∀ p ∈ late, LFact P C ct u more E0 p) → (∀ s ∈ keysOf H, look env s = E0 s) → ∀ (n : Nat) (pd : List LO) (listed : Array Bool) (a : Act) (w : World), pd.length = n → (∀ p ∈ pd, p ∈ late) → listed.size = l.length → ClosedL l listed →
    (∀ j, j < l.length → (listed.getD j true = false ↔ ((∃ p ∈ pd, p.1 = j) ∨ ∃ p ∈ T, p.1 = j))) → SimM C (maskE pd env) (curOb ct u i h :: more) a w → wpAny P .any l.toArray (nrm (Fin P k R)) (n + T.length) listed a w
theorem runsP_step (hB : LatB l H T) {i h : Int} {env : Env} {late : List LO} {E0 : Nat → AV} (hlH : ∀ p ∈ late, (p.1, p.2.1) ∈ H) (hF : ∀ p ∈ late, LFact P C ct u more E0 p) (hE0 : ∀ s ∈ keysOf H, look env s = E0 s)
    (head : ∀ (pd : List LO) (listed : Array Bool) (a : Act) (w : World) (p : IOq) (r : List IOq), T = p :: r → (∀ q ∈ pd, q ∈ late) → listed.size = l.length → ClosedL l listed → (∀ j, j < l.length → (listed.getD j true = false ↔ ((∃ q ∈ pd, q.1 = j) ∨ ∃ q ∈ T, q.1 = j))) → p.1 ∈ Region.ready .any l.toArray listed → SimM C (maskE pd env) (curOb ct u i h :: more) a w →
      (∀ s ∈ tmpsOf p.2, maskE pd env s = look env s) → wpOp P l.toArray (nrm (Fin P k R)) p.1 (wpAny P .any l.toArray (nrm (Fin P k R)) (pd.length + r.length) (listed.setIfInBounds p.1 true)) a w) (hT : T ≠ []) :
    ∀ (n : Nat) (pd : List LO) (listed : Array Bool) (a : Act) (w : World), pd.length = n → (∀ p ∈ pd, p ∈ late) → listed.size = l.length → ClosedL l listed →
    (∀ j, j < l.length → (listed.getD j true = false ↔ ((∃ p ∈ pd, p.1 = j) ∨ ∃ p ∈ T, p.1 = j))) → SimM C (maskE pd env) (curOb ct u i h :: more) a w → wpAny P .any l.toArray (nrm (Fin P k R)) (n + T.length) listed a w := by
  intro n
  induction n using Nat.strongRecOn with
  | _ n ih =>
  intro pd listed a w hn hpd hls hcls hch hS
  obtain ⟨t, r, rfl⟩ : ∃ t r, T = t :: r := by cases T with
    | nil => exact absurd rfl hT
    | cons t r => exact ⟨t, r, rfl⟩
  have hlt : ∀ p : IOq, (p ∈ H ∨ p ∈ t :: r) → p.1 < l.length := fun p hp => by
    rcases hp with hp | hp
    · exact (List.getElem?_eq_some_iff.1 (hB.hat p hp)).1
    · exact (List.getElem?_eq_some_iff.1 (hB.tat p hp)).1
  -- an operation that is ready finds its operands
  have hops : ∀ p : IOq, (p ∈ H ∨ p ∈ t :: r) → p.1 ∈ Region.ready .any l.toArray listed → ∀ s ∈ tmpsOf p.2, maskE pd env s = look env s := fun p hp hr s hs => by
    unfold maskE
    rw [if_neg]
    intro hany
    obtain ⟨q, hq, hb⟩ := List.any_eq_true.1 hany
    have hqs : q.2.2.1 = s := Nat.eq_of_beq_eq_true hb
    have hql := hpd q hq
    have hw := hB.need p hp _ (hlH q hql) s hs (by rw [← hqs]; exact (hF q hql).dst)
    obtain ⟨e, he, hbn, hon⟩ := waitsB_iff.1 hw
    obtain ⟨_, o, h2, h3⟩ := mem_ready.1 hr
    have hpo : l[p.1]? = some p.2 := hp.elim (hB.hat p) (hB.tat p)
    rw [show l.toArray[p.1]? = l[p.1]? by simp, hpo] at h2; injection h2 with h2; subst h2
    have h4 := h3 e he hbn
    have hqlt := hlt (q.1, q.2.1) (.inl (hlH q hql))
    rw [hon, getD_both ((hch q.1 hqlt).2 (.inl ⟨q, hq, rfl⟩))] at h4
    cases h4
  have hnt : n + (t :: r).length = (n + r.length) + 1 := by simp; omega
  rw [hnt]
  refine ⟨fun h0 => ?_, fun j hj => ?_⟩
  · -- some operation is ready
    exfalso
    have hnone : ∀ x, x ∉ Region.ready .any l.toArray listed := fun x hx => by rw [h0] at hx; cases hx
    have hmin : ∀ m, ∀ p ∈ pd, p.1 ≤ m → False := by
      intro m
      induction m using Nat.strongRecOn with
      | _ m im =>
        intro p hp hpm
        have hpH := hlH p (hpd p hp)
        refine hnone p.1 (mem_ready.2 ⟨(hch p.1 (hlt (p.1, p.2.1) (.inl hpH))).2 (.inl ⟨p, hp, rfl⟩), p.2.1, by simpa using hB.hat _ hpH, fun e he hb => ?_⟩)
        obtain ⟨e1, q, hq, e2⟩ := hB.early _ hpH e he hb
        have hel : e.on < l.length := by rw [← e2]; exact hlt q (.inl hq)
        refine getD_true_of (by omega) fun hf => ?_
        rcases (hch e.on hel).1 hf with ⟨q', hq', e3⟩ | ⟨q', hq', e3⟩
        · exact im q'.1 (by simp only at e1; omega) q' hq' (Nat.le_refl _)
        · exact hB.apart q' hq' q hq (e2.trans e3.symm)
    have hpd0 : ∀ p, p ∉ pd := fun p hp => hmin p.1 p hp (Nat.le_refl _)
    refine hnone t.1 (mem_ready.2 ⟨(hch t.1 (hlt t (.inr (by simp)))).2 (.inr ⟨t, by simp, rfl⟩), t.2, by simpa using hB.tat t (by simp), fun e he hb => ?_⟩)
    obtain ⟨j, e1, e2, e3⟩ := hB.prog' t r rfl e he hb
    refine getD_true_of (by omega) fun hf => ?_
    rw [e1] at hf
    rcases (hch j e2).1 hf with ⟨q', hq', _⟩ | ⟨q', hq', e4⟩
    · exact hpd0 q' hq'
    · exact e3 q' hq' e4
  · obtain ⟨hju, o, ho, _⟩ := mem_ready.1 hj
    have hjl : j < l.length := by simpa using (Array.getElem?_eq_some_iff.1 ho).1
    rcases (hch j hjl).1 hju with ⟨p, hp, rfl⟩ | ⟨p, hp, rfl⟩
    · -- a late operation
      have hpl := hpd p hp
      have hpH := hlH p hpl
      have hf := hF p hpl
      have hpo : l.toArray[p.1]? = some p.2.1 := by simpa using hB.hat _ hpH
      refine wpOp_at hpo (hB.guard _ hpH) ?_
      obtain ⟨s1, s2, φ, hG, hE⟩ := hS
      refine hf.pur a ⟨w, φ, curOb ct u i h :: more, C.ok⟩ i h hG rfl (fun s hs => ?_) _ _ fun x w' hb hv => ?_
      · rw [← hE0 s (mem_keys hpH hs), ← hops _ (.inl hpH) hj s hs]
        exact hE s
      · obtain ⟨g1, g2⟩ := good_below hG hb
        have hlen : (pd.filter fun q => !(Nat.beq q.1 p.1)).length < pd.length := by
          refine Nat.lt_of_le_of_ne (List.length_filter_le _ _) fun e => ?_
          have := List.length_filter_eq_length_iff.1 e p hp
          simp at this
        have hmem : ∀ q, q ∈ (pd.filter fun q => !(Nat.beq q.1 p.1)) ↔ q ∈ pd ∧ q.1 ≠ p.1 := fun q => by
          rw [List.mem_filter]
          constructor
          · rintro ⟨h1, h2⟩; exact ⟨h1, fun e => by simp [e] at h2⟩
          · rintro ⟨h1, h2⟩
            refine ⟨h1, ?_⟩
            cases hbq : Nat.beq q.1 p.1
            · rfl
            · exact absurd (Nat.eq_of_beq_eq_true hbq) h2
        have hmono : ∀ (n1 n2 : Nat) (listed : Array Bool) a w, n1 ≤ n2 → wpAny P .any l.toArray (nrm (Fin P k R)) n1 listed a w → wpAny P .any l.toArray (nrm (Fin P k R)) n2 listed a w := by
          intro n1
          induction n1 with
          | zero =>
            intro n2 listed a w _ hw
            cases n2 with
            | zero => exact hw
            | succ n2 => exact ⟨fun _ => hw.2, fun i hi => by rw [hw.1] at hi; cases hi⟩
          | succ n1 im =>
            intro n2 listed a w hle hw
            obtain ⟨n2, rfl⟩ : ∃ m, n2 = m + 1 := ⟨n2 - 1, by omega⟩
            exact ⟨hw.1, fun i hi => wpOp_mono (fun a w => im n2 _ a w (by omega)) (hw.2 i hi)⟩
        refine hmono _ _ _ _ _ (by simp; omega) (ih (pd.filter fun q => !(Nat.beq q.1 p.1)).length (by omega) (pd.filter fun q => !(Nat.beq q.1 p.1)) _ _ w' rfl (fun q hq => hpd q ((hmem q).1 hq).1) (by simpa using hls) (hcls.next hj hls) (fun j hj => ?_) ⟨by rw [hf.dst]; exact s1, by rw [hf.dst]; simp [Act.put, s2], φ, g1, fun s => ?_⟩)
        · by_cases e : p.1 = j
          · subst e
            rw [getD_set_selfL true (by omega)]
            constructor
            · intro h; cases h
            · rintro (⟨q, hq, e⟩ | ⟨q, hq, e⟩)
              · exact absurd e ((hmem q).1 hq).2
              · exact absurd e.symm (hB.apart q hq _ hpH)
          · rw [getD_set' true e, hch j hj]
            constructor
            · rintro (⟨q, hq, rfl⟩ | h)
              · exact .inl ⟨q, (hmem q).2 ⟨hq, fun h => e h.symm⟩, rfl⟩
              · exact .inr h
            · rintro (⟨q, hq, rfl⟩ | h)
              · exact .inl ⟨q, ((hmem q).1 hq).1, rfl⟩
              · exact .inr h
        · rw [hf.dst, getD_put a _ s x (by rw [s2]; exact hf.lt)]
          split
          · rename_i e
            subst e
            unfold maskE
            split
            · simp [AV.rel]
            · rw [hE0 _ (mem_keys_dst hpH hf.dst), hf.val]; exact hv
          · rename_i e
            have := AV.rel_keeps g2 _ _ (AV.only_true _) (hE s)
            unfold maskE at this ⊢
            split
            · simp [AV.rel]
            · rename_i hn2
              rw [if_neg] at this
              · exact this
              · intro hany
                obtain ⟨q, hq, hbq⟩ := List.any_eq_true.1 hany
                refine hn2 (List.any_eq_true.2 ⟨q, (hmem q).2 ⟨hq, fun e' => ?_⟩, hbq⟩)
                -- two of one index are the same operation
                have h1 := hB.hat _ (hlH q (hpd q hq))
                have h2 := hB.hat _ hpH
                simp only at h1 h2
                rw [e', h2] at h1
                injection h1 with h1
                have d1 := (hF q (hpd q hq)).dst
                rw [← h1, hf.dst] at d1
                injection d1 with d1
                exact e (d1.trans (Nat.eq_of_beq_eq_true hbq))
    · rcases List.mem_cons.1 hp with rfl | hp
      · have := head pd listed a w p r rfl hpd hls hcls hch hj hS (hops p (.inr (by simp)) hj)
        rwa [hn] at this
      · exact (chain_ready (l := l) r t p hB.chain (fun x hx => (hch x.1 (hlt x (.inr hx))).2 (.inr ⟨x, hx, rfl⟩)) hB.tat hp hj).elim
theorem maskE_put {pd : List LO} {env : Env} {t : Nat} {v : AV} {s : Nat} (h : s ≠ t) : maskE pd ((t, v) :: env) s = maskE pd env s := by
  unfold maskE
  rw [look_put, if_neg (Ne.symm h)]
theorem cln_mask {pd : List LO} {env : Env} (h : clnE env = true) (t : Nat) : cln (maskE pd env t) = true := by
  unfold maskE
  split
  · rfl
  · exact clnE.look h t
theorem listed_next {p : IOq} {r : List IOq} {pd : List LO} {listed : Array Bool} (hB : LatB l H (p :: r)) (hlH : ∀ q ∈ pd, (q.1, q.2.1) ∈ H) (hls : listed.size = l.length) (hch : ∀ j, j < l.length → (listed.getD j true = false ↔ ((∃ q ∈ pd, q.1 = j) ∨ ∃ q ∈ p :: r, q.1 = j))) :
    ∀ j, j < l.length → ((listed.setIfInBounds p.1 true).getD j true = false ↔ ((∃ q ∈ pd, q.1 = j) ∨ ∃ q ∈ r, q.1 = j)) := fun j hj => by
  have hpl := (List.getElem?_eq_some_iff.1 (hB.tat p (by simp))).1
  have hnd := hB.tnd
  rw [List.map_cons, List.nodup_cons] at hnd
  by_cases e : p.1 = j
  · subst e
    rw [getD_set_selfL true (by omega)]
    constructor
    · intro h; cases h
    · rintro (⟨q, hq, e⟩ | ⟨q, hq, e⟩)
      · exact absurd e (hB.apart p (by simp) _ (hlH q hq))
      · exact absurd (List.mem_map.2 ⟨q, hq, e⟩) hnd.1
  · rw [getD_set' true e, hch j hj]
    constructor
    · rintro (h | ⟨q, hq, rfl⟩)
      · exact .inl h
      · rcases List.mem_cons.1 hq with rfl | hq
        · exact absurd rfl e
        · exact .inr ⟨q, hq, rfl⟩
    · rintro (h | ⟨q, hq, rfl⟩)
      · exact .inl h
      · exact .inr ⟨q, by simp [hq], rfl⟩
section
variable {i h : Int} {env : Env} {n t : Nat} {ty : TypeId} {pos : String} {after : Array Edge} {b : List UInt8}
theorem RunsP.eff {o : Oper} {T' : List IOq} (X : AV → Int → Int → Prop) (hg : o.guard = none) (hd : o.dst = some t) (ht : t < C.n) (hce : clnE env = true)
    (hs : ∀ (a : Act) (m : Mem), Good C m → m.σ = curOb ct u i h :: more → (∀ x ∈ o.op.operands, AV.rel m (ev env x) (a.eval x)) → ∀ (K : Act → World → Prop) (Q : Exit → Act → World → Prop),
      (∀ y i' h' v w', X y i' h' → Good C ⟨w', m.φ, curOb ct u i' h' :: more, C.ok⟩ → (∀ y x, cln y = true → AV.rel m y x → AV.rel ⟨w', m.φ, curOb ct u i' h' :: more, C.ok⟩ y x) → AV.rel ⟨w', m.φ, curOb ct u i' h' :: more, C.ok⟩ y v → K (a.put (some t) v) w') → o.wp P a m.w K Q)
    (hk : ∀ y i' h', X y i' h' → RunsP P C ct u more l H T' k R i' h' ((t, y) :: env)) : RunsP P C ct u more l H ((n, o) :: T') k R i h env := by
  refine ⟨fun hB late E0 hlH hF hE0 => runsP_step hB hlH hF hE0 (fun pd listed a w p r e hpd hls hcls hch hr hS hops => ?_) (by simp)⟩
  injection e with e1 e2
  subst e1; subst e2
  refine wpOp_at (by simpa using hB.tat (n, o) (by simp)) hg ?_
  obtain ⟨s1, s2, φ, hG, hE⟩ := hS
  refine hs a ⟨w, φ, curOb ct u i h :: more, C.ok⟩ hG rfl (ev_tmps fun s hs => by rw [← hops s hs]; exact hE s) _ _ fun y i' h' v w' hX g1 g2 g3 => ?_
  have hfr := hB.fresh (n, o) (by simp) t hd
  refine (hk y i' h' hX).run hB.tail late E0 hlH hF (fun s hs => ?_) pd.length pd _ _ w' rfl hpd (by simpa using hls) (hcls.next hr hls) (listed_next hB (fun q hq => hlH q (hpd q hq)) hls hch) ⟨s1, by simp [Act.put, s2], φ, g1, fun s => ?_⟩
  · rw [look_put, if_neg (fun (e : t = s) => hfr (by rw [e]; exact hs))]; exact hE0 s hs
  · rw [getD_put a t s v (by rw [s2]; exact ht)]
    split
    · rename_i e; subst e
      unfold maskE
      split
      · simp [AV.rel]
      · rw [look_put, if_pos rfl]; exact g3
    · rename_i e
      rw [maskE_put (Ne.symm e)]
      exact g2 _ _ (cln_mask hce s) (hE s)
theorem RunsP.pur {o : Oper} {T' : List IOq} {y : AV} (hp : Pur P C o env (curOb ct u i h :: more) y) (hg : o.guard = none) (hd : o.dst = some t) (ht : t < C.n) (hce : clnE env = true) (hk : RunsP P C ct u more l H T' k R i h ((t, y) :: env)) : RunsP P C ct u more l H ((n, o) :: T') k R i h env :=
  RunsP.eff (fun y' i' h' => y' = y ∧ i' = i ∧ h' = h) hg hd ht hce (fun a m hG hσ hH K Q hK => hp.run a m hG hσ hH K Q fun v w' hb hv => by
    obtain ⟨w, φ, s, ok0⟩ := m
    have h0 := hG.ok0
    simp only at h0 hσ
    subst h0; subst hσ
    obtain ⟨g1, g2⟩ := good_below hG hb
    rw [hd]
    exact hK y i h v w' ⟨rfl, rfl, rfl⟩ g1 (fun z x _ hz => AV.rel_keeps g2 _ _ (AV.only_true _) hz) hv) (by rintro _ _ _ ⟨rfl, rfl, rfl⟩; exact hk)
theorem RunsP.drawF {f : FuncId} {fn : Func} {x0 : Operand} {xs : List Operand} {ats : Array TypeId} {args : List RV} {Q : RR → Prop} {Q' : RV → Prop} {T' : List IOq} [hfn : FN P f fn] (hf : Drw P ct f b args Q) (hq : ∀ rr, Q rr → flatR rr = true ∧ ∃ r, Seals rr r ∧ Q' r) (hc : unpin (ev env x0) = .obj 0 0) (hu : HU C b u) (hi : CurOk b i) (ha : ∀ h : Int, LendsPL C (curOb ct u i h :: more) (xs.map (ev env)) args)
    (hce : clnE env = true) (hcl : clnO more = true) (ht : t < C.n) (hk : ∀ i' h' r, CurOk b i' → Q' r → RunsP P C ct u more l H T' k R i' h' ((t, .ro r) :: env)) :
    RunsP P C ct u more l H ((n, ⟨some t, .call { callee := .value (.func f), args := (x0 :: xs).toArray, argTypes := ats }, ty, pos, after, none⟩) :: T') k R i h env :=
  RunsP.eff (fun y i' h' => ∃ r, y = .ro r ∧ CurOk b i' ∧ Q' r) rfl rfl ht hce (fun a m hG hσ hH K Q hK =>
    draw_wpF hf (fun rr h => (hq rr h).1) hc hu hi hG hσ (by rw [hσ]; exact ha h) (fun x hx => hH x (by simp [Op.operands, Call.operands] at hx ⊢; exact .inr hx)) fun rr v w' i' h' bs g hQ hD => by
      obtain ⟨_, r, hs, hr⟩ := hq rr hQ
      obtain ⟨g1, g2, g3⟩ := hD.simS hG hσ hu.one hcl hs
      exact hK (.ro r) i' h' v w' ⟨r, rfl, hD.ok, hr⟩ g1 g2 g3) (by rintro _ i' h' ⟨r, rfl, h1, h2⟩; exact hk i' h' r h1 h2)
theorem RunsP.done (m : Nat) (hm : (T.map (·.1)) = (List.range' m (l.length - m))) (hml : m < l.length) (hw : Region.sinkB .any l.toArray m = true) (hsq : Region.seqB .any l.toArray (l.length - m) m (Array.replicate m true ++ Array.replicate (l.length - m) false) = true)
    (hk : RunsL P C l.toArray (l.drop m) k R ⟨env, curOb ct u i h :: more⟩) : RunsP P C ct u more l H T k R i h env := by
  refine ⟨fun hB late E0 hlH hF hE0 => ?_⟩
  have hT : T ≠ [] := by
    rintro rfl
    have := congrArg List.length hm
    simp at this; omega
  have hin : ∀ j, (∃ p ∈ T, p.1 = j) ↔ m ≤ j ∧ j < l.length := fun j => by
    have : (∃ p ∈ T, p.1 = j) ↔ j ∈ T.map (·.1) := by simp only [List.mem_map]
    rw [this, hm, List.mem_range'_1]
    omega
  refine runsP_step hB hlH hF hE0 (fun pd listed a w p r e hpd hls hcls hch hr hS hops => ?_) hT
  subst e
  have hp1 : p.1 = m := by
    have := congrArg List.head? hm
    rw [show l.length - m = (l.length - m - 1) + 1 by omega, List.range'_succ] at this
    simpa using this
  -- nothing is pending
  have hall : ∀ n i, m - i ≤ n → i < m → listed.getD i false = true := by
    intro n
    induction n with
    | zero => intro i h1 h2; omega
    | succ n ih =>
      intro i h1 h2
      have hsk := List.all_eq_true.1 hw i (List.mem_range.2 h2)
      obtain ⟨j, hj, hb⟩ := List.any_eq_true.1 hsk
      rw [List.mem_range] at hj
      rw [Bool.and_eq_true] at hb
      obtain ⟨oj, hoj, e, he, hbn, hon⟩ := Region.waitsFor_spec hb.2
      have hij := of_decide_eq_true hb.1
      rw [← hon]
      by_cases ejm : j = m
      · subst ejm
        obtain ⟨_, o, h3, h4⟩ := mem_ready.1 hr
        rw [hp1] at h3
        rw [h3] at hoj; injection hoj with hoj; subst hoj
        exact h4 e he hbn
      · exact hcls j oj (by simpa using hoj) (ih j (by omega) (by omega)) e he hbn
  have hpd0 : pd = [] := by
    rw [List.eq_nil_iff_forall_not_mem]
    intro q hq
    have hql := (List.getElem?_eq_some_iff.1 (hB.hat _ (hlH q (hpd q hq)))).1
    have hqm : q.1 < m := by
      rcases Nat.lt_or_ge q.1 m with h | h
      · exact h
      · obtain ⟨x, hx, e⟩ := (hin q.1).2 ⟨h, hql⟩
        exact absurd e.symm (hB.apart x hx _ (hlH q (hpd q hq)))
    have h4 := hall (m - q.1) q.1 (Nat.le_refl _) hqm
    rw [getD_both ((hch q.1 hql).2 (.inl ⟨q, hq, rfl⟩))] at h4
    cases h4
  subst hpd0
  have hlst : listed = Array.replicate m true ++ Array.replicate (l.length - m) false := by
    refine Array.ext (by simp; omega) fun j h1 h2 => ?_
    have hjl : j < l.length := by omega
    have hx := hch j hjl
    simp only [List.not_mem_nil, false_and, exists_false, false_or] at hx
    rw [hin j, Array.getD_eq_getD_getElem?, Array.getElem?_eq_getElem h1, Option.getD_some] at hx
    rw [Array.getElem_append]
    split
    · rename_i h3
      simp only [Array.size_replicate] at h3
      rw [Array.getElem_replicate]
      cases hb : listed[j]
      · have := hx.1 hb; omega
      · rfl
    · rename_i h3
      simp only [Array.size_replicate] at h3
      rw [Array.getElem_replicate]
      exact hx.2 ⟨by omega, hjl⟩
  obtain ⟨s1, s2, φ, hG, hE⟩ := hS
  have hlen : r.length + 1 = l.length - m := by
    have := congrArg List.length hm
    simpa using this
  have hrun := hk.run a w ⟨s1, s2, φ, hG, fun s => by have := hE s; simpa [maskE] using this⟩
  have := wpAny_of_seq (md := .any) (Q' := nrm (Fin P k R)) (l.drop m) m listed a w (fun j => by simp [List.getElem?_drop]) (by rw [List.length_drop, hlst]; exact hsq) hrun
  rw [List.length_drop, ← hlen] at this
  rw [List.length_nil, Nat.zero_add]
  exact this.2 p.1 hr
end
structure RunsH (P : Program) (C : Ctx) (ct : TypeId) (u : Value) (more : List Ob) (l : List Oper) (H T : List IOq) (k : List Item) (R : Act → World → Prop) (i h : Int) (keys : List Nat) (rest : List IOq) (env : Env) : Prop where
  run : ∃ (late : List LO) (env' : Env), late.length = rest.length ∧ (∀ p ∈ late, (p.1, p.2.1) ∈ rest) ∧ (∀ p ∈ rest, ∃ q ∈ late, q.1 = p.1 ∧ q.2.1 = p.2) ∧ (∀ s ∈ keys, look env' s = look env s) ∧ (∀ s, (∀ p ∈ late, p.2.2.1 ≠ s) → look env' s = look env s) ∧ (∀ p ∈ late, LFact P C ct u more (look env') p) ∧ RunsP P C ct u more l H T k R i h env'
variable {i h : Int} {env : Env} {n t : Nat} {keys : List Nat} {rest : List IOq}
theorem RunsH.nil (hk : RunsP P C ct u more l H T k R i h env) : RunsH P C ct u more l H T k R i h keys [] env := ⟨⟨[], env, rfl, by simp, by simp, fun _ _ => rfl, fun _ _ => rfl, by simp, hk⟩⟩
theorem RunsH.pur {o : Oper} {v : AV} (hp : ∀ i h : Int, Pur P C o env (curOb ct u i h :: more) v) (hd : o.dst = some t) (ht : t < C.n) (hf : (keys ++ tmpsOf o).contains t = false)
    (hk : RunsH P C ct u more l H T k R i h (keys ++ tmpsOf o ++ [t]) rest ((t, v) :: env)) : RunsH P C ct u more l H T k R i h keys ((n, o) :: rest) env := by
  obtain ⟨late, env', h0, h1, h2, h3, h4, h5, h6⟩ := hk.run
  have hfr : ∀ s ∈ keys ++ tmpsOf o, s ≠ t := fun s hs e => by
    subst e
    have : (keys ++ tmpsOf o).contains s = true := List.contains_iff_mem.2 hs
    rw [hf] at this; cases this
  refine ⟨⟨(n, o, t, v) :: late, env', by simp [h0], fun p hp => ?_, fun p hp => ?_, fun s hs => ?_, fun s hs => ?_, fun p hp' => ?_, h6⟩⟩
  · rcases List.mem_cons.1 hp with rfl | hp
    · simp
    · exact List.mem_cons_of_mem _ (h1 p hp)
  · rcases List.mem_cons.1 hp with rfl | hp
    · exact ⟨_, List.mem_cons_self, rfl, rfl⟩
    · obtain ⟨q, hq, e⟩ := h2 p hp
      exact ⟨q, List.mem_cons_of_mem _ hq, e⟩
  · rw [h3 s (by simp [hs]), look_put, if_neg (Ne.symm (hfr s (by simp [hs])))]
  · rw [h4 s (fun p hp => hs p (List.mem_cons_of_mem _ hp)), look_put, if_neg (hs (n, o, t, v) List.mem_cons_self)]
  · rcases List.mem_cons.1 hp' with rfl | hp'
    · refine ⟨fun a m i h hG hσ hH K Q hK => ?_, ?_, hd, ht⟩
      · exact (hp i h).run a m hG hσ (ev_tmps fun s hs => by
          have := hH s hs
          rwa [h3 s (by simp [hs]), look_put, if_neg (Ne.symm (hfr s (by simp [hs])))] at this) K Q hK
      · show look env' t = v
        rw [h3 t (by simp), look_put, if_pos rfl]
    · exact h5 p hp'
def nodupB : List Nat → Bool
  | [] => true
  | x :: xs => !(xs.contains x) && nodupB xs
theorem nodupB_iff : ∀ {l : List Nat}, nodupB l = true → l.Nodup
  | [], _ => List.nodup_nil
  | x :: xs, h => by
    simp only [nodupB, Bool.and_eq_true, Bool.not_eq_true'] at h
    rw [List.nodup_cons]
    exact ⟨fun hm => by rw [List.contains_iff_mem.2 hm] at h; simp at h, nodupB_iff h.2⟩
theorem latB_of {hs ts : List Nat} (hB : lateB l.length (pick l hs) (pick l ts) = true) (hnd : nodupB ((pick l ts).map (·.1)) = true) : LatB l (pick l hs) (pick l ts) := by
  unfold lateB at hB
  simp only [Bool.and_eq_true] at hB
  obtain ⟨⟨⟨⟨b1, b2⟩, b3⟩, b4⟩, b5⟩ := hB
  rw [List.all_eq_true] at b1 b2
  have needs : ∀ (o : Oper), needB (pick l hs) o = true → ∀ q ∈ pick l hs, ∀ s ∈ tmpsOf o, q.2.dst = some s → waitsB o q.1 = true := fun o ho q hq s hs' hd => by
    have := List.all_eq_true.1 (List.all_eq_true.1 ho q hq) s hs'
    simpa [hd] using this
  refine ⟨fun p hp => pick_mem hp, fun p hp => pick_mem hp, fun p hp => ?_, fun p hp => ?_, fun p hp e he hb => ?_, fun p hp q hq e => ?_, fun p hp d hd hm => ?_, b3, nodupB_iff hnd, ⟨[], b4, by simp⟩⟩
  · rcases hp with hp | hp
    · have := b1 p hp
      simp only [Bool.and_eq_true] at this
      exact needs p.2 this.1.1.1
    · have := b2 p hp
      simp only [Bool.and_eq_true] at this
      exact needs p.2 this.1.1
  · have := b1 p hp
    simp only [Bool.and_eq_true] at this
    simpa using this.1.1.2
  · have := b1 p hp
    simp only [Bool.and_eq_true] at this
    have := edgesIn_iff.1 this.2 e he hb
    simp only [Bool.and_eq_true] at this
    exact ⟨Nat.le_of_ble_eq_true this.1, memI_iff.1 this.2⟩
  · have := b2 p hp
    simp only [Bool.and_eq_true] at this
    have h1 := this.1.2
    rw [memI_iff.2 ⟨q, hq, e⟩] at h1
    simp at h1
  · have := b2 p hp
    simp only [Bool.and_eq_true, hd] at this
    have h1 := this.2
    rw [List.contains_iff_mem.2 hm] at h1
    simp at h1
theorem Runs.toLate {id : Nat} {k0 : List Item} {σ : List Ob} (m : Nat) (hs ts : List Nat) (hf : P.follows .mixedOrders = true) (hσ : σ = curOb ct u i h :: more) (hc : Proofs.Ytnecoghfhcimeaa.ctls m k0 = .code (.region id l.toArray true) :: k) (hB : lateB l.length (pick l hs) (pick l ts) = true) (hnd : nodupB ((pick l ts).map (·.1)) = true) (hle : Nat.ble ((pick l hs).length + (pick l ts).length) l.length = true)
    (hk : RunsH P C ct u more l (pick l hs) (pick l ts) k R i h [] (pick l hs) env) : Runs P C k0 R ⟨env, σ⟩ := by
  subst hσ
  refine Runs.ctls m hc ⟨fun a w hs' => Fin.of_wp (wp_region_any hf ?_)⟩
  obtain ⟨s1, s2, φ, hG, hE⟩ := hs'
  have hb : Below w.heap.size w { w with drawn := w.drawn + 1 } := ⟨rfl, rfl, rfl, Nat.le_refl _, fun _ _ => rfl⟩
  obtain ⟨g1, g2⟩ := good_below hG hb
  obtain ⟨late, env', h0, h1, h2, _, h4, h5, h6⟩ := hk.run
  have hL := latB_of hB hnd
  have hall : ∀ j, j < l.length → (∃ p ∈ late, p.1 = j) ∨ ∃ p ∈ pick l ts, p.1 = j := fun j hj => by
    unfold lateB at hB
    simp only [Bool.and_eq_true] at hB
    have := List.all_eq_true.1 hB.2 j (List.mem_range.2 hj)
    rw [Bool.or_eq_true, memI_iff, memI_iff] at this
    rcases this with ⟨p, hp, e⟩ | h
    · obtain ⟨q, hq, e1, _⟩ := h2 p hp
      exact .inl ⟨q, hq, e1.trans e⟩
    · exact .inr h
  have hrun := h6.run hL late (look env') h1 h5 (fun _ _ => rfl) late.length late (Array.replicate l.length false) a { w with drawn := w.drawn + 1 } rfl (fun _ h => h) (by simp) (fun j o _ hl => by rw [getD_replicate_false] at hl; cases hl) (fun j hj => ⟨fun _ => hall j hj, fun _ => getD_in (by simpa using hj) (getD_replicate_false _ _)⟩) ⟨s1, s2, φ, g1, fun s => ?_⟩
  · have hmono : ∀ (n1 n2 : Nat) (listed : Array Bool) a w, n1 = n2 → wpAny P .any l.toArray (nrm (Fin P k R)) n1 listed a w → wpAny P .any l.toArray (nrm (Fin P k R)) n2 listed a w := fun _ _ _ _ _ e h => e ▸ h
    have hup : ∀ (n1 n2 : Nat) (listed : Array Bool) a w, n1 ≤ n2 → wpAny P .any l.toArray (nrm (Fin P k R)) n1 listed a w → wpAny P .any l.toArray (nrm (Fin P k R)) n2 listed a w := by
      intro n1
      induction n1 with
      | zero =>
        intro n2 listed a w _ hw
        cases n2 with
        | zero => exact hw
        | succ n2 => exact ⟨fun _ => hw.2, fun i hi => by rw [hw.1] at hi; cases hi⟩
      | succ n1 im =>
        intro n2 listed a w hle hw
        obtain ⟨n2, rfl⟩ : ∃ m, n2 = m + 1 := ⟨n2 - 1, by omega⟩
        exact ⟨hw.1, fun i hi => wpOp_mono (fun a w => im n2 _ a w (by omega)) (hw.2 i hi)⟩
    have hle' := Nat.le_of_ble_eq_true hle
    have := hup _ l.toArray.size _ _ _ (by simp; omega) hrun
    simpa using this
  · unfold maskE
    split
    · simp [AV.rel]
    · rename_i hn
      rw [h4 s fun p hp e => hn (List.any_eq_true.2 ⟨p, hp, by rw [e]; exact Nat.beq_refl _⟩)]
      exact AV.rel_keeps g2 _ _ (AV.only_true _) (hE s)
end
end Go.Proofs.Ytnecoghfhcimeaa
/- The draws' start: a cursor is made, and stands first among the frame's objects; calls whose result is known but for a property. Over any program. -/
namespace Go.Proofs.Ytnecoghfhcimeaa
set_option linter.unusedSimpArgs false
set_option linter.unusedVariables false
set_option linter.unusedSectionVars false
open Go.RowKit
open AV (Mem Keeps)
def ANewU (P : Program) (ct : TypeId) (f : FuncId) (b : List UInt8) : Prop :=
  ∀ (w : World) (ok : Nat → Prop) (u : Value), (∀ x, w.heap.size ≤ x → ok x) → RV.rel w ok (bytesR b) u →
    Calls P f #[u] w fun e w' => ∃ g h, e = .returned (.pointer (some ⟨g, 0, none⟩)) ∧ w.heap.size ≤ g ∧ CurAt ct w' g u 0 h ∧ Below w.heap.size w w'
def EndsNU (P : Program) (C : Ctx) (fn : Func) (ct : TypeId) (u : Value) (a : Act) (w : World) : Prop :=
  a.defers = [] ∧ ∃ g h, (results fn a.tmps).run P w = .ok (.pointer (some ⟨g, 0, none⟩)) w ∧ C.w0.heap.size ≤ g ∧ CurAt ct w g u 0 h ∧ Below C.w0.heap.size C.w0 w
theorem startU_sim {ok : Nat → Prop} {b : List UInt8} {args : List RV} {n : Nat} {u : Value} {us : List Value} {w : World} (h0 : ∀ x, w.heap.size ≤ x → ok x) (hu : RV.rel w ok (bytesR b) u) (hus : RV.rels w ok args us) (hl : args.length + 1 ≤ n) :
    Sim ⟨w, ok, fun _ => False, n⟩ ⟨(0, .ro (.c u)) :: startEnv 1 args, []⟩ { tmps := (u :: us).toArray ++ Array.replicate (n - (u :: us).toArray.size) undef, defers := [] } w := by
  have hlen := RV.rels_len args _ hus
  refine ⟨rfl, by simp; omega, fun _ => none, ⟨rfl, fun i j g hi => by simp at hi, fun i o hi => by simp at hi, fun i g hi => by simp at hi, ⟨rfl, rfl, rfl, Nat.le_refl _, fun _ _ _ => rfl, h0⟩⟩, fun t => ?_⟩
  rw [look_put]
  split
  · rename_i e; subst e
    simp only [AV.rel, RV.rel]
    rw [Array.getD_eq_getD_getElem?, Array.getElem?_append_left (by simp)]
    simp
  · rename_i e
    rw [start_look]
    by_cases h1 : 1 ≤ t
    · rw [if_pos h1]
      cases hr : args[t - 1]? with
      | none => simp [AV.rel]
      | some r =>
        obtain ⟨x, e1, e2⟩ := RV.rels_at args _ hus (t - 1) r hr
        have ht : t - 1 < us.length := (List.getElem?_eq_some_iff.1 e1).1
        simp only [AV.rel]
        have : ((u :: us).toArray ++ Array.replicate (n - (u :: us).toArray.size) undef).getD t undef = x := by
          rw [Array.getD_eq_getD_getElem?, Array.getElem?_append_left (by simp; omega)]
          obtain ⟨t', rfl⟩ : ∃ t', t = t' + 1 := ⟨t - 1, by omega⟩
          simp at e1 ⊢
          simp [e1]
        rw [this]
        exact RV.rel_mono ⟨Nat.le_refl _, fun x _ hx => ⟨⟨hx, fun j hj => by simp at hj⟩, rfl⟩⟩ r x e2
    · omega
theorem anewU_enter {P : Program} {ct : TypeId} {f : FuncId} {fn : Func} {c : Code} {b : List UInt8} (hf : P.funcs[f]? = some fn) (hb : fn.body = some c) (n : Nat) (hn : fn.ntmps = n) (hl : 1 ≤ n)
    (h : ∀ (C : Ctx) (u : Value), C.n = n → (∀ x, ¬ C.mu x) → HU C b u → Runs P C [.code c] (EndsNU P C fn ct u) ⟨[(0, .ro (.c u))], []⟩) : ANewU P ct f b := by
  intro w ok u h0 hu
  refine calls_of_fin hf hb ?_
  have hs := startU_sim (args := []) (us := []) (n := n) h0 hu (by simp [RV.rels]) (by simpa using hl)
  have hr := (h ⟨w, ok, fun _ => False, n⟩ u rfl (fun _ h => h) (RV.rel_mono ⟨Nat.le_refl _, fun x _ hx => ⟨⟨hx, id⟩, rfl⟩⟩ _ _ hu)).run _ w (by simpa [startEnv] using hs)
  intro bb cc
  obtain ⟨a', w', todo, ⟨hd, g, hh, hv, q1, q2, q3⟩, hst⟩ := hr bb cc
  exact ⟨a', w', todo, ⟨hd, _, hv, g, hh, rfl, q1, q2, q3⟩, by simpa [hn] using hst⟩
theorem endsNU {P : Program} {C : Ctx} {fn : Func} {ct : TypeId} {u : Value} {S : St} {t j : Nat} {h : Int} (hm : ∀ x, ¬ C.mu x) (hr : fn.results = #[.tmp t]) (h1 : look S.env t = .obj j 0) (h2 : S.σ[j]? = some (curOb ct u 0 h)) : ∀ a w, Sim C S a w → EndsNU P C fn ct u a w := by
  rintro a w ⟨s1, s2, φ, hG, hH⟩
  have hu := hH t
  rw [h1] at hu
  simp only [AV.rel] at hu
  obtain ⟨hj, g, hg, eu⟩ := hu
  have hob := hG.ob j _ h2
  rw [show (⟨w, φ, S.σ, C.ok⟩ : Mem).φ j = some g from hg] at hob
  obtain ⟨us, q1, q2, q3⟩ := hob
  obtain ⟨x0, e0, _, r0⟩ := q3 0 (.ro (.c u)) rfl
  obtain ⟨x1, e1, _, r1⟩ := q3 1 (.int 0) rfl
  obtain ⟨x2, e2, _, r2⟩ := q3 2 (.int h) rfl
  simp only [AV.rel, RV.rel] at r0 r1 r2
  subst r0; subst r1; subst r2
  exact ⟨s1, g, h, by rw [results_eq, hr]; simp [resRun, eu], (hG.mine j g hj hg).resolve_left (hm g), ⟨us, q1, e0, e1, e2⟩, hG.frm.below0 hm⟩
theorem acu_enter {P : Program} {f : FuncId} {fn : Func} {c : Code} {b : List UInt8} {args : List RV} {R : RR → Prop} (hf : P.funcs[f]? = some fn) (hb : fn.body = some c) (n : Nat) (hn : fn.ntmps = n) (hl : args.length + 1 ≤ n)
    (h : ∀ (C : Ctx) (u : Value), C.n = n → (∀ x, ¬ C.mu x) → HU C b u → Runs P C [.code c] (Ends P C fn R) ⟨(0, .ro (.c u)) :: startEnv 1 args, []⟩) : AC P f (bytesR b :: args) R := by
  intro w ok us h0 hu
  simp only [RV.rels] at hu
  obtain ⟨u, us', e, hu1, hu2⟩ := hu
  refine calls_of_fin hf hb ?_
  have hs := startU_sim (n := n) h0 hu1 hu2 hl
  have hr := (h ⟨w, ok, fun _ => False, n⟩ u rfl (fun _ h => h) (RV.rel_mono ⟨Nat.le_refl _, fun x _ hx => ⟨⟨hx, id⟩, rfl⟩⟩ _ _ hu1)).run _ w hs
  intro bb cc
  obtain ⟨a', w', todo, ⟨hd, v, hv, rr, bs, h1, h2, h3, h4, h5⟩, hst⟩ := hr bb cc
  have e' : us = (u :: us').toArray := by rw [← e]
  subst e'
  exact ⟨a', w', todo, ⟨hd, v, hv, v, rr, bs, rfl, h1, h2, h3, h4, h5⟩, by rw [hn]; exact hst⟩
theorem Lends.know {C : Ctx} {σ : List Ob} {b : List UInt8} {u : Value} (hu : HU C b u) : Lends C σ (.ro (.c u)) (bytesR b) := fun m x ok' hG _ h1 _ hx => by
  simp only [AV.rel, RV.rel] at hx
  subst hx
  exact RV.rel_mono ⟨Nat.le_refl _, fun z _ hz => ⟨h1 z hz, rfl⟩⟩ _ _ (hu.ok hG)
def rotR (n i : Nat) : Nat := match Nat.beq i n with
  | true => 0
  | false => i + 1
def renE (r : Nat → Nat) : Env → Env
  | [] => []
  | (t, v) :: e => (t, v.ren r) :: renE r e
theorem look_renE (r : Nat → Nat) : ∀ (e : Env) (t : Nat), look (renE r e) t = (look e t).ren r
  | [], t => by simp [renE, look, AV.ren]
  | (s, v) :: e, t => by
    rw [renE, look_put, look_put]
    split
    · rfl
    · exact look_renE r e t
theorem rotR_eq (n : Nat) : rotR n n = 0 := by unfold rotR; rw [Nat.beq_refl]
theorem rotR_ne {n i : Nat} (h : i ≠ n) : rotR n i = i + 1 := by
  unfold rotR
  cases hb : Nat.beq i n with
  | true => exact absurd (Nat.eq_of_beq_eq_true hb) h
  | false => rfl
section
variable {P : Program} {C : Ctx} {ops : Array Oper} {rest : List Oper} {k : List Item} {R : Act → World → Prop} {env : Env} {σ : List Ob} {t : Nat} {ty : TypeId} {pos : String} {after : Array Edge} {ct : TypeId} {b : List UInt8} {u : Value}
theorem sim_rot {o : Ob} {a : Act} {w : World} (hs : Sim C ⟨env, σ ++ [o]⟩ a w) : Sim C ⟨renE (rotR σ.length) env, (o :: σ).map (Ob.ren (rotR σ.length))⟩ a w := by
  obtain ⟨s1, s2, φ, hG, hH⟩ := hs
  let φ' : Nat → Option Nat := fun i => match i with
    | 0 => φ σ.length
    | i + 1 => φ i
  have hφ : ∀ i, i < σ.length + 1 → φ' (rotR σ.length i) = φ i := fun i hi => by
    by_cases e : i = σ.length
    · subst e; rw [rotR_eq]
    · rw [rotR_ne e]
  have hlen : ((o :: σ).map (Ob.ren (rotR σ.length))).length = σ.length + 1 := by simp
  have hat : ∀ (i : Nat) (x : Ob), (σ ++ [o])[i]? = some x → ((o :: σ).map (Ob.ren (rotR σ.length)))[rotR σ.length i]? = some (x.ren (rotR σ.length)) := fun i x hi => by
    have hil : i < σ.length + 1 := by have := (List.getElem?_eq_some_iff.1 hi).1; simpa using this
    rw [List.getElem?_map]
    by_cases e : i = σ.length
    · subst e
      rw [rotR_eq]
      simp at hi ⊢
      rw [hi]
    · rw [rotR_ne e, List.getElem?_cons_succ]
      rw [List.getElem?_append_left (by omega)] at hi
      rw [hi]; rfl
  have hinv : ∀ j, j < σ.length + 1 → ∃ i, i < σ.length + 1 ∧ rotR σ.length i = j := fun j hj => by
    cases j with
    | zero => exact ⟨σ.length, by omega, rotR_eq _⟩
    | succ j => exact ⟨j, by omega, rotR_ne (by omega)⟩
  have hrinj : ∀ i j, i < σ.length + 1 → j < σ.length + 1 → rotR σ.length i = rotR σ.length j → i = j := fun i j hi hj e => by
    by_cases e1 : i = σ.length <;> by_cases e2 : j = σ.length
    · omega
    · subst e1; rw [rotR_eq, rotR_ne e2] at e; omega
    · subst e2; rw [rotR_eq, rotR_ne e1] at e; omega
    · rw [rotR_ne e1, rotR_ne e2] at e; omega
  have key : ∀ v x, AV.rel ⟨w, φ, σ ++ [o], C.ok⟩ v x → AV.rel ⟨w, φ', (o :: σ).map (Ob.ren (rotR σ.length)), C.ok⟩ (v.ren (rotR σ.length)) x :=
    rel_ren (m := ⟨w, φ, σ ++ [o], C.ok⟩) (m' := ⟨w, φ', (o :: σ).map (Ob.ren (rotR σ.length)), C.ok⟩) (n := σ.length + 1) rfl (fun x hx => ⟨hx.1, fun j hj e => by
      simp only [hlen] at hj
      obtain ⟨i, hi, rfl⟩ := hinv j hj
      exact hx.2 i (by simpa using hi) ((hφ i hi).symm.trans e)⟩) (fun i hi => hφ i hi) (fun i hi => by
      simp only [hlen]
      by_cases e : i = σ.length
      · subst e; rw [rotR_eq]; omega
      · rw [rotR_ne e]; omega) (by simp) (fun i x hx => ⟨AV.rens (rotR σ.length) x.cs, hat i x hx, rens_len _ _⟩)
  refine ⟨s1, s2, φ', ⟨rfl, fun i j g hi hj e1 e2 => ?_, fun j x hj => ?_, fun j g hj hg => ?_, hG.frm⟩, fun s => by rw [show look (⟨renE _ env, _⟩ : St).env s = _ from look_renE _ _ _]; exact key _ _ (hH s)⟩
  · simp only [hlen] at hi hj
    obtain ⟨i', hi', rfl⟩ := hinv i hi
    obtain ⟨j', hj', rfl⟩ := hinv j hj
    rw [hG.inj i' j' g (by simpa using hi') (by simpa using hj') ((hφ i' hi').symm.trans e1) ((hφ j' hj').symm.trans e2)]
  · have hjl : j < σ.length + 1 := by have := (List.getElem?_eq_some_iff.1 hj).1; rwa [hlen] at this
    obtain ⟨i, hi, rfl⟩ := hinv j hjl
    obtain ⟨oo, hx⟩ : ∃ oo, (σ ++ [o])[i]? = some oo := ⟨_, List.getElem?_eq_getElem (by simpa using hi)⟩
    simp only at hj
    rw [hat i _ hx] at hj
    injection hj with hj; subst hj
    have h0 := hG.ob i _ hx
    show ObRel _ _ (φ' (rotR σ.length i))
    rw [hφ i hi]
    simp only at h0
    cases hg : φ i with
    | none => rw [hg] at h0; simp only [ObRel, Ob.ren] at h0 ⊢; rw [h0]; rfl
    | some g =>
      rw [hg] at h0
      obtain ⟨us, q1, q2, q3⟩ := h0
      refine ⟨us, q1, by simp only [Ob.ren, rens_len]; exact q2, fun p v hp => ?_⟩
      simp only [Ob.ren, rens_at] at hp
      obtain ⟨v0, hv0, rfl⟩ := Option.map_eq_some_iff.1 hp
      obtain ⟨y, k1, k2, k3⟩ := q3 p v0 hv0
      exact ⟨y, k1, k2, key v0 y k3⟩
  · simp only [hlen] at hj
    obtain ⟨i, hi, rfl⟩ := hinv j hj
    exact hG.mine i g (by simpa using hi) ((hφ i hi).symm.trans hg)
theorem op_newU {f : FuncId} {fn : Func} {x : Operand} {ats : Array TypeId} [hfn : FN P f fn] (hf : ANewU P ct f b) (hx : ev env x = .ro (.c u)) (hu : HU C b u) (ht : t < C.n)
    (hk : ∀ h : Int, CurOk b 0 → RunsL P C ops rest k R ⟨renE (rotR σ.length) ((t, .obj σ.length 0) :: env), (curOb ct u 0 h :: σ).map (Ob.ren (rotR σ.length))⟩) :
    RunsL P C ops (⟨some t, .call { callee := .value (.func f), args := #[x], argTypes := ats }, ty, pos, after, none⟩ :: rest) k R ⟨env, σ⟩ := by
  refine ⟨fun a w ⟨s1, s2, φ, hG, hH⟩ => ?_⟩
  refine wpList_plain rfl fun K hK' => ?_
  have hxx := ev_c (ev_rel hH x) hx
  unfold Oper.wp
  rw [execOp_call_go, run_call hfn]
  simp only [Oper.upon]
  have e0 : (#[x].map a.eval) = #[u] := by simp [hxx]
  rw [e0]
  simp only [Array.empty_append, Array.append_empty]
  refine (hf w (AV.Mem.ok ⟨w, φ, σ, C.ok⟩) u (ok_args hG) (hu.ok hG)).mono ?_
  rintro ee w' ⟨g, h, rfl, h1, ⟨us, q0, q1, q2, q3⟩, h5⟩
  obtain ⟨g1, g2⟩ := good_grow (φ' := upd φ σ.length (some g)) (new := [curOb ct u 0 h]) hG h5 (fun i hi => upd_ne (show i ≠ σ.length from Nat.ne_of_lt hi)) (fun j hj b hb => by
      simp at hj; subst hj; simp [upd_eq] at hb; subst hb; exact h1) (fun i j b hi hj _ _ => by simp at hi hj; omega) (fun j o hj => by
      cases j with
      | succ j => simp at hj
      | zero =>
        simp at hj; subst hj
        simp only [Nat.add_zero, upd_eq, ObRel]
        refine ⟨us, q0, ?_, fun p v hp => ?_⟩
        · have := (Array.getElem?_eq_some_iff.1 q3).1
          simp [curOb]; omega
        · simp only [curOb] at hp
          match p, hp with
          | 0, hp => simp at hp; subst hp; exact ⟨u, q1, hu.one, by simp [AV.rel, RV.rel]⟩
          | 1, hp => simp at hp; subst hp; exact ⟨_, q2, rfl, by simp [AV.rel, RV.rel]⟩
          | 2, hp => simp at hp; subst hp; exact ⟨_, q3, rfl, by simp [AV.rel, RV.rel]⟩
          | p + 3, hp => simp at hp)
  refine hK' _ _ ((hk h ⟨Int.le_refl _, by omega⟩).run _ _ (sim_rot (o := curOb ct u 0 h) ⟨s1, by simp [Act.put, s2], _, g1, (hH.keeps g2).put (by rw [s2]; exact ht) ?_⟩))
  simp only [AV.rel]
  exact ⟨by simp, g, upd_eq, rfl⟩
theorem op_callQ {f : FuncId} {fn : Func} {xs : Array Operand} {ats : Array TypeId} {args : List RV} {Rr : RR → Prop} {Q : RV → Prop} [hfn : FN P f fn] (hf : AC P f args Rr) (hs : ∀ rr, Rr rr → ∃ r, Seals rr r ∧ Q r) (ha : xs.toList.map (ev env) = args.map .ro) (ht : t < C.n)
    (hk : ∀ r, Q r → RunsL P C ops rest k R ⟨(t, .ro r) :: env, σ⟩) :
    RunsL P C ops (⟨some t, .call { callee := .value (.func f), args := xs, argTypes := ats }, ty, pos, after, none⟩ :: rest) k R ⟨env, σ⟩ := by
  refine ⟨fun a w ⟨s1, s2, φ, hG, hH⟩ => ?_⟩
  refine wpList_plain rfl fun K hK' => ?_
  have hr := FitsL.rels (ha ▸ FitsL.ros args) _ (rels_eval (a := a) (m := ⟨w, φ, σ, C.ok⟩) xs.toList fun x hx => ev_rel hH x)
  unfold Oper.wp
  rw [execOp_call_go, run_call hfn]
  simp only [Oper.upon]
  refine (hf w _ _ (ok_args hG) (by simpa using hr)).mono ?_
  rintro e w' ⟨v, rr, bs, rfl, hR, h1, _, h3, h4⟩
  obtain ⟨r, hs', hQ⟩ := hs rr hR
  obtain ⟨g1, g2⟩ := good_below hG h4
  refine hK' _ _ ((hk r hQ).run _ _ ⟨s1, by simp [Act.put, s2], φ, g1, (hH.keeps g2).put (by rw [s2]; exact ht) ?_⟩)
  simp only [AV.rel]
  refine seals_rel (ok := fun x => AV.Mem.ok ⟨w, φ, σ, C.ok⟩ x ∧ x ∉ bs) (fun x hx => hx.1) rr r v bs hs' h1 fun x hx => ok_args hG x (h3 x hx).1
end
end Go.Proofs.Ytnecoghfhcimeaa
/- FnTags, but for its draw. -/
namespace Go.Proofs.Ytnecoghfhcimeaa
set_option linter.unusedSimpArgs false
set_option linter.unusedVariables false
set_option linter.unusedSectionVars false
open Go.RowKit
open AV (Mem Keeps)
def QTag (rr : RR) : Prop := ∃ (d : Des) (r k : Int), rr = .tup [.agg [.ro (rulsR d)], .ro (.int r), .ro (.int k)] ∧ DesOk d ∧ dtotal d ≤ 1048576 ∧ I64 r ∧ I64 k
theorem qtag_ok : ∀ rr, QTag rr → ∃ r', Seals rr r' ∧ ∃ (d : Des) (r k : Int), r' = .tup [desR d, .int r, .int k] ∧ DesOk d ∧ dtotal d ≤ 1048576 ∧ I64 r ∧ I64 k := by
  rintro _ ⟨d, r, k, rfl, h⟩
  refine ⟨.tup [desR d, .int r, .int k], ?_, d, r, k, rfl, h⟩
  simp only [Seals, SealsL, desR]
  exact ⟨_, rfl, _, _, rfl, ⟨_, rfl, _, _, rfl, rfl, rfl⟩, _, _, rfl, rfl, _, _, rfl, rfl, rfl⟩
set_option maxRecDepth 100000 in
set_option maxHeartbeats 16000000 in
theorem tags_law (code : List UInt8) (hdr : code.length ≤ 1048576 → AC Try.prog 25 [bytesR code] QTag) : ACv Try.prog 5 [bytesR code] (.bool true) := by
  have hB := big_ac code
  refine ac_enter Try.func5 rfl _ Try.ntmps5 (by simp) fun C hn hm => ?_
  by_cases hbig : (1048576 : Int) < code.length
  · repeat' (first
 | refine RunsL.step tabOk hn rfl ?_
 | refine RunsL.nil ?_
 | refine Runs.toRegion 30 rfl ?_
 | ((first | refine RunsL.pe hn rfl rfl rfl ?_ | refine RunsD.pe rfl rfl ?_); first
 | refine ⟨_, pu_callR hB rfl, ?_⟩)
 | (refine Runs.ctls 30 rfl ?_; first | refine Runs.cond_t rfl ?_ | refine Runs.cond_f rfl ?_ | (refine Runs.cond_yes rfl ?_ ?_; · first | omega | rfl | assumption | (simp only [List.length_map]; omega)) | (refine Runs.cond_no rfl ?_ ?_; · first | omega | rfl | assumption | (simp only [List.length_map]; omega)) | refine Runs.ret (ends_ro hm rfl rfl ?_) | exact Runs.ret (ends_cellR hm rfl rfl rfl (Nat.le_of_ble_eq_true rfl) rfl rfl))
 | refine op_alloc (tl hn rfl) ?_
 | refine op_storeN rfl rfl rfl rfl (Nat.le_of_ble_eq_true rfl) ?_
 | refine RunsD.step tabOk hn rfl rfl ?_
 | refine RunsD.nil ?_
 | refine Runs.toDraw 30 mixed hn rfl (by kernel_rfl) rfl ?_
 | ((first | refine RunsL.pe hn rfl rfl rfl ?_ | refine RunsD.pe rfl rfl ?_); first
 | refine ⟨_, pu_add rfl rfl (by omega), ?_⟩
 | refine ⟨_, pu_indexAddr_map rfl rfl (by omega) (by assumption), ?_⟩)
 | (refine RunsL.guard_ndec rfl rfl rfl ?_ ?_ <;> intro h <;> try (exfalso; first | omega | contradiction | (simp only [List.length_map] at h; omega))))
    all_goals exact rr_bool rfl
  have hl : code.length ≤ 1048576 := by omega
  repeat' (first
 | (refine op_callQ (hdr hl) qtag_ok rfl (tl hn rfl) ?_; rintro _ ⟨d, r, k, rfl, ho, hdt, hr, hk⟩)
 | refine RunsL.step tabOk hn rfl ?_
 | refine RunsL.nil ?_
 | refine Runs.toRegion 30 rfl ?_
 | ((first | refine RunsL.pe hn rfl rfl rfl ?_ | refine RunsD.pe rfl rfl ?_); first
 | refine ⟨_, pu_callR hB rfl, ?_⟩)
 | (refine Runs.ctls 30 rfl ?_; first | refine Runs.cond_t rfl ?_ | refine Runs.cond_f rfl ?_ | (refine Runs.cond_yes rfl ?_ ?_; · first | omega | rfl | assumption | (simp only [List.length_map]; omega)) | (refine Runs.cond_no rfl ?_ ?_; · first | omega | rfl | assumption | (simp only [List.length_map]; omega)) | refine Runs.ret (ends_ro hm rfl rfl ?_) | exact Runs.ret (ends_cellR hm rfl rfl rfl (Nat.le_of_ble_eq_true rfl) rfl rfl))
 | refine op_alloc (tl hn rfl) ?_
 | refine op_storeN rfl rfl rfl rfl (Nat.le_of_ble_eq_true rfl) ?_
 | refine RunsD.step tabOk hn rfl rfl ?_
 | refine RunsD.nil ?_
 | refine Runs.toDraw 30 mixed hn rfl (by kernel_rfl) rfl ?_
 | ((first | refine RunsL.pe hn rfl rfl rfl ?_ | refine RunsD.pe rfl rfl ?_); first
 | refine ⟨_, pu_add rfl rfl (by omega), ?_⟩
 | refine ⟨_, pu_indexAddr_map rfl rfl (by omega) (by assumption), ?_⟩)
 | (refine RunsL.guard_ndec rfl rfl rfl ?_ ?_ <;> intro h <;> try (exfalso; first | omega | contradiction | (simp only [List.length_map] at h; omega))))
  have hI : ∀ j, ACv Try.prog 26 [desR d, .int r, .int j] (bytesR (tagB d r j)) := fun j => (impl_TagBytes d ho hdt r j).shut (by rintro _ rfl; have h := seals_row1 5 ((tagB d r j).map RV.u8); rwa [List.map_map] at h)
  have hS : ACv Try.prog 28 [desR d, .int r, .int k] (bytesR (tagB d r k)) := (spec_TagBytes d ho hdt r k).shut (by rintro _ rfl; have h := seals_row1 5 ((tagB d r k).map RV.u8); rwa [List.map_map] at h)
  have hIk := hI k
  have hsame := sameBytes_ac (tagB d r k) (by have := tagB_len d r k; omega)
  by_cases hT : HasTag d r k
  · obtain ⟨n, x, y, t, rfl, hx, h7, k0, k1, hkl, hk0, hy, hta, hb, hpos, hrd, hcan, hne⟩ := tag_facts hT
    rw [hb] at hIk hS hsame
    generalize hB' : encI y t = bb at *
    have hbl : (bb.map fun z => [RV.u8 z]).length = bb.length := List.length_map ..
    have hlm : (d.map rulR).length = d.length := List.length_map ..
    have htl : (x.tags.map fun z => [RV.int z]).length = x.tags.length := List.length_map ..
    have hx' : d[(n : Int).toNat]? = some x := hx
    have htb : x.tags.length ≤ 1048576 := by
      have h1 := sum_mem_le Rul.total (List.mem_of_getElem? hx)
      have h2 : dtotal d = d.length + (d.map Rul.total).sum := rfl
      have h3 : x.total = x.name.size + x.bytes.length + (x.names.length + (x.names.map ByteArray.size).sum) + x.tags.length + x.kids.length := rfl
      omega
    repeat' (first
 | refine RunsL.step tabOk hn rfl ?_
 | refine RunsL.nil ?_
 | refine Runs.toRegion 30 rfl ?_
 | ((first | refine RunsL.pe hn rfl rfl rfl ?_ | refine RunsD.pe rfl rfl ?_); first
 | refine ⟨_, pu_callR hIk rfl, ?_⟩
 | refine ⟨_, pu_callR hS rfl, ?_⟩
 | refine ⟨_, pu_callR hsame rfl, ?_⟩)
 | (refine Runs.ctls 30 rfl ?_; first | refine Runs.cond_t rfl ?_ | refine Runs.cond_f rfl ?_ | (refine Runs.cond_yes rfl ?_ ?_; · first | omega | rfl | assumption | (simp only [List.length_map]; omega)) | (refine Runs.cond_no rfl ?_ ?_; · first | omega | rfl | assumption | (simp only [List.length_map]; omega)) | refine Runs.ret (ends_ro hm rfl rfl ?_) | exact Runs.ret (ends_cellR hm rfl rfl rfl (Nat.le_of_ble_eq_true rfl) rfl rfl))
 | refine op_alloc (tl hn rfl) ?_
 | refine op_storeN rfl rfl rfl rfl (Nat.le_of_ble_eq_true rfl) ?_
 | refine RunsD.step tabOk hn rfl rfl ?_
 | refine RunsD.nil ?_
 | refine Runs.toDraw 30 mixed hn rfl (by kernel_rfl) rfl ?_
 | ((first | refine RunsL.pe hn rfl rfl rfl ?_ | refine RunsD.pe rfl rfl ?_); first
 | refine ⟨_, pu_add rfl rfl (by omega), ?_⟩
 | refine ⟨_, pu_indexAddr_map rfl rfl (by omega) (by assumption), ?_⟩)
 | (refine RunsL.guard_ndec rfl rfl rfl ?_ ?_ <;> intro h <;> try (exfalso; first | omega | contradiction | (simp only [List.length_map] at h; omega))))
    refine Runs.loopN 30 rfl (fun j => [(3, .obj 0 0), (4, .int (n : Int)), (5, .int k), (6, .ro (bytesR bb)), (7, .int (j : Int))]) (fun _ => [⟨38, 0, [.ro (rulsR d)]⟩]) (fun _ => True) x.tags.length 0 (Nat.zero_le _) trivial ⟨rfl, rfl, rfl, rfl, rfl, trivial⟩ rfl fun j hj _ next => ?_
    by_cases hlt : j < x.tags.length
    · by_cases hjk : (j : Int) = k
      · subst hjk
        repeat' (first
 | ((first | refine RunsL.pe hn rfl rfl rfl ?_ | refine RunsD.pe rfl rfl ?_); first
 | refine ⟨_, pu_len_seqN x.tags.length rfl htl, ?_⟩)
 | refine RunsL.step tabOk hn rfl ?_
 | refine RunsL.nil ?_
 | refine Runs.toRegion 30 rfl ?_
 | (refine Runs.ctls 30 rfl ?_; first | refine Runs.cond_t rfl ?_ | refine Runs.cond_f rfl ?_ | (refine Runs.cond_yes rfl ?_ ?_; · first | omega | rfl | assumption | (simp only [List.length_map]; omega)) | (refine Runs.cond_no rfl ?_ ?_; · first | omega | rfl | assumption | (simp only [List.length_map]; omega)) | refine Runs.ret (ends_ro hm rfl rfl ?_) | exact Runs.ret (ends_cellR hm rfl rfl rfl (Nat.le_of_ble_eq_true rfl) rfl rfl))
 | refine op_alloc (tl hn rfl) ?_
 | refine op_storeN rfl rfl rfl rfl (Nat.le_of_ble_eq_true rfl) ?_
 | refine RunsD.step tabOk hn rfl rfl ?_
 | refine RunsD.nil ?_
 | refine Runs.toDraw 30 mixed hn rfl (by kernel_rfl) rfl ?_
 | ((first | refine RunsL.pe hn rfl rfl rfl ?_ | refine RunsD.pe rfl rfl ?_); first
 | refine ⟨_, pu_add rfl rfl (by omega), ?_⟩
 | refine ⟨_, pu_indexAddr_map rfl rfl (by omega) (by assumption), ?_⟩)
 | (refine RunsL.guard_ndec rfl rfl rfl ?_ ?_ <;> intro h <;> try (exfalso; first | omega | contradiction | (simp only [List.length_map] at h; omega))))
        all_goals first
          | exact next _ _ ⟨rfl, rfl, rfl, rfl, rfl, trivial⟩ hlt trivial rfl
          | (exfalso; omega)
      · have hIj := hI (j : Int)
        have hs2 := sameBytes2_ac (tagB d n j) bb (by have := tagB_len d n j; omega)
        rw [decide_eq_false (hne j hlt hjk)] at hs2
        repeat' (first
 | ((first | refine RunsL.pe hn rfl rfl rfl ?_ | refine RunsD.pe rfl rfl ?_); first
 | refine ⟨_, pu_len_seqN x.tags.length rfl htl, ?_⟩)
 | refine RunsL.step tabOk hn rfl ?_
 | refine RunsL.nil ?_
 | refine Runs.toRegion 30 rfl ?_
 | ((first | refine RunsL.pe hn rfl rfl rfl ?_ | refine RunsD.pe rfl rfl ?_); first
 | refine ⟨_, pu_callR hIj rfl, ?_⟩
 | refine ⟨_, pu_callR hs2 rfl, ?_⟩)
 | (refine Runs.ctls 30 rfl ?_; first | refine Runs.cond_t rfl ?_ | refine Runs.cond_f rfl ?_ | (refine Runs.cond_yes rfl ?_ ?_; · first | omega | rfl | assumption | (simp only [List.length_map]; omega)) | (refine Runs.cond_no rfl ?_ ?_; · first | omega | rfl | assumption | (simp only [List.length_map]; omega)) | refine Runs.ret (ends_ro hm rfl rfl ?_) | exact Runs.ret (ends_cellR hm rfl rfl rfl (Nat.le_of_ble_eq_true rfl) rfl rfl))
 | refine op_alloc (tl hn rfl) ?_
 | refine op_storeN rfl rfl rfl rfl (Nat.le_of_ble_eq_true rfl) ?_
 | refine RunsD.step tabOk hn rfl rfl ?_
 | refine RunsD.nil ?_
 | refine Runs.toDraw 30 mixed hn rfl (by kernel_rfl) rfl ?_
 | ((first | refine RunsL.pe hn rfl rfl rfl ?_ | refine RunsD.pe rfl rfl ?_); first
 | refine ⟨_, pu_add rfl rfl (by omega), ?_⟩
 | refine ⟨_, pu_indexAddr_map rfl rfl (by omega) (by assumption), ?_⟩)
 | (refine RunsL.guard_ndec rfl rfl rfl ?_ ?_ <;> intro h <;> try (exfalso; first | omega | contradiction | (simp only [List.length_map] at h; omega))))
        all_goals first
          | exact next _ _ ⟨rfl, rfl, rfl, rfl, rfl, trivial⟩ hlt trivial rfl
          | (exfalso; omega)
    · obtain rfl : j = x.tags.length := by omega
      have hb0 : bb[(0 : Int).toNat]? = some (bb.headD 0) := by
        cases hbb : bb with
        | nil => rw [hbb] at hpos; simp at hpos
        | cons c l => rfl
      have hk0' : x.kids[(0 : Int).toNat]? = some (x.kids.headD 0) := head_get hkl
      have hkl' : (x.kids.map fun z => [RV.int z]).length = x.kids.length := List.length_map ..
      have hyl := (List.getElem?_eq_some_iff.1 hy).1
      have hc8 := (bb.headD 0).toNat_lt
      have hC := impl_CanStart d ho hdt n ((bb.headD 0).toNat : Int)
      rw [hcan] at hC
      have hbb4 : bb.length ≤ 4 := by rw [← hB']; exact encI_len y t
      have hR := readIntegerT_ac y.little bb hbb4
      rw [hrd] at hR
      generalize x.kids.headD 0 = kz at *
      repeat' (first
 | ((first | refine RunsL.pe hn rfl rfl rfl ?_ | refine RunsD.pe rfl rfl ?_); first
 | refine ⟨_, pu_len_seqN x.tags.length rfl htl, ?_⟩)
 | refine RunsL.step tabOk hn rfl ?_
 | refine RunsL.nil ?_
 | refine Runs.toRegion 30 rfl ?_
 | ((first | refine RunsL.pe hn rfl rfl rfl ?_ | refine RunsD.pe rfl rfl ?_); first
 | refine ⟨_, pu_ofU8 rfl, ?_⟩
 | refine ⟨_, pu_callR hC rfl, ?_⟩
 | refine ⟨_, pu_callR hR rfl, ?_⟩)
 | (refine Runs.ctls 30 rfl ?_; first | refine Runs.cond_t rfl ?_ | refine Runs.cond_f rfl ?_ | (refine Runs.cond_yes rfl ?_ ?_; · first | omega | rfl | assumption | (simp only [List.length_map]; omega)) | (refine Runs.cond_no rfl ?_ ?_; · first | omega | rfl | assumption | (simp only [List.length_map]; omega)) | refine Runs.ret (ends_ro hm rfl rfl ?_) | exact Runs.ret (ends_cellR hm rfl rfl rfl (Nat.le_of_ble_eq_true rfl) rfl rfl))
 | refine op_alloc (tl hn rfl) ?_
 | refine op_storeN rfl rfl rfl rfl (Nat.le_of_ble_eq_true rfl) ?_
 | refine RunsD.step tabOk hn rfl rfl ?_
 | refine RunsD.nil ?_
 | refine Runs.toDraw 30 mixed hn rfl (by kernel_rfl) rfl ?_
 | ((first | refine RunsL.pe hn rfl rfl rfl ?_ | refine RunsD.pe rfl rfl ?_); first
 | refine ⟨_, pu_add rfl rfl (by omega), ?_⟩
 | refine ⟨_, pu_indexAddr_map rfl rfl (by omega) (by assumption), ?_⟩)
 | (refine RunsL.guard_ndec rfl rfl rfl ?_ ?_ <;> intro h <;> try (exfalso; first | omega | contradiction | (simp only [List.length_map] at h; omega))))
      exact rr_bool (decide_eq_true rfl)
  · rw [tagB_no hT] at hIk hS hsame
    repeat' (first
 | refine RunsL.step tabOk hn rfl ?_
 | refine RunsL.nil ?_
 | refine Runs.toRegion 30 rfl ?_
 | ((first | refine RunsL.pe hn rfl rfl rfl ?_ | refine RunsD.pe rfl rfl ?_); first
 | refine ⟨_, pu_callR hIk rfl, ?_⟩
 | refine ⟨_, pu_callR hS rfl, ?_⟩
 | refine ⟨_, pu_callR hsame rfl, ?_⟩)
 | (refine Runs.ctls 30 rfl ?_; first | refine Runs.cond_t rfl ?_ | refine Runs.cond_f rfl ?_ | (refine Runs.cond_yes rfl ?_ ?_; · first | omega | rfl | assumption | (simp only [List.length_map]; omega)) | (refine Runs.cond_no rfl ?_ ?_; · first | omega | rfl | assumption | (simp only [List.length_map]; omega)) | refine Runs.ret (ends_ro hm rfl rfl ?_) | exact Runs.ret (ends_cellR hm rfl rfl rfl (Nat.le_of_ble_eq_true rfl) rfl rfl))
 | refine op_alloc (tl hn rfl) ?_
 | refine op_storeN rfl rfl rfl rfl (Nat.le_of_ble_eq_true rfl) ?_
 | refine RunsD.step tabOk hn rfl rfl ?_
 | refine RunsD.nil ?_
 | refine Runs.toDraw 30 mixed hn rfl (by kernel_rfl) rfl ?_
 | ((first | refine RunsL.pe hn rfl rfl rfl ?_ | refine RunsD.pe rfl rfl ?_); first
 | refine ⟨_, pu_add rfl rfl (by omega), ?_⟩
 | refine ⟨_, pu_indexAddr_map rfl rfl (by omega) (by assumption), ?_⟩)
 | (refine RunsL.guard_ndec rfl rfl rfl ?_ ?_ <;> intro h <;> try (exfalso; first | omega | contradiction | (simp only [List.length_map] at h; omega))))
    all_goals exact rr_bool rfl
end Go.Proofs.Ytnecoghfhcimeaa
/- Struct literals. Over any program. -/
namespace Go.Proofs.Ytnecoghfhcimeaa
set_option linter.unusedSimpArgs false
set_option linter.unusedVariables false
set_option linter.unusedSectionVars false
open Go.RowKit
open AV (Mem Keeps)
class TB (P : Program) (t : TypeId) (pl : outParam (List (Nat × Nat))) (zs : outParam (List Value)) : Prop where
  h : ∃ it fields z, P.info? t = some it ∧ P.underlying t = some (.struct fields) ∧ it.zero = some z ∧ z.cells = zs.toArray ∧ fields.toList.mapM (fun f => (P.info? f.type).map fun i => (f.offset, i.size)) = some pl ∧ ∀ x ∈ zs, x.oneCell' = true
def fillA (pl : List (Nat × Nat)) (env : Env) : List AV → List (Nat × Operand) → Option (List AV)
  | cells, [] => some cells
  | cells, (i, x) :: l => match pl[i]? with
    | some (off, size) => match cells? (ev env x) with
      | some cs => match Nat.beq cs.length size, Nat.ble (off + size) cells.length with
        | true, true => fillA pl env (setsAt cells off cs) l
        | _, _ => none
      | none => none
    | none => none
def aggOf (vs : List AV) : AV := match allRo vs with
  | some rs => .ro (.agg rs)
  | none => .agg vs
theorem sets_array {m : Mem} : ∀ (us : List Value) (k : Nat) (cells : Array Value) (off : Nat) (cs vs : List AV), us.length = cs.length → (∀ (j : Nat) x, cs[j]? = some x → ∃ y, us[j]? = some y ∧ y.oneCell' = true ∧ AV.rel m x y) →
    off + k + cs.length ≤ vs.length → cells.size = vs.length → (∀ (j : Nat) x, vs[j]? = some x → ∃ y, cells[j]? = some y ∧ y.oneCell' = true ∧ AV.rel m x y) →
    ((us.zipIdx k).foldl (fun cs (c, j) => cs.setIfInBounds (off + j) c) cells).size = vs.length ∧ ∀ (j : Nat) x, (setsAt vs (off + k) cs)[j]? = some x → ∃ y, ((us.zipIdx k).foldl (fun cs (c, j) => cs.setIfInBounds (off + j) c) cells)[j]? = some y ∧ y.oneCell' = true ∧ AV.rel m x y
  | [], k, cells, off, cs, vs, hl, hc, hle, hs, hv => by
    have : cs = [] := List.eq_nil_of_length_eq_zero (by simpa using hl.symm)
    subst this
    exact ⟨hs, hv⟩
  | u :: us, k, cells, off, [], vs, hl, hc, hle, hs, hv => by simp at hl
  | u :: us, k, cells, off, c :: cs, vs, hl, hc, hle, hs, hv => by
    simp only [List.length_cons] at hl hle
    rw [List.zipIdx_cons, List.foldl_cons, setsAt]
    have := sets_array us (k + 1) (cells.setIfInBounds (off + k) u) off cs (vs.set (off + k) c) (by omega) (fun j x hj => hc (j + 1) x (by simpa using hj)) (by simp; omega) (by simpa using hs) (fun j x hj => by
      rw [List.getElem?_set] at hj
      split at hj
      · rename_i e
        subst e
        split at hj
        · injection hj with hj; subst hj
          obtain ⟨y, e1, e2, e3⟩ := hc 0 c (by simp)
          simp only [List.getElem?_cons_zero, Option.some.injEq] at e1
          subst e1
          exact ⟨u, Array.getElem?_setIfInBounds_self_of_lt (by omega), e2, e3⟩
        · cases hj
      · rename_i e
        obtain ⟨y, e1, e2, e3⟩ := hv j x hj
        exact ⟨y, by rw [Array.getElem?_setIfInBounds_ne e]; exact e1, e2, e3⟩)
    rw [List.length_set] at this
    rwa [show off + (k + 1) = off + k + 1 by omega] at this
theorem fillA_ok {m : Mem} {env : Env} {a : Act} {pl : List (Nat × Nat)} : ∀ (l : List (Nat × Operand)) (vs vs' : List AV) (cells : Array Value), (∀ p ∈ l, AV.rel m (ev env p.2) (a.eval p.2)) → cells.size = vs.length → (∀ (j : Nat) x, vs[j]? = some x → ∃ y, cells[j]? = some y ∧ y.oneCell' = true ∧ AV.rel m x y) →
    fillA pl env vs l = some vs' → ∃ cells', Instr.fill (pl.toArray[·]?) cells (l.map fun p => (p.1, a.eval p.2)) = some cells' ∧ cells'.size = vs'.length ∧ ∀ (j : Nat) x, vs'[j]? = some x → ∃ y, cells'[j]? = some y ∧ y.oneCell' = true ∧ AV.rel m x y
  | [], vs, vs', cells, _, hs, hv, h => by
    simp only [fillA, Option.some.injEq] at h
    subst h
    exact ⟨cells, rfl, hs, hv⟩
  | (i, x) :: l, vs, vs', cells, hH, hs, hv, h => by
    unfold fillA at h
    split at h
    · rename_i off size hp
      split at h
      · rename_i cs hc
        split at h
        · rename_i hb1 hb2
          have e1 := Nat.eq_of_beq_eq_true hb1
          have e2 := Nat.le_of_ble_eq_true hb2
          obtain ⟨c1, c2⟩ := cells_rel (hH (i, x) (by simp)) hc
          obtain ⟨k1, k2⟩ := sets_array (m := m) (a.eval x).cells.toList 0 cells off cs vs (by simpa using c1) (fun j y hj => by simpa using c2 j y hj) (by omega) hs hv
          rw [Nat.add_zero] at k2
          obtain ⟨cells', q1, q2⟩ := fillA_ok l _ vs' _ (fun p hp => hH p (by simp [hp])) (by rw [setsAt_len]; exact k1) k2 h
          refine ⟨cells', ?_, q2⟩
          simp only [List.map_cons, Instr.fill]
          have : pl.toArray[i]? = some (off, size) := by simpa using hp
          rw [this]
          simp only
          have c1' : (a.eval x).cells.size = cs.length := c1
          rw [if_neg (by rw [c1']; simp; omega), ← q1]
          congr 1
          rw [← Array.foldl_toList, Array.toList_zipIdx]
        · cases h
      · cases h
    · cases h
section
variable {P : Program} {C : Ctx} {env : Env} {σ : List Ob} {t : Nat} {ty : TypeId} {pos : String} {after : Array Edge} {gd : Option (Nat × Bool)}
theorem pu_buildS {tt : TypeId} {parts : Array (Nat × Operand)} {pl : List (Nat × Nat)} {zs : List Value} {vs : List AV} [hb : TB P tt pl zs] (h : fillA pl env (zs.map fun v => .ro (.c v)) parts.toList = some vs) :
    Pur P C ⟨some t, .build tt parts, ty, pos, after, gd⟩ env σ (aggOf vs) :=
  Pur.of (fun a m hG hσ hH => by
    obtain ⟨it, fields, z, h1, h2, h3, h4, h5, h6⟩ := hb.h
    obtain ⟨cells', q1, q2, q3⟩ := fillA_ok (m := m) (a := a) parts.toList _ vs zs.toArray (fun p hp => hH p.2 (by simp [Op.operands]; exact ⟨p.1, by simpa using hp⟩)) (by simp) (fun j x hj => by
      rw [List.getElem?_map, Option.map_eq_some_iff] at hj
      obtain ⟨y, hy, rfl⟩ := hj
      exact ⟨y, by simpa using hy, h6 y (List.mem_of_getElem? hy), by simp [AV.rel, RV.rel]⟩) h
    have hbt : P.built tt (parts.map fun p => (p.1, a.eval p.2)).toList = some cells' := by
      unfold Program.built
      simp only [h1, h2, h3, h5, h4]
      rw [Array.toList_map]
      exact q1
    refine ⟨.agg cells', by simp only [execOp]; exact by simp [run_build m.w tt _ _ hbt], ?_⟩
    have hrel : AV.rels m vs cells'.toList := AV.rels_of _ _ (by simpa using q2) fun j r u hj hu => by
      obtain ⟨y, e1, _, e3⟩ := q3 j r hj
      have : y = u := by simpa [e1] using hu
      rwa [this] at e3
    unfold aggOf
    split
    · rename_i rs hrs
      rw [allRo_eq hrs] at hrel
      simp only [AV.rel, RV.rel]
      exact ⟨_, rfl, rels_ro_inv _ _ hrel⟩
    · simp only [AV.rel]
      exact ⟨_, rfl, hrel⟩)
end
end Go.Proofs.Ytnecoghfhcimeaa
/- The draws' basics: bytes, numbers below a bound, elements of lists, the start. -/
namespace Go.Proofs.Ytnecoghfhcimeaa
set_option linter.unusedSimpArgs false
set_option linter.unusedVariables false
set_option linter.unusedSectionVars false
open Go.RowKit
open AV (Mem Keeps)
theorem and_255 (n : Int) : bits .and .i64 n 255 = n % 256 := by
  have h1 : (BitVec.ofInt 64 255).toNat = 2 ^ 8 - 1 := by decide
  have key : (BitVec.ofInt 64 n &&& BitVec.ofInt 64 255).toNat = (n % ((2 ^ 64 : Nat) : Int)).toNat % 2 ^ 8 := by
    rw [BitVec.toNat_and, BitVec.toNat_ofInt, h1, Nat.and_two_pow_sub_one_eq_mod]
  show IntKind.i64.wrap ((BitVec.ofInt 64 n &&& BitVec.ofInt 64 255).toNat : Nat) = n % 256
  rw [key, IntKind.wrap_i64]
  omega
theorem and_30 (n : Int) : bits .and .i64 n 1073741823 = n % 1073741824 := by
  have h1 : (BitVec.ofInt 64 1073741823).toNat = 2 ^ 30 - 1 := by decide
  have key : (BitVec.ofInt 64 n &&& BitVec.ofInt 64 1073741823).toNat = (n % ((2 ^ 64 : Nat) : Int)).toNat % 2 ^ 30 := by
    rw [BitVec.toNat_and, BitVec.toNat_ofInt, h1, Nat.and_two_pow_sub_one_eq_mod]
  show IntKind.i64.wrap ((BitVec.ofInt 64 n &&& BitVec.ofInt 64 1073741823).toNat : Nat) = n % 1073741824
  rw [key, IntKind.wrap_i64]
  omega
section
variable {P : Program} {C : Ctx} {env : Env} {σ : List Ob} {t : Nat} {ty : TypeId} {pos : String} {after : Array Edge} {gd : Option (Nat × Bool)} {xt yt : TypeId} {x y : Operand} {p q : Int}
theorem pu_xor (hx : ev env x = .int p) (hy : ev env y = .int q) : Pur P C ⟨some t, .binOp .xor xt x y yt, ty, pos, after, gd⟩ env σ (.int (bits .xor .i64 p q)) := pu_bin hx hy (fun w => by simp [go_sem])
theorem pu_and255 (hx : ev env x = .int p) (hy : ev env y = .int 255) : Pur P C ⟨some t, .binOp .and xt x y yt, ty, pos, after, gd⟩ env σ (.int (p % 256)) := pu_bin hx hy (fun w => by rw [← and_255]; simp [go_sem])
theorem pu_and30 (hx : ev env x = .int p) (hy : ev env y = .int 1073741823) : Pur P C ⟨some t, .binOp .and xt x y yt, ty, pos, after, gd⟩ env σ (.int (p % 1073741824)) := pu_bin hx hy (fun w => by rw [← and_30]; simp [go_sem])
end
def QI (p : Int → Prop) (rr : RR) : Prop := ∃ x, rr = .ro (.int x) ∧ p x
def QB (rr : RR) : Prop := ∃ x, rr = .ro (.bool x)
def QS (p : ByteArray → Prop) (rr : RR) : Prop := ∃ x, rr = .ro (.str x) ∧ p x
section
variable {P : Program} {C : Ctx} {ops : Array Oper} {rest : List Oper} {k : List Item} {R : Act → World → Prop} {env : Env} {σ : List Ob} {t : Nat} {ty : TypeId} {pos : String} {after : Array Edge} {ct : TypeId} {b : List UInt8} {u : Value} {i h : Int} {more : List Ob} {l : List Oper} {H T' : List IOq} {n : Nat}
theorem qi_ok {p : Int → Prop} : ∀ rr, QI p rr → flatR rr = true ∧ ∃ r, Seals rr r ∧ ∃ x, r = .int x ∧ p x := by
  rintro _ ⟨x, rfl, hx⟩; exact ⟨rfl, .int x, by simp [Seals], x, rfl, hx⟩
theorem qb_ok : ∀ rr, QB rr → flatR rr = true ∧ ∃ r, Seals rr r ∧ ∃ x, r = .bool x := by
  rintro _ ⟨x, rfl⟩; exact ⟨rfl, .bool x, by simp [Seals], x, rfl⟩
theorem qs_ok {p : ByteArray → Prop} : ∀ rr, QS p rr → flatR rr = true ∧ ∃ r, Seals rr r ∧ ∃ x, r = .str x ∧ p x := by
  rintro _ ⟨x, rfl, hx⟩; exact ⟨rfl, .str x, by simp [Seals], x, rfl, hx⟩
theorem op_drawI {f : FuncId} {fn : Func} {x0 : Operand} {xs : List Operand} {ats : Array TypeId} {args : List RV} {p : Int → Prop} [hfn : FN P f fn] (hf : Drw P ct f b args (QI p)) (hc : unpin (ev env x0) = .obj 0 0) (hu : HU C b u) (hi : CurOk b i) (hσ : σ = curOb ct u i h :: more) (ha : LendsPL C σ (xs.map (ev env)) args)
    (hce : clnE env = true) (hcl : clnO more = true) (ht : t < C.n) (hk : ∀ (i' h' x : Int), CurOk b i' → p x → RunsL P C ops rest k R ⟨(t, .int x) :: env, curOb ct u i' h' :: more⟩) :
    RunsL P C ops (⟨some t, .call { callee := .value (.func f), args := (x0 :: xs).toArray, argTypes := ats }, ty, pos, after, none⟩ :: rest) k R ⟨env, σ⟩ :=
  op_drawF hf qi_ok hc hu hi hσ ha hce hcl ht (by rintro i' h' _ h1 ⟨x, rfl, hx⟩; exact hk i' h' x h1 hx)
theorem op_drawB {f : FuncId} {fn : Func} {x0 : Operand} {xs : List Operand} {ats : Array TypeId} {args : List RV} [hfn : FN P f fn] (hf : Drw P ct f b args QB) (hc : unpin (ev env x0) = .obj 0 0) (hu : HU C b u) (hi : CurOk b i) (hσ : σ = curOb ct u i h :: more) (ha : LendsPL C σ (xs.map (ev env)) args)
    (hce : clnE env = true) (hcl : clnO more = true) (ht : t < C.n) (hk : ∀ (i' h' : Int) (x : Bool), CurOk b i' → RunsL P C ops rest k R ⟨(t, .bool x) :: env, curOb ct u i' h' :: more⟩) :
    RunsL P C ops (⟨some t, .call { callee := .value (.func f), args := (x0 :: xs).toArray, argTypes := ats }, ty, pos, after, none⟩ :: rest) k R ⟨env, σ⟩ :=
  op_drawF hf qb_ok hc hu hi hσ ha hce hcl ht (by rintro i' h' _ h1 ⟨x, rfl⟩; exact hk i' h' x h1)
theorem op_drawS {f : FuncId} {fn : Func} {x0 : Operand} {xs : List Operand} {ats : Array TypeId} {args : List RV} {p : ByteArray → Prop} [hfn : FN P f fn] (hf : Drw P ct f b args (QS p)) (hc : unpin (ev env x0) = .obj 0 0) (hu : HU C b u) (hi : CurOk b i) (hσ : σ = curOb ct u i h :: more) (ha : LendsPL C σ (xs.map (ev env)) args)
    (hce : clnE env = true) (hcl : clnO more = true) (ht : t < C.n) (hk : ∀ (i' h' : Int) (x : ByteArray), CurOk b i' → p x → RunsL P C ops rest k R ⟨(t, .str x) :: env, curOb ct u i' h' :: more⟩) :
    RunsL P C ops (⟨some t, .call { callee := .value (.func f), args := (x0 :: xs).toArray, argTypes := ats }, ty, pos, after, none⟩ :: rest) k R ⟨env, σ⟩ :=
  op_drawF hf qs_ok hc hu hi hσ ha hce hcl ht (by rintro i' h' _ h1 ⟨x, rfl, hx⟩; exact hk i' h' x h1 hx)
theorem RunsP.drawI {f : FuncId} {fn : Func} {x0 : Operand} {xs : List Operand} {ats : Array TypeId} {args : List RV} {p : Int → Prop} [hfn : FN P f fn] (hf : Drw P ct f b args (QI p)) (hc : unpin (ev env x0) = .obj 0 0) (hu : HU C b u) (hi : CurOk b i) (ha : ∀ h : Int, LendsPL C (curOb ct u i h :: more) (xs.map (ev env)) args)
    (hce : clnE env = true) (hcl : clnO more = true) (ht : t < C.n) (hk : ∀ (i' h' x : Int), CurOk b i' → p x → RunsP P C ct u more l H T' k R i' h' ((t, .int x) :: env)) :
    RunsP P C ct u more l H ((n, ⟨some t, .call { callee := .value (.func f), args := (x0 :: xs).toArray, argTypes := ats }, ty, pos, after, none⟩) :: T') k R i h env :=
  RunsP.drawF hf qi_ok hc hu hi ha hce hcl ht (by rintro i' h' _ h1 ⟨x, rfl, hx⟩; exact hk i' h' x h1 hx)
theorem RunsP.drawS {f : FuncId} {fn : Func} {x0 : Operand} {xs : List Operand} {ats : Array TypeId} {args : List RV} {p : ByteArray → Prop} [hfn : FN P f fn] (hf : Drw P ct f b args (QS p)) (hc : unpin (ev env x0) = .obj 0 0) (hu : HU C b u) (hi : CurOk b i) (ha : ∀ h : Int, LendsPL C (curOb ct u i h :: more) (xs.map (ev env)) args)
    (hce : clnE env = true) (hcl : clnO more = true) (ht : t < C.n) (hk : ∀ (i' h' : Int) (x : ByteArray), CurOk b i' → p x → RunsP P C ct u more l H T' k R i' h' ((t, .str x) :: env)) :
    RunsP P C ct u more l H ((n, ⟨some t, .call { callee := .value (.func f), args := (x0 :: xs).toArray, argTypes := ats }, ty, pos, after, none⟩) :: T') k R i h env :=
  RunsP.drawF hf qs_ok hc hu hi ha hce hcl ht (by rintro i' h' _ h1 ⟨x, rfl, hx⟩; exact hk i' h' x h1 hx)
end
def curH (h : Int) : Int := w64 (w64 (h * 6364136223846793005) + 1442695040888963407)
def curX (h : Int) : Int := bits .xor .i64 (curH h / 8589934592) (curH h / 140737488355328) % 256
theorem l1Byte_d (b : List UInt8) (hb : b.length ≤ 1048576) : Drw Try.prog 123 125 b [] (QI fun x => 0 ≤ x ∧ x ≤ 255) := by
  have hlb : (b.map fun z => [RV.u8 z]).length = b.length := List.length_map ..
  refine drw_enter Try.func125 rfl _ Try.ntmps125 (by simp) fun C g u i h hn hm hu hi => ?_
  have hi' := hi
  unfold CurOk at hi'
  have hx0 : 0 ≤ curX h ∧ curX h ≤ 255 := by unfold curX; omega
  by_cases hlt : i < b.length
  · obtain ⟨c, hc⟩ : ∃ c, b[i.toNat]? = some c := ⟨_, List.getElem?_eq_getElem (by omega)⟩
    have hcl := c.toNat_lt
    repeat' (first
 | ((first | refine RunsL.pe hn rfl rfl rfl ?_ | refine RunsD.pe rfl rfl ?_); first
 | refine ⟨_, Pur.know hu (pu_auto tabOk rfl), ?_⟩)
 | refine RunsL.step tabOk hn rfl ?_
 | refine RunsL.nil ?_
 | refine Runs.toRegion 30 rfl ?_
 | ((first | refine RunsL.pe hn rfl rfl rfl ?_ | refine RunsD.pe rfl rfl ?_); first
 | refine ⟨_, pu_nilCheckP rfl, ?_⟩
 | refine ⟨_, pu_mulW rfl rfl, ?_⟩
 | refine ⟨_, pu_addW (t := 10) rfl rfl, ?_⟩
 | refine ⟨_, pu_shrK 8589934592 rfl rfl (by decide) (by decide), ?_⟩
 | refine ⟨_, pu_shrK 140737488355328 rfl rfl (by decide) (by decide), ?_⟩
 | refine ⟨_, pu_xor rfl rfl, ?_⟩
 | refine ⟨_, pu_and255 rfl rfl, ?_⟩
 | refine ⟨_, pu_ofU8 rfl, ?_⟩
 | refine ⟨_, pu_add rfl rfl (by have := c.toNat_lt; omega), ?_⟩)
 | (refine Runs.ctls 30 rfl ?_; first | (refine Runs.cond_yes rfl ?_ ?_; · first | omega | rfl | assumption | (simp only [List.length_map]; omega)) | (refine Runs.cond_no rfl ?_ ?_; · first | omega | rfl | assumption | (simp only [List.length_map]; omega)) | refine Runs.ret (ends_ro hm rfl rfl ?_) | exact Runs.ret (ends_cellR hm rfl rfl rfl (Nat.le_of_ble_eq_true rfl) rfl rfl))
 | refine op_storeF rfl rfl rfl rfl (Nat.le_of_ble_eq_true rfl) ?_
 | refine RunsD.step tabOk hn rfl rfl ?_
 | refine RunsD.nil ?_
 | refine Runs.toDraw 30 mixed hn rfl (by kernel_rfl) rfl ?_
 | ((first | refine RunsL.pe hn rfl rfl rfl ?_ | refine RunsD.pe rfl rfl ?_); first
 | refine ⟨_, pu_add rfl rfl (by omega), ?_⟩
 | refine ⟨_, pu_indexAddr_map rfl rfl (by omega) (by assumption), ?_⟩))
    all_goals exact Runs.ctls 30 rfl (Runs.ret (endsD_ro hm rfl rfl rfl ⟨by omega, by omega⟩ rfl ⟨_, rfl, by omega, by omega⟩))
  · repeat' (first
 | ((first | refine RunsL.pe hn rfl rfl rfl ?_ | refine RunsD.pe rfl rfl ?_); first
 | refine ⟨_, Pur.know hu (pu_auto tabOk rfl), ?_⟩)
 | refine RunsL.step tabOk hn rfl ?_
 | refine RunsL.nil ?_
 | refine Runs.toRegion 30 rfl ?_
 | ((first | refine RunsL.pe hn rfl rfl rfl ?_ | refine RunsD.pe rfl rfl ?_); first
 | refine ⟨_, pu_nilCheckP rfl, ?_⟩
 | refine ⟨_, pu_mulW rfl rfl, ?_⟩
 | refine ⟨_, pu_addW (t := 10) rfl rfl, ?_⟩
 | refine ⟨_, pu_shrK 8589934592 rfl rfl (by decide) (by decide), ?_⟩
 | refine ⟨_, pu_shrK 140737488355328 rfl rfl (by decide) (by decide), ?_⟩
 | refine ⟨_, pu_xor rfl rfl, ?_⟩
 | refine ⟨_, pu_and255 rfl rfl, ?_⟩
 | refine ⟨_, pu_ofU8 rfl, ?_⟩)
 | (refine Runs.ctls 30 rfl ?_; first | (refine Runs.cond_yes rfl ?_ ?_; · first | omega | rfl | assumption | (simp only [List.length_map]; omega)) | (refine Runs.cond_no rfl ?_ ?_; · first | omega | rfl | assumption | (simp only [List.length_map]; omega)) | refine Runs.ret (ends_ro hm rfl rfl ?_) | exact Runs.ret (ends_cellR hm rfl rfl rfl (Nat.le_of_ble_eq_true rfl) rfl rfl))
 | refine op_storeF rfl rfl rfl rfl (Nat.le_of_ble_eq_true rfl) ?_
 | refine RunsD.step tabOk hn rfl rfl ?_
 | refine RunsD.nil ?_
 | refine Runs.toDraw 30 mixed hn rfl (by kernel_rfl) rfl ?_
 | ((first | refine RunsL.pe hn rfl rfl rfl ?_ | refine RunsD.pe rfl rfl ?_); first
 | refine ⟨_, pu_add rfl rfl (by omega), ?_⟩
 | refine ⟨_, pu_indexAddr_map rfl rfl (by omega) (by assumption), ?_⟩))
    all_goals exact Runs.ctls 30 rfl (Runs.ret (endsD_ro hm rfl rfl rfl hi rfl ⟨_, rfl, hx0⟩))
end Go.Proofs.Ytnecoghfhcimeaa
/- The draws' basics: numbers below a bound, elements of lists, bytes, the start. -/
namespace Go.Proofs.Ytnecoghfhcimeaa
set_option linter.unusedSimpArgs false
set_option linter.unusedVariables false
set_option linter.unusedSectionVars false
open Go.RowKit
open AV (Mem Keeps)
def Bel (n : Int) (x : Int) : Prop := (n ≤ 0 → x = 0) ∧ (0 < n → 0 ≤ x ∧ x < n)
set_option maxHeartbeats 1600000 in
theorem l1Below_d (b : List UInt8) (hb : b.length ≤ 1048576) (n : Int) (hn' : n ≤ 16777216) : Drw Try.prog 123 74 b [.int n] (QI (Bel n)) := by
  refine drw_enter Try.func74 rfl _ Try.ntmps74 (by simp) fun C g u i h hn hm hu hi => ?_
  by_cases h1 : n ≤ 0
  · repeat' (first
 | refine RunsL.step tabOk hn rfl ?_
 | refine RunsL.nil ?_
 | refine Runs.toRegion 30 rfl ?_
 | (refine Runs.ctls 30 rfl ?_; first | (refine Runs.cond_yes rfl ?_ ?_; · first | omega | rfl | assumption) | (refine Runs.cond_no rfl ?_ ?_; · first | omega | rfl | assumption) | refine Runs.ret (ends_ro hm rfl rfl ?_) | exact Runs.ret (ends_cellR hm rfl rfl rfl (Nat.le_of_ble_eq_true rfl) rfl rfl))
 | (refine RunsL.pe hn rfl rfl rfl ?_; first
 | refine ⟨_, pu_add rfl rfl (by omega), ?_⟩
 | refine ⟨_, pu_mul rfl rfl (by omega), ?_⟩
      ))
    all_goals exact Runs.ctls 30 rfl (Runs.ret (endsD_ro hm rfl rfl rfl hi rfl ⟨_, rfl, fun _ => rfl, by omega⟩))
  by_cases h2 : n ≤ 256
  · repeat' (first
 | (refine op_drawI (l1Byte_d b hb) rfl hu hi rfl .nil rfl rfl (tl hn rfl) ?_; intro i h x hi hx)
 | refine RunsL.step tabOk hn rfl ?_
 | refine RunsL.nil ?_
 | refine Runs.toRegion 30 rfl ?_
 | (refine RunsL.pe hn rfl rfl rfl ?_; first
 | refine ⟨_, pu_rem rfl rfl (by omega), ?_⟩)
 | (refine Runs.ctls 30 rfl ?_; first | (refine Runs.cond_yes rfl ?_ ?_; · first | omega | rfl | assumption) | (refine Runs.cond_no rfl ?_ ?_; · first | omega | rfl | assumption) | refine Runs.ret (ends_ro hm rfl rfl ?_) | exact Runs.ret (ends_cellR hm rfl rfl rfl (Nat.le_of_ble_eq_true rfl) rfl rfl))
 | (refine RunsL.pe hn rfl rfl rfl ?_; first
 | refine ⟨_, pu_add rfl rfl (by omega), ?_⟩
 | refine ⟨_, pu_mul rfl rfl (by omega), ?_⟩
      ))
    all_goals exact Runs.ctls 30 rfl (Runs.ret (endsD_ro hm rfl rfl rfl hi rfl ⟨_, rfl, by omega, fun _ => ⟨Int.emod_nonneg _ (by omega), Int.emod_lt_of_pos _ (by omega)⟩⟩))
  · repeat' (first
 | (refine op_drawI (l1Byte_d b hb) rfl hu hi rfl .nil rfl rfl (tl hn rfl) ?_; intro i h x hi hx)
 | refine RunsL.step tabOk hn rfl ?_
 | refine RunsL.nil ?_
 | refine Runs.toRegion 30 rfl ?_
 | (refine RunsL.pe hn rfl rfl rfl ?_; first
 | refine ⟨_, pu_rem rfl rfl (by omega), ?_⟩)
 | (refine Runs.ctls 30 rfl ?_; first | (refine Runs.cond_yes rfl ?_ ?_; · first | omega | rfl | assumption) | (refine Runs.cond_no rfl ?_ ?_; · first | omega | rfl | assumption) | refine Runs.ret (ends_ro hm rfl rfl ?_) | exact Runs.ret (ends_cellR hm rfl rfl rfl (Nat.le_of_ble_eq_true rfl) rfl rfl))
 | (refine RunsL.pe hn rfl rfl rfl ?_; first
 | refine ⟨_, pu_add rfl rfl (by omega), ?_⟩
 | refine ⟨_, pu_mul rfl rfl (by omega), ?_⟩
      ))
    all_goals exact Runs.ctls 30 rfl (Runs.ret (endsD_ro hm rfl rfl rfl hi rfl ⟨_, rfl, by omega, fun _ => ⟨Int.emod_nonneg _ (by omega), Int.emod_lt_of_pos _ (by omega)⟩⟩))
theorem l1Once_d (b : List UInt8) (hb : b.length ≤ 1048576) (n : Int) (hn' : n ≤ 16777216) : Drw Try.prog 123 75 b [.int n] QB := by
  refine drw_enter Try.func75 rfl _ Try.ntmps75 (by simp) fun C g u i h hn hm hu hi => ?_
  repeat' (first
 | (refine op_drawI (l1Below_d b hb n hn') rfl hu hi rfl (LendsPL.ros [.int n]) rfl rfl (tl hn rfl) ?_; intro i h x hi hx)
 | refine RunsL.step tabOk hn rfl ?_
 | refine RunsL.nil ?_
 | refine Runs.toRegion 30 rfl ?_
 | (refine Runs.ctls 30 rfl ?_; first | refine Runs.ret (ends_ro hm rfl rfl ?_) | exact Runs.ret (ends_cellR hm rfl rfl rfl (Nat.le_of_ble_eq_true rfl) rfl rfl))
    )
  all_goals exact Runs.ctls 30 rfl (Runs.ret (endsD_ro hm rfl rfl rfl hi rfl ⟨_, rfl⟩))
theorem l1Int_d (b : List UInt8) (hb : b.length ≤ 1048576) (l : List Int) (h0 : 0 < l.length) (hl : l.length ≤ 1000) : Drw Try.prog 123 121 b [intsR l] (QI (· ∈ l)) := by
  have hlm : (l.map fun z => [RV.int z]).length = l.length := List.length_map ..
  refine drw_enter Try.func121 rfl _ Try.ntmps121 (by simp) fun C g u i h hn hm hu hi => ?_
  repeat' (first
 | (refine op_drawI (l1Below_d b hb (l.length : Int) (by omega)) rfl hu hi rfl (LendsPL.ros [.int (l.length : Int)]) rfl rfl (tl hn rfl) ?_; intro i h x hi hx; obtain ⟨x0, x1⟩ := hx.2 (by omega); obtain ⟨s, hs⟩ : ∃ s, l[x.toNat]? = some s := ⟨_, List.getElem?_eq_getElem (by omega)⟩)
 | (refine RunsL.pe hn rfl rfl rfl ?_; first
 | refine ⟨_, pu_len_seqN l.length rfl hlm, ?_⟩)
 | refine RunsL.step tabOk hn rfl ?_
 | refine RunsL.nil ?_
 | refine Runs.toRegion 30 rfl ?_
 | (refine Runs.ctls 30 rfl ?_; first | refine Runs.ret (ends_ro hm rfl rfl ?_) | exact Runs.ret (ends_cellR hm rfl rfl rfl (Nat.le_of_ble_eq_true rfl) rfl rfl))
 | (refine RunsL.pe hn rfl rfl rfl ?_; first
 | refine ⟨_, pu_indexAddr_map rfl rfl (by omega) (by assumption), ?_⟩
      ))
  all_goals exact Runs.ctls 30 rfl (Runs.ret (endsD_ro hm rfl rfl rfl hi rfl ⟨_, rfl, List.mem_of_getElem? hs⟩))
theorem l1Str_d (b : List UInt8) (hb : b.length ≤ 1048576) (l : List ByteArray) (h0 : 0 < l.length) (hl : l.length ≤ 1000) : Drw Try.prog 123 124 b [strsR l] (QS (· ∈ l)) := by
  have hlm : (l.map fun z => [RV.str z]).length = l.length := List.length_map ..
  refine drw_enter Try.func124 rfl _ Try.ntmps124 (by simp) fun C g u i h hn hm hu hi => ?_
  repeat' (first
 | (refine op_drawI (l1Below_d b hb (l.length : Int) (by omega)) rfl hu hi rfl (LendsPL.ros [.int (l.length : Int)]) rfl rfl (tl hn rfl) ?_; intro i h x hi hx; obtain ⟨x0, x1⟩ := hx.2 (by omega); obtain ⟨s, hs⟩ : ∃ s, l[x.toNat]? = some s := ⟨_, List.getElem?_eq_getElem (by omega)⟩)
 | (refine RunsL.pe hn rfl rfl rfl ?_; first
 | refine ⟨_, pu_len_seqN l.length rfl hlm, ?_⟩)
 | refine RunsL.step tabOk hn rfl ?_
 | refine RunsL.nil ?_
 | refine Runs.toRegion 30 rfl ?_
 | (refine Runs.ctls 30 rfl ?_; first | refine Runs.ret (ends_ro hm rfl rfl ?_) | exact Runs.ret (ends_cellR hm rfl rfl rfl (Nat.le_of_ble_eq_true rfl) rfl rfl))
 | (refine RunsL.pe hn rfl rfl rfl ?_; first
 | refine ⟨_, pu_indexAddr_map rfl rfl (by omega) (by assumption), ?_⟩
      ))
  all_goals exact Runs.ctls 30 rfl (Runs.ret (endsD_ro hm rfl rfl rfl hi rfl ⟨_, rfl, List.mem_of_getElem? hs⟩))
def QBy (p : List UInt8 → Prop) (rr : RR) : Prop := ∃ x : List UInt8, rr = .row 5 1 (x.map RV.u8) ∧ p x
theorem l1Bytes_d (b : List UInt8) (hb : b.length ≤ 1048576) (n : Nat) (hn' : n ≤ 1000) : Drw Try.prog 123 120 b [.int (n : Int)] (QBy fun x => x.length = n) := by
  refine drw_enter Try.func120 rfl _ Try.ntmps120 (by simp) fun C g u i h hn hm hu hi => ?_
  repeat' (first
 | refine RunsL.step tabOk hn rfl ?_
 | refine RunsL.nil ?_
 | refine Runs.toRegion 30 rfl ?_
 | refine op_build0 (tl hn rfl) ?_
 | (refine Runs.ctls 30 rfl ?_; first | (refine Runs.cond_yes rfl ?_ ?_; · first | omega | rfl | assumption | (simp only [List.length_map]; omega)) | (refine Runs.cond_no rfl ?_ ?_; · first | omega | rfl | assumption | (simp only [List.length_map]; omega)) | refine Runs.ret (ends_ro hm rfl rfl ?_) | exact Runs.ret (ends_cellR hm rfl rfl rfl (Nat.le_of_ble_eq_true rfl) rfl rfl))
 | (refine RunsL.pe hn rfl rfl rfl ?_; first
 | refine ⟨_, pu_add rfl rfl (by omega), ?_⟩
 | refine ⟨_, pu_build rfl rfl rfl rfl rfl rfl, ?_⟩))
  refine Runs.loopI 30 rfl (fun m E z => ∃ (j : Nat) (x : List UInt8) (i h : Int), j + m = n ∧ x.length = j ∧ CurOk b i ∧ E = [(0, .pin 0 0 g), (1, .int n), (5, .own 1), (6, .int (j : Int))] ∧ z = [curOb 123 u i h, ⟨5, 1, (x.map RV.u8).map .ro⟩]) n [(0, .pin 0 0 g), (1, .int n), (5, .own 1), (6, .int ((0 : Nat) : Int))] ⟨rfl, rfl, rfl, rfl, trivial⟩ ⟨0, [], i, h, by omega, rfl, hi, rfl, rfl⟩ fun m E z ⟨j, x, i, h, hj, hx, hi, hE, hz⟩ ih => ?_
  subst hE; subst hz
  by_cases hlt : j < n
  · have hxl : (x.map RV.u8).length = j := by rw [List.length_map]; exact hx
    repeat' (first
 | (refine op_drawI (l1Byte_d b hb) rfl hu hi rfl .nil rfl (by first | rfl | repeat' (first | rfl | exact clns_ro _ | refine clnO_cons ?_ ?_)) (tl hn rfl) ?_; intro i h y hi hy)
 | refine RunsL.step tabOk hn rfl ?_
 | refine RunsL.nil ?_
 | refine Runs.toRegion 30 rfl ?_
 | refine op_append (n := j) rfl rfl rfl rfl rfl rfl (by rw [hxl, Nat.mul_one]) (FreeI.at_ ⟨by simp [curOb, AV.onlys, AV.only], onlys_ro _ _, trivial⟩) (by simp; omega) (by simp; omega) (tl hn rfl) ?_
 | (refine RunsL.pe hn rfl rfl rfl ?_; first
 | refine ⟨_, pu_toU8 rfl, ?_⟩
 | refine ⟨_, pu_build rfl rfl rfl rfl rfl rfl, ?_⟩)
 | (refine Runs.ctls 30 rfl ?_; first | (refine Runs.cond_yes rfl ?_ ?_; · first | omega | rfl | assumption | (simp only [List.length_map]; omega)) | (refine Runs.cond_no rfl ?_ ?_; · first | omega | rfl | assumption | (simp only [List.length_map]; omega)) | refine Runs.ret (ends_ro hm rfl rfl ?_) | exact Runs.ret (ends_cellR hm rfl rfl rfl (Nat.le_of_ble_eq_true rfl) rfl rfl))
 | (refine RunsL.pe hn rfl rfl rfl ?_; first
 | refine ⟨_, pu_add rfl rfl (by omega), ?_⟩
 | refine ⟨_, pu_build rfl rfl rfl rfl rfl rfl, ?_⟩))
    refine Runs.ctls 30 rfl ?_
    refine ih (m - 1) _ _ _ (by omega) ⟨j + 1, x ++ [u8i y], i, h, by omega, by simp [hx], hi, rfl, ?_⟩ ⟨rfl, rfl, rfl, rfl, trivial⟩
    simp
  · repeat' (first
 | refine RunsL.step tabOk hn rfl ?_
 | refine RunsL.nil ?_
 | refine Runs.toRegion 30 rfl ?_
 | (refine Runs.ctls 30 rfl ?_; first | (refine Runs.cond_yes rfl ?_ ?_; · first | omega | rfl | assumption | (simp only [List.length_map]; omega)) | (refine Runs.cond_no rfl ?_ ?_; · first | omega | rfl | assumption | (simp only [List.length_map]; omega)) | refine Runs.ret (ends_ro hm rfl rfl ?_) | exact Runs.ret (ends_cellR hm rfl rfl rfl (Nat.le_of_ble_eq_true rfl) rfl rfl))
 | (refine RunsL.pe hn rfl rfl rfl ?_; first
 | refine ⟨_, pu_add rfl rfl (by omega), ?_⟩
 | refine ⟨_, pu_build rfl rfl rfl rfl rfl rfl, ?_⟩))
    have ej : j = n := by omega
    subst ej
    exact Runs.ctls 30 rfl (Runs.ret (endsD_own (rs := x.map RV.u8) hm rfl rfl rfl hi rfl (by decide) rfl ⟨x, rfl, hx⟩))
set_option maxRecDepth 100000 in
instance tb_cur : TB Try.prog 123 [(0, 1), (1, 1), (2, 1)] [.slice none 0 0, .int .i64 0, .int .i64 0] := ⟨_, _, _, rfl, rfl, rfl, rfl, by kernel_rfl, by decide⟩
def hashN (b : List UInt8) : Nat → Int
  | 0 => 193017 + b.length
  | j + 1 => (hashN b j * 137 + ((b[j]?.getD 0).toNat : Int) + 11) % 1073741824
theorem hashN_bd (b : List UInt8) (hb : b.length ≤ 1048576) : ∀ j, 0 ≤ hashN b j ∧ hashN b j ≤ 1073741824
  | 0 => by unfold hashN; omega
  | j + 1 => by unfold hashN; omega
set_option maxRecDepth 100000 in
theorem l1New_u (b : List UInt8) (hb : b.length ≤ 1048576) : ANewU Try.prog 123 64 b := by
  have hlb : (b.map fun z => [RV.u8 z]).length = b.length := List.length_map ..
  refine anewU_enter Try.func64 rfl _ Try.ntmps64 (by simp) fun C u hn hm hu => ?_
  obtain ⟨A, m0, c0, rfl⟩ := hu.shape
  repeat' (first
 | (refine RunsL.pe hn rfl rfl rfl ?_; first
 | refine ⟨_, pu_len_seqN b.length rfl hlb, ?_⟩
 | refine ⟨_, Pur.know hu (pu_auto (t := 5) tabOk rfl), ?_⟩
 | refine ⟨_, Pur.know hu (pu_auto (t := 9) tabOk rfl), ?_⟩
 | refine ⟨_, Pur.know hu (pu_auto (t := 20) tabOk rfl), ?_⟩)
 | refine RunsL.step tabOk hn rfl ?_
 | refine RunsL.nil ?_
 | refine Runs.toRegion 30 rfl ?_
 | (refine Runs.ctls 30 rfl ?_; first | refine Runs.cond_f rfl ?_ | (refine Runs.cond_yes rfl ?_ ?_; · first | omega | rfl | assumption | (simp only [List.length_map]; omega)) | (refine Runs.cond_no rfl ?_ ?_; · first | omega | rfl | assumption | (simp only [List.length_map]; omega)) | refine Runs.ret (ends_ro hm rfl rfl ?_) | exact Runs.ret (ends_cellR hm rfl rfl rfl (Nat.le_of_ble_eq_true rfl) rfl rfl))
 | refine op_box rfl (tl hn rfl) ?_
 | (refine RunsL.pe hn rfl rfl rfl ?_; first
 | refine ⟨_, pu_add rfl rfl (by omega), ?_⟩
 | refine ⟨_, pu_indexAddr_map rfl rfl (by omega) (by assumption), ?_⟩
 | refine ⟨_, pu_mul rfl rfl (by omega), ?_⟩
      )
 | (refine RunsL.guard_dec rfl rfl rfl ?_ ?_ <;> intro h <;> try (exfalso; first | omega | contradiction | (simp only [List.length_map] at h; omega))))
  refine Runs.loopN 30 rfl (fun j => [(0, .ro (.c (.slice A m0 c0))), (3, .int (hashN b j)), (4, .int (j : Int))]) (fun _ => []) (fun _ => True) (min b.length 4000) 0 (Nat.zero_le _) trivial ⟨rfl, rfl, rfl, trivial⟩ rfl fun j hj _ next => ?_
  have hbd := hashN_bd b hb j
  by_cases hlt : j < min b.length 4000
  · obtain ⟨c, hc⟩ : ∃ c, b[(j : Int).toNat]? = some c := ⟨_, List.getElem?_eq_getElem (by simp; omega)⟩
    have hcl := c.toNat_lt
    repeat' (first
 | (refine RunsL.pe hn rfl rfl rfl ?_; first
 | refine ⟨_, pu_len_seqN b.length rfl hlb, ?_⟩
 | refine ⟨_, Pur.know hu (pu_auto (t := 5) tabOk rfl), ?_⟩
 | refine ⟨_, Pur.know hu (pu_auto (t := 9) tabOk rfl), ?_⟩
 | refine ⟨_, Pur.know hu (pu_auto (t := 20) tabOk rfl), ?_⟩)
 | refine RunsL.step tabOk hn rfl ?_
 | refine RunsL.nil ?_
 | refine Runs.toRegion 30 rfl ?_
 | (refine RunsL.pe hn rfl rfl rfl ?_; first
 | refine ⟨_, pu_ofU8 rfl, ?_⟩
 | refine ⟨_, pu_and30 rfl rfl, ?_⟩)
 | (refine Runs.ctls 30 rfl ?_; first | refine Runs.cond_f rfl ?_ | (refine Runs.cond_yes rfl ?_ ?_; · first | omega | rfl | assumption | (simp only [List.length_map]; omega)) | (refine Runs.cond_no rfl ?_ ?_; · first | omega | rfl | assumption | (simp only [List.length_map]; omega)) | refine Runs.ret (ends_ro hm rfl rfl ?_) | exact Runs.ret (ends_cellR hm rfl rfl rfl (Nat.le_of_ble_eq_true rfl) rfl rfl))
 | refine op_box rfl (tl hn rfl) ?_
 | (refine RunsL.pe hn rfl rfl rfl ?_; first
 | refine ⟨_, pu_add rfl rfl (by omega), ?_⟩
 | refine ⟨_, pu_indexAddr_map rfl rfl (by omega) (by assumption), ?_⟩
 | refine ⟨_, pu_mul rfl rfl (by omega), ?_⟩
        )
 | (refine RunsL.guard_dec rfl rfl rfl ?_ ?_ <;> intro h <;> try (exfalso; first | omega | contradiction | (simp only [List.length_map] at h; omega))))
    refine next _ _ ⟨rfl, ?_, rfl, trivial⟩ hlt trivial rfl
    have hc' : b[j]? = some c := hc
    show AV.int _ = AV.int _
    rw [hashN, hc']; rfl
  · have ej : j = min b.length 4000 := by omega
    repeat' (first
 | (refine RunsL.pe hn rfl rfl rfl ?_; first
 | refine ⟨_, pu_len_seqN b.length rfl hlb, ?_⟩
 | refine ⟨_, Pur.know hu (pu_auto (t := 5) tabOk rfl), ?_⟩
 | refine ⟨_, Pur.know hu (pu_auto (t := 9) tabOk rfl), ?_⟩
 | refine ⟨_, Pur.know hu (pu_auto (t := 20) tabOk rfl), ?_⟩)
 | refine RunsL.step tabOk hn rfl ?_
 | refine RunsL.nil ?_
 | refine Runs.toRegion 30 rfl ?_
 | (refine RunsL.pe hn rfl rfl rfl ?_; first
 | refine ⟨_, pu_buildS rfl, ?_⟩)
 | (refine Runs.ctls 30 rfl ?_; first | refine Runs.cond_f rfl ?_ | (refine Runs.cond_yes rfl ?_ ?_; · first | omega | rfl | assumption | (simp only [List.length_map]; omega)) | (refine Runs.cond_no rfl ?_ ?_; · first | omega | rfl | assumption | (simp only [List.length_map]; omega)) | refine Runs.ret (ends_ro hm rfl rfl ?_) | exact Runs.ret (ends_cellR hm rfl rfl rfl (Nat.le_of_ble_eq_true rfl) rfl rfl))
 | refine op_box rfl (tl hn rfl) ?_
 | (refine RunsL.pe hn rfl rfl rfl ?_; first
 | refine ⟨_, pu_add rfl rfl (by omega), ?_⟩
 | refine ⟨_, pu_indexAddr_map rfl rfl (by omega) (by assumption), ?_⟩
 | refine ⟨_, pu_mul rfl rfl (by omega), ?_⟩
        )
 | (refine RunsL.guard_dec rfl rfl rfl ?_ ?_ <;> intro h <;> try (exfalso; first | omega | contradiction | (simp only [List.length_map] at h; omega))))
    all_goals exact Runs.ctls 30 rfl (Runs.ret (endsNU hm rfl rfl rfl))
end Go.Proofs.Ytnecoghfhcimeaa
/- The decimal digits of a number, one by one from the right: plain laws. -/
namespace Go.Proofs.Ytnecoghfhcimeaa
set_option linter.unusedSimpArgs false
set_option linter.unusedVariables false
set_option linter.unusedSectionVars false
def digPre (x : Int) : List UInt8 := if x = 0 then [] else Lib.decDigits x.natAbs
theorem tdiv_abs (x : Int) : (x.tdiv 10).natAbs = x.natAbs / 10 := by
  rw [Int.natAbs_tdiv]; rfl
theorem tmod_abs (x : Int) : (x.tmod 10).natAbs = x.natAbs % 10 := by
  rw [Int.natAbs_tmod]; rfl
theorem digPre_step (x : Int) (hx : x ≠ 0) : digPre x = digPre (x.tdiv 10) ++ [UInt8.ofNat (48 + x.natAbs % 10)] := by
  have h1 := tdiv_abs x
  have hn : x.natAbs ≠ 0 := by omega
  unfold digPre
  rw [if_neg hx, Lib.decDigits]
  by_cases h : x.natAbs < 10
  · have h0 : x.tdiv 10 = 0 := by
      have : (x.tdiv 10).natAbs = 0 := by rw [h1]; omega
      omega
    rw [dif_pos h, if_pos h0, Nat.mod_eq_of_lt h]; rfl
  · have h0 : x.tdiv 10 ≠ 0 := by
      intro e
      rw [e] at h1
      simp only [Int.natAbs_zero] at h1
      omega
    rw [dif_neg h, if_neg h0, h1]
theorem itoa_zero : Lib.itoa 0 = [48] := by
  unfold Lib.itoa
  rw [if_neg (by decide), Lib.decDigits, dif_pos (by decide)]; rfl
theorem itoa_neg (n : Int) (h : n < 0) : Lib.itoa n = 45 :: digPre n := by
  unfold Lib.itoa digPre
  rw [if_pos h, if_neg (by omega)]
theorem itoa_pos (n : Int) (h : 0 < n) : Lib.itoa n = digPre n := by
  unfold Lib.itoa digPre
  rw [if_neg (by omega), if_neg (by omega), show n.toNat = n.natAbs by omega]
theorem digs_len : ∀ (k u : Nat), u < 10 ^ (k + 1) → (Lib.decDigits u).length ≤ k + 1
  | 0, u, h => by rw [Lib.decDigits, dif_pos (by simpa using h)]; simp
  | k + 1, u, h => by
    rw [Lib.decDigits]
    split
    · simp
    · rw [List.length_append]
      have := digs_len k (u / 10) (by rw [Nat.pow_succ] at h; omega)
      simp only [List.length_cons, List.length_nil]; omega
theorem itoa_len (n : Int) (h1 : -9223372036854775808 ≤ n) (h2 : n ≤ 9223372036854775807) : (Lib.itoa n).length ≤ 20 := by
  unfold Lib.itoa
  split
  · have := digs_len 18 n.natAbs (by omega)
    simp only [List.length_cons]; omega
  · have := digs_len 18 n.toNat (by omega)
    omega
end Go.Proofs.Ytnecoghfhcimeaa
/- FormatInt: the reference's (a loop). -/
namespace Go.Proofs.Ytnecoghfhcimeaa
set_option linter.unusedSimpArgs false
set_option linter.unusedVariables false
set_option linter.unusedSectionVars false
open Go.RowKit
section
variable {P : Program} {C : Ctx} {env : Env} {σ : List Ob} {t : Nat} {ty : TypeId} {pos : String} {after : Array Edge} {gd : Option (Nat × Bool)}
theorem i64_small {p : Int} (h : -9223372036854775808 ≤ p ∧ p ≤ 9223372036854775807) : IntKind.i64.wrap p = p := by
  simp [IntKind.wrap, IntKind.bits, IntKind.signed]; omega
theorem pu_quo10 {xt yt : TypeId} {x y : Operand} {p : Int} (hx : ev env x = .int p) (hy : ev env y = .int 10) (h : I64 p) : Pur P C ⟨some t, .binOp .quo xt x y yt, ty, pos, after, gd⟩ env σ (.int (p.tdiv 10)) :=
  pu_bin hx hy (fun w => by
    have h1 : (p.tdiv 10).natAbs = p.natAbs / 10 := by rw [Int.natAbs_tdiv]; rfl
    have hw : IntKind.i64.wrap (p.tdiv 10) = p.tdiv 10 := i64_small (by omega)
    simp [go_sem, Op.intDiv, hw])
theorem pu_rem10 {xt yt : TypeId} {x y : Operand} {p : Int} (hx : ev env x = .int p) (hy : ev env y = .int 10) : Pur P C ⟨some t, .binOp .rem xt x y yt, ty, pos, after, gd⟩ env σ (.int (p.tmod 10)) :=
  pu_bin hx hy (fun w => by
    have h1 : (p.tmod 10).natAbs = p.natAbs % 10 := by rw [Int.natAbs_tmod]; rfl
    have hw : IntKind.i64.wrap (p.tmod 10) = p.tmod 10 := i64_small (by omega)
    simp [go_sem, Op.intDiv, hw])
theorem pu_neg {xt : TypeId} {x : Operand} {p : Int} [hs : TI P xt .i64] (hx : ev env x = .int p) (h : I64 (-p)) : Pur P C ⟨some t, .unOp .neg xt x, ty, pos, after, gd⟩ env σ (.int (-p)) :=
  Pur.of (fun a m hG hσ hH => ⟨.int .i64 (-p), by
    have e := ev_c (hH x (by simp [Op.operands])) hx
    simp only [execOp, Op.unary, e]
    simp [go_sem, Int.zero_sub, i64_small h], by simp [AV.rel, RV.rel]⟩)
end
theorem ba_cat (l : List UInt8) (s : ByteArray) : (⟨l.toArray⟩ : ByteArray) ++ s = ⟨(l ++ s.data.toList).toArray⟩ := by
  apply ByteArray.ext
  simp
theorem ba_size (l : List UInt8) : (⟨l.toArray⟩ : ByteArray).size = l.length := by simp [ByteArray.size]
theorem str_step {d : Int} {x : Nat} {l : List UInt8} (hd : d = (x % 10 : Nat)) : AV.str ((⟨[u8i (48 + d)].toArray⟩ : ByteArray) ++ ⟨l.toArray⟩) = AV.str ⟨(UInt8.ofNat (48 + x % 10) :: l).toArray⟩ := by
  subst hd
  have e : u8i (48 + ((x % 10 : Nat) : Int)) = UInt8.ofNat (48 + x % 10) := by unfold u8i; congr 1; omega
  rw [e, ba_cat]; rfl
theorem spec_FormatInt (n : Int) (hI : I64 n) : ACv Try.prog 156 [.int n] (.str ⟨(Lib.itoa n).toArray⟩) := by
  have hlen := itoa_len n hI.1 hI.2
  refine ac_enter Try.func156 rfl _ Try.ntmps156 (by simp) fun C hn hm => ?_
  by_cases h0 : n = 0
  · subst h0
    repeat' (first
 | refine RunsL.step tabOk hn rfl ?_
 | refine RunsL.nil ?_
 | refine Runs.toRegion 30 rfl ?_
 | (refine Runs.ctls 30 rfl ?_; first | refine Runs.cond_t rfl ?_ | refine Runs.cond_f rfl ?_ | ((first | refine Runs.cond_no rfl ?_ ?_ | refine Runs.cond_nyes rfl ?_ ?_); · first | omega | rfl | assumption) | refine Runs.cond_dec rfl (fun h => ?_) (fun h => ?_) | refine Runs.ret (ends_ro hm rfl rfl ?_) | exact Runs.ret (ends_cellR hm rfl rfl rfl (Nat.le_of_ble_eq_true rfl) rfl rfl))
 | (refine RunsL.pe hn rfl rfl rfl ?_; first
 | refine ⟨_, pu_add rfl rfl (by omega), ?_⟩
 | refine ⟨_, pu_build rfl rfl rfl rfl rfl rfl, ?_⟩))
    rw [itoa_zero]
  have hd : (digPre n).length ≤ 20 := by
    rcases Int.lt_or_gt_of_ne h0 with h | h
    · rw [itoa_neg n h] at hlen; simp only [List.length_cons] at hlen; omega
    · rw [itoa_pos n h] at hlen; exact hlen
  repeat' (first
 | refine RunsL.step tabOk hn rfl ?_
 | refine RunsL.nil ?_
 | refine Runs.toRegion 30 rfl ?_
 | (refine Runs.ctls 30 rfl ?_; first | refine Runs.cond_t rfl ?_ | refine Runs.cond_f rfl ?_ | ((first | refine Runs.cond_no rfl ?_ ?_ | refine Runs.cond_nyes rfl ?_ ?_); · first | omega | rfl | assumption) | refine Runs.cond_dec rfl (fun h => ?_) (fun h => ?_) | refine Runs.ret (ends_ro hm rfl rfl ?_) | exact Runs.ret (ends_cellR hm rfl rfl rfl (Nat.le_of_ble_eq_true rfl) rfl rfl))
 | (refine RunsL.pe hn rfl rfl rfl ?_; first
 | refine ⟨_, pu_add rfl rfl (by omega), ?_⟩
 | refine ⟨_, pu_build rfl rfl rfl rfl rfl rfl, ?_⟩))
  refine Runs.loopI 30 rfl (fun m E s => ∃ (x : Int) (l : List UInt8), x.natAbs ≤ m ∧ x.natAbs ≤ n.natAbs ∧ I64 x ∧ digPre n = digPre x ++ l ∧ E = [(0, .int n), (3, .str ⟨l.toArray⟩), (4, .int x)] ∧ s = []) n.natAbs [(0, .int n), (3, .str ⟨#[]⟩), (4, .int n)] ⟨rfl, rfl, rfl, trivial⟩ ⟨n, [], Nat.le_refl _, Nat.le_refl _, hI, by simp, rfl, rfl⟩ fun m E s ⟨x, l, hm', hxn, hxb, hl, hE, hs⟩ ih => ?_
  subst hE; subst hs
  have hll : l.length ≤ 20 := by rw [hl, List.length_append] at hd; omega
  by_cases hx : x = 0
  · subst hx
    have hl0 : digPre n = l := by rw [hl]; simp [digPre]
    clear ih
    repeat' (first
 | refine RunsL.step tabOk hn rfl ?_
 | refine RunsL.nil ?_
 | refine Runs.toRegion 30 rfl ?_
 | (refine RunsL.pe hn rfl rfl rfl ?_; first
 | refine ⟨_, pu_cat rfl rfl (by rw [ba_size]; show 1 + l.length ≤ _; omega), ?_⟩)
 | (refine Runs.ctls 30 rfl ?_; first | refine Runs.cond_t rfl ?_ | refine Runs.cond_f rfl ?_ | ((first | refine Runs.cond_no rfl ?_ ?_ | refine Runs.cond_nyes rfl ?_ ?_); · first | omega | rfl | assumption) | refine Runs.cond_dec rfl (fun h => ?_) (fun h => ?_) | refine Runs.ret (ends_ro hm rfl rfl ?_) | exact Runs.ret (ends_cellR hm rfl rfl rfl (Nat.le_of_ble_eq_true rfl) rfl rfl))
 | (refine RunsL.pe hn rfl rfl rfl ?_; first
 | refine ⟨_, pu_add rfl rfl (by omega), ?_⟩
 | refine ⟨_, pu_build rfl rfl rfl rfl rfl rfl, ?_⟩))
    · refine rr_ro ?_
      rw [itoa_neg n h, hl0, show (⟨#[45]⟩ : ByteArray) = ⟨[45].toArray⟩ from rfl, ba_cat]
      rfl
    · refine rr_ro ?_
      rw [itoa_pos n (by omega), hl0]
  · have hst := digPre_step x hx
    have hq := tdiv_abs x
    have hr := tmod_abs x
    have hng : I64 (-(x.tmod 10)) := by omega
    repeat' (first
 | refine RunsL.step tabOk hn rfl ?_
 | refine RunsL.nil ?_
 | refine Runs.toRegion 30 rfl ?_
 | (refine RunsL.pe hn rfl rfl rfl ?_; first
 | refine ⟨_, pu_quo10 rfl rfl hxb, ?_⟩
 | refine ⟨_, pu_rem10 rfl rfl, ?_⟩
 | refine ⟨_, pu_neg rfl hng, ?_⟩
 | refine ⟨_, pu_toU8 rfl, ?_⟩
 | refine ⟨_, pu_string (l := [_]) Try.underlying22 Try.underlying5 Try.underlying9 rfl, ?_⟩
 | refine ⟨_, pu_cat rfl rfl (by rw [ba_size, ba_size]; show 1 + l.length ≤ _; omega), ?_⟩)
 | (refine Runs.ctls 30 rfl ?_; first | refine Runs.cond_t rfl ?_ | refine Runs.cond_f rfl ?_ | ((first | refine Runs.cond_no rfl ?_ ?_ | refine Runs.cond_nyes rfl ?_ ?_); · first | omega | rfl | assumption) | refine Runs.cond_dec rfl (fun h => ?_) (fun h => ?_) | refine Runs.ret (ends_ro hm rfl rfl ?_) | exact Runs.ret (ends_cellR hm rfl rfl rfl (Nat.le_of_ble_eq_true rfl) rfl rfl))
 | (refine RunsL.pe hn rfl rfl rfl ?_; first
 | refine ⟨_, pu_add rfl rfl (by omega), ?_⟩
 | refine ⟨_, pu_build rfl rfl rfl rfl rfl rfl, ?_⟩))
    · refine ih (x.tdiv 10).natAbs _ _ _ (by omega) ⟨x.tdiv 10, UInt8.ofNat (48 + x.natAbs % 10) :: l, Nat.le_refl _, by omega, by omega, ?_, rfl, rfl⟩ ⟨rfl, ?_, rfl, trivial⟩
      · rw [hl, hst]; simp
      · exact str_step (by omega)
    · refine ih (x.tdiv 10).natAbs _ _ _ (by omega) ⟨x.tdiv 10, UInt8.ofNat (48 + x.natAbs % 10) :: l, Nat.le_refl _, by omega, by omega, ?_, rfl, rfl⟩ ⟨rfl, ?_, rfl, trivial⟩
      · rw [hl, hst]; simp
      · exact str_step (by omega)
end Go.Proofs.Ytnecoghfhcimeaa
/- The draw of an integer's rule. -/
namespace Go.Proofs.Ytnecoghfhcimeaa
set_option linter.unusedSimpArgs false
set_option linter.unusedVariables false
set_option linter.unusedSectionVars false
open Go.RowKit
open AV (Mem Keeps)
def IsInt (d : Des) (x : Int) : Prop := 0 ≤ x ∧ x < d.length ∧ ∃ r, d[x.toNat]? = some r ∧ r.kind = 1
def intIdx (d : Des) : Nat → List Int
  | 0 => []
  | j + 1 => intIdx d j ++ (match d[j]? with | some r => if r.kind = 1 then [(j : Int)] else [] | none => [])
theorem intIdx_yes {d : Des} {j : Nat} {r : Rul} (h : d[j]? = some r) (hk : r.kind = 1) : intIdx d (j + 1) = intIdx d j ++ [(j : Int)] := by simp [intIdx, h, hk]
theorem intIdx_no {d : Des} {j : Nat} {r : Rul} (h : d[j]? = some r) (hk : ¬ r.kind = 1) : intIdx d (j + 1) = intIdx d j := by simp [intIdx, h, hk]
theorem intIdx_len (d : Des) : ∀ j, (intIdx d j).length ≤ j
  | 0 => by simp [intIdx]
  | j + 1 => by
    have := intIdx_len d j
    simp only [intIdx, List.length_append]
    split
    · split <;> simp <;> omega
    · simp; omega
theorem intIdx_mem (d : Des) : ∀ j x, x ∈ intIdx d j → IsInt d x
  | 0, x, h => by simp [intIdx] at h
  | j + 1, x, h => by
    simp only [intIdx, List.mem_append] at h
    rcases h with h | h
    · exact intIdx_mem d j x h
    · split at h
      · rename_i r hr
        split at h
        · simp at h; subst h
          have := (List.getElem?_eq_some_iff.1 hr).1
          exact ⟨by omega, by omega, r, by simpa using hr, by assumption⟩
        · simp at h
      · simp at h
theorem intIdx_pos {d : Des} {r : Rul} (h : d[0]? = some r) (hk : r.kind = 1) : ∀ j, 0 < (intIdx d (j + 1)).length
  | 0 => by rw [intIdx_yes h hk]; simp
  | j + 1 => by
    have := intIdx_pos h hk j
    rw [intIdx, List.length_append]; omega
theorem flat1 {α : Type} (f : α → RV) : ∀ l : List α, (l.map fun z => [f z]).flatten = l.map f
  | [] => rfl
  | x :: l => by simp [flat1 f l]
theorem len1 {α : Type} (f : α → RV) (l : List α) : ∀ x ∈ l.map (fun z => [f z]), x.length = 1 := fun x hx => by
  obtain ⟨z, _, rfl⟩ := List.mem_map.1 hx; rfl
theorem l4Integer_d (b : List UInt8) (hb : b.length ≤ 1048576) (d : Des) (hd : d.length ≤ 24) (r0 : Rul) (h0 : d[0]? = some r0) (hk0 : r0.kind = 1) : Drw Try.prog 123 157 b [desR d] (QI (IsInt d)) := by
  have hlm : (d.map rulR).length = d.length := List.length_map ..
  refine drw_enter Try.func157 rfl _ Try.ntmps157 (by simp) fun C g u i h hn hm hu hi => ?_
  repeat' (first
 | refine RunsL.step tabOk hn rfl ?_
 | refine RunsL.nil ?_
 | refine Runs.toRegion 30 rfl ?_
 | refine op_build0 (tl hn rfl) ?_
 | (refine Runs.ctls 30 rfl ?_; first | (refine Runs.cond_yes rfl ?_ ?_; · first | omega | rfl | assumption | (simp only [List.length_map]; omega)) | (refine Runs.cond_no rfl ?_ ?_; · first | omega | rfl | assumption | (simp only [List.length_map]; omega)) | refine Runs.ret (ends_ro hm rfl rfl ?_) | exact Runs.ret (ends_cellR hm rfl rfl rfl (Nat.le_of_ble_eq_true rfl) rfl rfl))
 | refine op_box rfl (tl hn rfl) ?_
 | (refine RunsL.pe hn rfl rfl rfl ?_; first
 | refine ⟨_, pu_add rfl rfl (by omega), ?_⟩
 | refine ⟨_, pu_indexAddr_map rfl rfl (by omega) (by assumption), ?_⟩
 | refine ⟨_, pu_build rfl rfl rfl rfl rfl rfl, ?_⟩))
  refine Runs.loopN 30 rfl (fun j => [(0, .pin 0 0 g), (3, .obj 1 0), (5, .own 2), (6, .int (j : Int))]) (fun j => [curOb 123 u i h, ⟨38, 0, [.ro (rulsR d)]⟩, ⟨3, 1, ((intIdx d j).map RV.int).map .ro⟩]) (fun _ => True) d.length 0 (Nat.zero_le _) trivial ⟨rfl, rfl, rfl, rfl, trivial⟩ rfl fun j hj _ next => ?_
  have hil := intIdx_len d j
  have hxl : ((intIdx d j).map RV.int).length = (intIdx d j).length := List.length_map ..
  by_cases hlt : j < d.length
  · obtain ⟨r, hr⟩ : ∃ r, d[(j : Int).toNat]? = some r := ⟨_, List.getElem?_eq_getElem (by simpa using hlt)⟩
    have hr' : d[j]? = some r := hr
    by_cases hk : r.kind = 1
    · repeat' (first
 | (refine RunsL.pe hn rfl rfl rfl ?_; first
 | refine ⟨_, pu_len_seqN d.length rfl hlm, ?_⟩)
 | refine RunsL.step tabOk hn rfl ?_
 | refine RunsL.nil ?_
 | refine Runs.toRegion 30 rfl ?_
 | refine op_append (n := (intIdx d j).length) rfl rfl rfl rfl rfl rfl (by rw [hxl, Nat.mul_one]) (FreeI.at_ ⟨by simp [curOb, AV.onlys, AV.only], by simp [AV.onlys, AV.only], onlys_ro _ _, trivial⟩) (by simp; omega) (by simp; omega) (tl hn rfl) ?_
 | (refine RunsL.pe hn rfl rfl rfl ?_; first
 | refine ⟨_, pu_build rfl rfl rfl rfl rfl rfl, ?_⟩)
 | (refine Runs.ctls 30 rfl ?_; first | (refine Runs.cond_yes rfl ?_ ?_; · first | omega | rfl | assumption | (simp only [List.length_map]; omega)) | (refine Runs.cond_no rfl ?_ ?_; · first | omega | rfl | assumption | (simp only [List.length_map]; omega)) | refine Runs.ret (ends_ro hm rfl rfl ?_) | exact Runs.ret (ends_cellR hm rfl rfl rfl (Nat.le_of_ble_eq_true rfl) rfl rfl))
 | refine op_box rfl (tl hn rfl) ?_
 | (refine RunsL.pe hn rfl rfl rfl ?_; first
 | refine ⟨_, pu_add rfl rfl (by omega), ?_⟩
 | refine ⟨_, pu_indexAddr_map rfl rfl (by omega) (by assumption), ?_⟩
 | refine ⟨_, pu_build rfl rfl rfl rfl rfl rfl, ?_⟩))
      exact next _ _ ⟨rfl, rfl, rfl, rfl, trivial⟩ hlt trivial (by rw [intIdx_yes hr' hk]; simp)
    · repeat' (first
 | (refine RunsL.pe hn rfl rfl rfl ?_; first
 | refine ⟨_, pu_len_seqN d.length rfl hlm, ?_⟩)
 | refine RunsL.step tabOk hn rfl ?_
 | refine RunsL.nil ?_
 | refine Runs.toRegion 30 rfl ?_
 | (refine Runs.ctls 30 rfl ?_; first | (refine Runs.cond_yes rfl ?_ ?_; · first | omega | rfl | assumption | (simp only [List.length_map]; omega)) | (refine Runs.cond_no rfl ?_ ?_; · first | omega | rfl | assumption | (simp only [List.length_map]; omega)) | refine Runs.ret (ends_ro hm rfl rfl ?_) | exact Runs.ret (ends_cellR hm rfl rfl rfl (Nat.le_of_ble_eq_true rfl) rfl rfl))
 | refine op_box rfl (tl hn rfl) ?_
 | (refine RunsL.pe hn rfl rfl rfl ?_; first
 | refine ⟨_, pu_add rfl rfl (by omega), ?_⟩
 | refine ⟨_, pu_indexAddr_map rfl rfl (by omega) (by assumption), ?_⟩
 | refine ⟨_, pu_build rfl rfl rfl rfl rfl rfl, ?_⟩))
      exact next _ _ ⟨rfl, rfl, rfl, rfl, trivial⟩ hlt trivial (by rw [intIdx_no hr' hk])
  · have ej : j = d.length := by omega
    subst ej
    have hpos : 0 < (intIdx d d.length).length := by
      obtain ⟨m, hm⟩ : ∃ m, d.length = m + 1 := ⟨d.length - 1, by have := (List.getElem?_eq_some_iff.1 h0).1; omega⟩
      rw [hm]; exact intIdx_pos h0 hk0 m
    repeat' (first
 | (refine op_drawI (l1Int_d b hb (intIdx d d.length) hpos (by omega)) rfl hu hi rfl (.cons (LendsP.own (i := 2) (o := ⟨3, 1, _⟩) (els := (intIdx d d.length).map fun z => [RV.int z]) (by decide) rfl (by rw [flat1]) (len1 _ _)) .nil) rfl (by first | rfl | repeat' (first | rfl | exact clns_ro _ | refine clnO_cons ?_ ?_)) (tl hn rfl) ?_; intro i h x hi hx)
 | (refine RunsL.pe hn rfl rfl rfl ?_; first
 | refine ⟨_, pu_len_seqN d.length rfl hlm, ?_⟩)
 | refine RunsL.step tabOk hn rfl ?_
 | refine RunsL.nil ?_
 | refine Runs.toRegion 30 rfl ?_
 | (refine Runs.ctls 30 rfl ?_; first | (refine Runs.cond_yes rfl ?_ ?_; · first | omega | rfl | assumption | (simp only [List.length_map]; omega)) | (refine Runs.cond_no rfl ?_ ?_; · first | omega | rfl | assumption | (simp only [List.length_map]; omega)) | refine Runs.ret (ends_ro hm rfl rfl ?_) | exact Runs.ret (ends_cellR hm rfl rfl rfl (Nat.le_of_ble_eq_true rfl) rfl rfl))
 | refine op_box rfl (tl hn rfl) ?_
 | (refine RunsL.pe hn rfl rfl rfl ?_; first
 | refine ⟨_, pu_add rfl rfl (by omega), ?_⟩
 | refine ⟨_, pu_indexAddr_map rfl rfl (by omega) (by assumption), ?_⟩
 | refine ⟨_, pu_build rfl rfl rfl rfl rfl rfl, ?_⟩))
    exact Runs.ctls 30 rfl (Runs.ret (endsD_ro hm rfl rfl rfl hi rfl ⟨_, rfl, intIdx_mem d _ _ hx⟩))
end Go.Proofs.Ytnecoghfhcimeaa
/- The draw of a rule: what it may be. -/
namespace Go.Proofs.Ytnecoghfhcimeaa
set_option linter.unusedSimpArgs false
set_option linter.unusedVariables false
set_option linter.unusedSectionVars false
open Go.RowKit
open AV (Mem Keeps)
def baseA : List ByteArray := [⟨#[97]⟩, ⟨#[105, 116, 101, 109]⟩, ⟨#[98]⟩, ⟨#[104, 101, 97, 100]⟩, ⟨#[120]⟩]
def baseP : List ByteArray := [⟨#[112]⟩, ⟨#[113]⟩, ⟨#[114]⟩]
def itoaS (n : Int) : ByteArray := ⟨(Lib.itoa n).toArray⟩
theorem baseA_size : ∀ x ∈ baseA, x.size ≤ 4 := by
  intro x hx
  simp only [baseA, List.mem_cons, List.not_mem_nil, or_false] at hx
  rcases hx with rfl | rfl | rfl | rfl | rfl <;> decide
theorem baseP_size : ∀ x ∈ baseP, x.size ≤ 4 := by
  intro x hx
  simp only [baseP, List.mem_cons, List.not_mem_nil, or_false] at hx
  rcases hx with rfl | rfl | rfl <;> decide
def InD (d : Des) (z : Int) : Prop := (d.length = 0 → z = 0) ∧ (0 < d.length → 0 ≤ z ∧ z < d.length)
structure RuleD (d : Des) (kind : Int) (r : Rul) : Prop where
  hkind : r.kind = kind
  hname : ∃ a ∈ baseA, r.name = a ++ itoaS d.length
  hsize : (kind = 1 → 1 ≤ r.size ∧ r.size ≤ 3) ∧ (kind = 3 → 1 ≤ r.size ∧ r.size ≤ 4) ∧ (kind ≠ 1 → kind ≠ 3 → r.size = 0)
  hlittle : r.little = true → kind = 1 ∧ 1 < r.size
  hbytes : (kind = 2 → 1 ≤ r.bytes.length ∧ r.bytes.length ≤ 3) ∧ (kind = 10 → ∃ x ∈ ([0, 10, 59, 255] : List Int), r.bytes = [u8i x]) ∧ (kind ≠ 2 → kind ≠ 10 → r.bytes = [])
  hnames : (kind = 6 → 1 ≤ r.names.length ∧ r.names.length ≤ 3 ∧ ∀ (j : Nat) x, r.names[j]? = some x → ∃ a ∈ baseP, x = a ++ itoaS ((r.names.length : Int) - j)) ∧ (kind ≠ 6 → r.names = [])
  htags : (kind = 7 → 1 ≤ r.tags.length ∧ r.tags.length ≤ 3 ∧ ∀ (j : Nat) z, r.tags[j]? = some z → 4 * (j : Int) ≤ z ∧ z ≤ 4 * j + 3) ∧ (kind ≠ 7 → r.tags = [])
  hkids : (kind = 4 → ∃ x, IsInt d x ∧ r.kids = [x]) ∧ (kind = 5 → ∃ x y, IsInt d x ∧ InD d y ∧ r.kids = [x, y]) ∧ (kind = 6 → r.kids.length = r.names.length ∧ ∀ z ∈ r.kids, InD d z) ∧
    (kind = 7 → ∃ x l, IsInt d x ∧ l.length = r.tags.length ∧ (∀ z ∈ l, InD d z) ∧ r.kids = x :: l) ∧ (kind = 8 ∨ kind = 9 → ∃ y, InD d y ∧ r.kids = [y]) ∧ (kind = 1 ∨ kind = 2 ∨ kind = 3 ∨ kind = 10 → r.kids = [])
section
variable {d : Des} {a : ByteArray}
theorem ruleD1 {s : Int} {lt : Bool} (ha : a ∈ baseA) (h : 1 ≤ s ∧ s ≤ 3) (hl : lt = true → 1 < s) : RuleD d 1 ⟨a ++ itoaS d.length, 1, s, lt, [], [], [], []⟩ :=
  ⟨rfl, ⟨a, ha, rfl⟩, by simp; exact h, fun e => ⟨rfl, hl e⟩, by simp, by simp, by simp, by simp⟩
theorem ruleD2 {x : List UInt8} (ha : a ∈ baseA) (h : 1 ≤ x.length ∧ x.length ≤ 3) : RuleD d 2 ⟨a ++ itoaS d.length, 2, 0, false, x, [], [], []⟩ :=
  ⟨rfl, ⟨a, ha, rfl⟩, by simp, by simp, by simp; exact h, by simp, by simp, by simp⟩
theorem ruleD3 {s : Int} (ha : a ∈ baseA) (h : 1 ≤ s ∧ s ≤ 4) : RuleD d 3 ⟨a ++ itoaS d.length, 3, s, false, [], [], [], []⟩ :=
  ⟨rfl, ⟨a, ha, rfl⟩, by simp; exact h, by simp, by simp, by simp, by simp, by simp⟩
theorem ruleD4 {x : Int} (ha : a ∈ baseA) (h : IsInt d x) : RuleD d 4 ⟨a ++ itoaS d.length, 4, 0, false, [], [], [], [x]⟩ :=
  ⟨rfl, ⟨a, ha, rfl⟩, by simp, by simp, by simp, by simp, by simp, by simp [h]⟩
theorem ruleD5 {x y : Int} (ha : a ∈ baseA) (h : IsInt d x) (hy : InD d y) : RuleD d 5 ⟨a ++ itoaS d.length, 5, 0, false, [], [], [], [x, y]⟩ :=
  ⟨rfl, ⟨a, ha, rfl⟩, by simp, by simp, by simp, by simp, by simp, by simp [h, hy]⟩
theorem ruleD6 {l : List ByteArray} {k : List Int} (ha : a ∈ baseA) (h : 1 ≤ l.length ∧ l.length ≤ 3) (hl : ∀ (j : Nat) x, l[j]? = some x → ∃ a ∈ baseP, x = a ++ itoaS ((l.length : Int) - j)) (hk : k.length = l.length) (hk' : ∀ z ∈ k, InD d z) : RuleD d 6 ⟨a ++ itoaS d.length, 6, 0, false, [], l, [], k⟩ :=
  ⟨rfl, ⟨a, ha, rfl⟩, by simp, by simp, by simp, ⟨fun _ => ⟨h.1, h.2, hl⟩, by simp⟩, by simp, by simp; exact ⟨hk, hk'⟩⟩
theorem ruleD7 {t k : List Int} {x : Int} (ha : a ∈ baseA) (h : 1 ≤ t.length ∧ t.length ≤ 3) (ht : ∀ (j : Nat) z, t[j]? = some z → 4 * (j : Int) ≤ z ∧ z ≤ 4 * j + 3) (hx : IsInt d x) (hk : k.length = t.length) (hk' : ∀ z ∈ k, InD d z) : RuleD d 7 ⟨a ++ itoaS d.length, 7, 0, false, [], [], t, x :: k⟩ :=
  ⟨rfl, ⟨a, ha, rfl⟩, by simp, by simp, by simp, by simp, ⟨fun _ => ⟨h.1, h.2, ht⟩, by simp⟩, ⟨by simp, by simp, by simp, fun _ => ⟨x, k, hx, hk, hk', rfl⟩, by simp, by simp⟩⟩
theorem ruleD8 {y : Int} (ha : a ∈ baseA) (hy : InD d y) : RuleD d 8 ⟨a ++ itoaS d.length, 8, 0, false, [], [], [], [y]⟩ :=
  ⟨rfl, ⟨a, ha, rfl⟩, by simp, by simp, by simp, by simp, by simp, by simp [hy]⟩
theorem ruleD9 {y : Int} (ha : a ∈ baseA) (hy : InD d y) : RuleD d 9 ⟨a ++ itoaS d.length, 9, 0, false, [], [], [], [y]⟩ :=
  ⟨rfl, ⟨a, ha, rfl⟩, by simp, by simp, by simp, by simp, by simp, by simp [hy]⟩
theorem ruleD10 {y : Int} (ha : a ∈ baseA) (hy : y ∈ ([0, 10, 59, 255] : List Int)) : RuleD d 10 ⟨a ++ itoaS d.length, 10, 0, false, [u8i y], [], [], []⟩ :=
  ⟨rfl, ⟨a, ha, rfl⟩, by simp, by simp, ⟨by simp, fun _ => ⟨y, hy, rfl⟩, by simp⟩, by simp, by simp, by simp⟩
end
def rulRR (r : Rul) : RR := .agg [.ro (.str r.name), .ro (.int r.kind), .ro (.int r.size), .ro (.bool r.little), .row 5 1 (r.bytes.map RV.u8), .row 9 1 (r.names.map RV.str), .row 3 1 (r.tags.map RV.int), .row 3 1 (r.kids.map RV.int)]
def rC (r : Rul) (a b c d : Nat) : List AV := [.str r.name, .int r.kind, .int r.size, .bool r.little, .own a, .own b, .own c, .own d]
def rowU (l : List UInt8) : Ob := ⟨5, 1, (l.map RV.u8).map .ro⟩
def rowS (l : List ByteArray) : Ob := ⟨9, 1, (l.map RV.str).map .ro⟩
def rowZ (l : List Int) : Ob := ⟨3, 1, (l.map RV.int).map .ro⟩
theorem harv_rul {σ : List Ob} {r : Rul} {a b c d : Nat} (h1 : σ[a]? = some (rowU r.bytes)) (h2 : σ[b]? = some (rowS r.names)) (h3 : σ[c]? = some (rowZ r.tags)) (h4 : σ[d]? = some (rowZ r.kids)) : Harv σ (rulRR r) (.agg (rC r a b c d)) [a, b, c, d] := by
  simp only [rulRR, rC, Harv, Harvs, rowU, rowS, rowZ] at *
  exact ⟨_, rfl, _, _, [], _, rfl, rfl, ⟨rfl, rfl⟩, _, _, [], _, rfl, rfl, ⟨rfl, rfl⟩, _, _, [], _, rfl, rfl, ⟨rfl, rfl⟩, _, _, [], _, rfl, rfl, ⟨rfl, rfl⟩, _, _, [a], _, rfl, rfl, ⟨a, rfl, h1, rfl⟩, _, _, [b], _, rfl, rfl, ⟨b, rfl, h2, rfl⟩, _, _, [c], _, rfl, rfl, ⟨c, rfl, h3, rfl⟩, _, _, [d], [], rfl, rfl, ⟨d, rfl, h4, rfl⟩, rfl, rfl⟩
def QRul (p : Rul → Prop) (rr : RR) : Prop := ∃ r, rr = rulRR r ∧ p r
set_option maxRecDepth 100000 in
instance tb_rule : TB Try.prog 52 [(0, 1), (1, 1), (2, 1), (3, 1), (4, 1), (5, 1), (6, 1), (7, 1)] [.string ⟨#[]⟩, .int .i64 0, .int .i64 0, .bool false, .slice none 0 0, .slice none 0 0, .slice none 0 0, .slice none 0 0] := ⟨_, _, _, rfl, rfl, rfl, rfl, by kernel_rfl, by decide⟩
theorem ends_rul {C : Ctx} {fn : Func} {ct : TypeId} {b : List UInt8} {g : Nat} {u : Value} {p : Rul → Prop} {env : Env} {σ : List Ob} {i h : Int} {more : List Ob} {t j : Nat} {r : Rul} {tt : TypeId} {x y z w : Nat} (hm : ∀ x, C.mu x → x = g) (hr : fn.results = #[.cell t 52]) (hσ : σ = curOb ct u i h :: more) (ht : look env 0 = .pin 0 0 g) (hi : CurOk b i) (h1 : look env t = .obj j 0) (h2 : σ[j]? = some ⟨tt, 0, rC r x y z w⟩)
    (k1 : σ[x]? = some (rowU r.bytes)) (k2 : σ[y]? = some (rowS r.names)) (k3 : σ[z]? = some (rowZ r.tags)) (k4 : σ[w]? = some (rowZ r.kids)) (hn : [x, y, z, w].Nodup) (h0 : 0 ∉ [x, y, z, w]) (hQ : p r) : ∀ a w, Sim C ⟨env, σ⟩ a w → EndsD Try.prog C fn ct b g u (QRul p) a w :=
  endsD1 hm hr hσ ht hi (.agg (rC r x y z w)) (by
    simp only [ResV]
    exact ⟨j, 0, _, h1, h2, .inr ⟨8, by infer_instance, Nat.le_refl _, rfl⟩⟩) (rulRR r) [x, y, z, w] (harv_rul k1 k2 k3 k4) hn h0 ⟨r, rfl, hQ⟩
end Go.Proofs.Ytnecoghfhcimeaa
/- What is known of a description that may be spoilt. -/
namespace Go.Proofs.Ytnecoghfhcimeaa
set_option linter.unusedSimpArgs false
set_option linter.unusedVariables false
set_option linter.unusedSectionVars false
open Go.RowKit
def AnyD (d : Des) : Prop := DesOk d ∧ dtotal d ≤ 1048576 ∧ d.length ≤ 24
def QAny (rr : RR) : Prop := ∃ d, rr = .ro (desR d) ∧ AnyD d
theorem qany_ok : ∀ rr, QAny rr → ∃ r, Seals rr r ∧ ∃ d, r = desR d ∧ AnyD d := by
  rintro _ ⟨d, rfl, h⟩
  exact ⟨desR d, by simp only [Seals], d, rfl, h⟩
end Go.Proofs.Ytnecoghfhcimeaa
/- Regions that draw their order, without calls: walked once for each order. Over any program. -/
namespace Go.Proofs.Ytnecoghfhcimeaa
set_option linter.unusedSimpArgs false
set_option linter.unusedVariables false
set_option linter.unusedSectionVars false
open Go.RowKit
open AV (Mem Keeps)
structure Nv (s : Sem Next) : Prop where
  val : ∀ (P : Program) (w : World) (x : Next) (w' : World), s.run P w = .ok x w' → (∃ v, x = .value v) ∨ x = .skip
theorem Nv.of {s : Sem Value} : Nv (do Pure.pure (.value (← s)) : Sem Next) := ⟨fun P w x w' e => by
  rw [Sem.run_bind] at e
  cases hs : s.run P w with
  | ok a w1 => rw [hs] at e; simp only [Result.andThen_ok, Sem.run_pure] at e; injection e with e; exact .inl ⟨a, e.symm⟩
  | halt q w1 => rw [hs] at e; cases e⟩
def sel (l : List Oper) : List Nat → List Oper
  | [] => []
  | i :: is => match l[i]? with
    | some o => o :: sel l is
    | none => sel l is
section
variable {P : Program} {C : Ctx} {k : List Item} {R : Act → World → Prop} {env : Env} {σ : List Ob}
def AllOrd (P : Program) (C : Ctx) (l : List Oper) (k : List Item) (R : Act → World → Prop) (S : St) : List (List Nat) → Prop
  | [] => True
  | π :: L => RunsL P C l.toArray (sel l π) k R S ∧ AllOrd P C l k R S L
theorem AllOrd.at_ {l : List Oper} {S : St} : ∀ {L : List (List Nat)}, AllOrd P C l k R S L → ∀ π ∈ L, RunsL P C l.toArray (sel l π) k R S
  | [], _, π, h => by simp at h
  | ρ :: L, hL, π, h => by
    rcases List.mem_cons.1 h with rfl | h
    · exact hL.1
    · exact AllOrd.at_ hL.2 π h
end
end Go.Proofs.Ytnecoghfhcimeaa
/- Values with memory of their own, however deep: what a call makes, kept as plain values of a frame. Over any program. -/
namespace Go.Proofs.Ytnecoghfhcimeaa
set_option linter.unusedSimpArgs false
set_option linter.unusedVariables false
set_option linter.unusedSectionVars false
open Go.RowKit
open AV (Mem Keeps)
inductive OV where
  | c (v : Value)
  | row (e : TypeId) (sz : Nat) (cs : List OV)
  | agg (cs : List OV)
  | tup (vs : List OV)
namespace OV
mutual
def rel (w : World) : OV → Value → List Nat → Prop
  | .c v, u, bs => u = v ∧ bs = []
  | .row e sz cs, u, bs => ∃ n xs bs', cs.length = n * sz ∧ 0 < sz ∧ rels w cs xs bs' ∧ (∀ x ∈ xs, x.oneCell' = true) ∧ w.ownsRow 0 e sz u n xs ∧ bs = u.ownBlock.toList ++ bs'
  | .agg cs, u, bs => ∃ us : Array Value, u = .agg us ∧ rels w cs us.toList bs
  | .tup cs, u, bs => ∃ us : Array Value, u = .tuple us ∧ rels w cs us.toList bs
def rels (w : World) : List OV → List Value → List Nat → Prop
  | [], us, bs => us = [] ∧ bs = []
  | x :: xs, us, bs => ∃ u us' b bs', us = u :: us' ∧ bs = b ++ bs' ∧ rel w x u b ∧ rels w xs us' bs'
end
theorem ownsRow_keep {w w' : World} {e : TypeId} {sz n : Nat} {u : Value} {xs : List Value} (h : w.ownsRow 0 e sz u n xs) (hb : ∀ b ∈ u.ownBlock.toList, w'.heap[b]? = w.heap[b]?) : w'.ownsRow 0 e sz u n xs := by
  obtain ⟨h1, h2⟩ := h
  refine ⟨h1, ?_⟩
  rcases h2 with h2 | ⟨g, cap, cur, rfl, h3, h4, h5⟩
  · exact .inl h2
  · exact .inr ⟨g, cap, cur, rfl, h3, (hb g (by simp [Value.ownBlock])).trans h4, h5⟩
mutual
theorem rel_keep {w w' : World} : ∀ (o : OV) (u : Value) (bs : List Nat), rel w o u bs → (∀ b ∈ bs, w'.heap[b]? = w.heap[b]?) → rel w' o u bs
  | .c v, u, bs, h, _ => by simpa [rel] using h
  | .row e sz cs, u, bs, h, hb => by
    simp only [rel] at h ⊢
    obtain ⟨n, xs, bs', h1, h2, h3, h4, h5, rfl⟩ := h
    exact ⟨n, xs, bs', h1, h2, rels_keep cs xs bs' h3 fun b hm => hb b (List.mem_append.2 (.inr hm)), h4, ownsRow_keep h5 fun b hm => hb b (List.mem_append.2 (.inl hm)), rfl⟩
  | .agg cs, u, bs, h, hb => by
    simp only [rel] at h ⊢
    obtain ⟨us, e, h1⟩ := h
    exact ⟨us, e, rels_keep cs _ bs h1 hb⟩
  | .tup cs, u, bs, h, hb => by
    simp only [rel] at h ⊢
    obtain ⟨us, e, h1⟩ := h
    exact ⟨us, e, rels_keep cs _ bs h1 hb⟩
theorem rels_keep {w w' : World} : ∀ (os : List OV) (us : List Value) (bs : List Nat), rels w os us bs → (∀ b ∈ bs, w'.heap[b]? = w.heap[b]?) → rels w' os us bs
  | [], us, bs, h, _ => by simpa [rels] using h
  | x :: xs, us, bs, h, hb => by
    simp only [rels] at h ⊢
    obtain ⟨u, us', b, bs', e1, rfl, h1, h2⟩ := h
    exact ⟨u, us', b, bs', e1, rfl, rel_keep x u b h1 fun c hm => hb c (List.mem_append.2 (.inl hm)), rels_keep xs us' bs' h2 fun c hm => hb c (List.mem_append.2 (.inr hm))⟩
end
theorem rels_len {w : World} : ∀ (os : List OV) (us : List Value) (bs : List Nat), rels w os us bs → us.length = os.length
  | [], us, bs, h => by simp only [rels] at h; simp [h.1]
  | x :: xs, us, bs, h => by
    simp only [rels] at h
    obtain ⟨u, us', b, bs', rfl, _, _, h2⟩ := h
    simp [rels_len xs us' bs' h2]
theorem rels_c {w : World} : ∀ (vs : List Value), rels w (vs.map .c) vs []
  | [] => by simp [rels]
  | v :: vs => by simp only [List.map_cons, rels]; exact ⟨v, vs, [], [], rfl, rfl, by simp [rel], rels_c vs⟩
theorem rels_append {w : World} : ∀ (os os' : List OV) (us us' : List Value) (bs bs' : List Nat), rels w os us bs → rels w os' us' bs' → rels w (os ++ os') (us ++ us') (bs ++ bs')
  | [], os', us, us', bs, bs', h, h' => by simp only [rels] at h; obtain ⟨rfl, rfl⟩ := h; simpa using h'
  | x :: xs, os', us, us', bs, bs', h, h' => by
    simp only [rels] at h
    obtain ⟨u, ut, b, bt, rfl, rfl, h1, h2⟩ := h
    simp only [List.cons_append, rels]
    exact ⟨u, ut ++ us', b, bt ++ bs', rfl, by rw [List.append_assoc], h1, rels_append xs os' ut us' bt bs' h2 h'⟩
mutual
def Seal : OV → RV → Prop
  | .c v, r => r = .c v
  | .row _ sz cs, r => ∃ els, r = .seq sz els ∧ (∀ x ∈ els, x.length = sz) ∧ Seals cs els.flatten
  | .agg cs, r => ∃ rs, r = .agg rs ∧ Seals cs rs
  | .tup cs, r => ∃ rs, r = .tup rs ∧ Seals cs rs
def Seals : List OV → List RV → Prop
  | [], rs => rs = []
  | x :: xs, rs => ∃ r rs', rs = r :: rs' ∧ Seal x r ∧ Seals xs rs'
end
theorem seals_len : ∀ (os : List OV) (rs : List RV), Seals os rs → rs.length = os.length
  | [], rs, h => by simp only [Seals] at h; simp [h]
  | x :: xs, rs, h => by
    simp only [Seals] at h
    obtain ⟨r, rs', rfl, _, h2⟩ := h
    simp [seals_len xs rs' h2]
mutual
theorem seal_rel {w : World} {ok : Nat → Prop} : ∀ (o : OV) (r : RV) (u : Value) (bs : List Nat), Seal o r → rel w o u bs → (∀ b ∈ bs, ok b) → RV.rel w ok r u
  | .c v, r, u, bs, hs, h, _ => by
    simp only [Seal] at hs; subst hs
    simp only [rel] at h
    simpa only [RV.rel] using h.1
  | .row e sz cs, r, u, bs, hs, h, hb => by
    simp only [Seal] at hs
    obtain ⟨els, rfl, hl, hf⟩ := hs
    simp only [rel] at h
    obtain ⟨n, xs, bs', k1, k2, k3, k4, k5, rfl⟩ := h
    have hrs : RV.rels w ok els.flatten xs := seals_rel cs els.flatten xs bs' hf k3 fun b hm => hb b (List.mem_append.2 (.inr hm))
    have hn : n = els.length := by
      have h1 := flatten_len hl
      rw [seals_len cs _ hf, k1] at h1
      exact Nat.eq_of_mul_eq_mul_right k2 h1
    simp only [RV.rel]
    rcases k5.2 with ⟨rfl, h0⟩ | ⟨g, cap, cur, rfl, _, hh, c1, c2, c3, ht⟩
    · exact ⟨none, 0, 0, rfl, by omega, Nat.le_refl _, Nat.zero_le _, fun h => absurd h (by omega)⟩
    · refine ⟨some ⟨g, 0, none⟩, n, cap, rfl, hn, c1, c2, fun hn0 => ⟨g, 0, rfl, (Array.getElem?_eq_some_iff.1 hh).1, hb g (by simp [Value.ownBlock]), ?_⟩⟩
      refine RV.relE_of _ _ _ fun k el hk => ⟨hl el (List.mem_of_getElem? hk), RV.relAt_of _ _ fun j r hj => ?_⟩
      have hjl : j < sz := by have := (List.getElem?_eq_some_iff.1 hj).1; rwa [hl el (List.mem_of_getElem? hk)] at this
      have hfl := flatten_at hl k j el hk hjl
      rw [hj] at hfl
      obtain ⟨x, e1, e2⟩ := RV.rels_at _ xs hrs _ r hfl
      refine ⟨x, ?_, k4 x (List.mem_of_getElem? e1), e2⟩
      rw [cell_of_row w g _ cur _ _ hh, Nat.zero_add]
      rw [← ht, List.getElem?_take] at e1
      split at e1
      · simpa using e1
      · cases e1
  | .agg cs, r, u, bs, hs, h, hb => by
    simp only [Seal] at hs
    obtain ⟨rs, rfl, hf⟩ := hs
    simp only [rel] at h
    obtain ⟨us, rfl, h1⟩ := h
    simp only [RV.rel]
    exact ⟨us, rfl, seals_rel cs rs _ bs hf h1 hb⟩
  | .tup cs, r, u, bs, hs, h, hb => by
    simp only [Seal] at hs
    obtain ⟨rs, rfl, hf⟩ := hs
    simp only [rel] at h
    obtain ⟨us, rfl, h1⟩ := h
    simp only [RV.rel]
    exact ⟨us, rfl, seals_rel cs rs _ bs hf h1 hb⟩
theorem seals_rel {w : World} {ok : Nat → Prop} : ∀ (os : List OV) (rs : List RV) (us : List Value) (bs : List Nat), Seals os rs → rels w os us bs → (∀ b ∈ bs, ok b) → RV.rels w ok rs us
  | [], rs, us, bs, hs, h, _ => by
    simp only [Seals] at hs; subst hs
    simp only [rels] at h
    simp [RV.rels, h.1]
  | x :: xs, rs, us, bs, hs, h, hb => by
    simp only [Seals] at hs
    obtain ⟨r, rs', rfl, hs1, hs2⟩ := hs
    simp only [rels] at h
    obtain ⟨u, us', b, bs', rfl, rfl, h1, h2⟩ := h
    simp only [RV.rels]
    exact ⟨u, us', rfl, seal_rel x r u b hs1 h1 fun c hm => hb c (List.mem_append.2 (.inl hm)), seals_rel xs rs' us' bs' hs2 h2 fun c hm => hb c (List.mem_append.2 (.inr hm))⟩
end
end OV
structure Gh (C : Ctx) (ov : OV) (u : Value) (bs : List Nat) : Prop where
  rel : OV.rel C.w0 ov u bs
  fix : ∀ b ∈ bs, b < C.w0.heap.size ∧ ¬ C.mu b ∧ ¬ C.ok b
structure Nx (C C' : Ctx) (bs : List Nat) : Prop where
  n : C'.n = C.n
  os : C'.w0.os = C.w0.os
  tape : C'.w0.tape = C.w0.tape
  output : C'.w0.output = C.w0.output
  size : C.w0.heap.size ≤ C'.w0.heap.size
  block : ∀ b, b < C.w0.heap.size → ¬ C.mu b → b ∉ bs → C'.w0.heap[b]? = C.w0.heap[b]?
  mu : ∀ b, C'.mu b → C.mu b ∨ C.w0.heap.size ≤ b
  ok : ∀ b, C'.ok b → C.ok b
theorem Gh.next {C C' : Ctx} {ov : OV} {u : Value} {bs ds : List Nat} (h : Gh C ov u bs) (k : Nx C C' ds) (hd : ∀ b ∈ bs, b ∉ ds) : Gh C' ov u bs := by
  refine ⟨OV.rel_keep ov u bs h.rel fun b hb => k.block b (h.fix b hb).1 (h.fix b hb).2.1 (hd b hb), fun b hb => ⟨Nat.lt_of_lt_of_le (h.fix b hb).1 k.size, fun hm => ?_, fun ho => (h.fix b hb).2.2 (k.ok b ho)⟩⟩
  rcases k.mu b hm with h1 | h1
  · exact (h.fix b hb).2.1 h1
  · have := (h.fix b hb).1; omega
theorem Nx.trans {C C' C'' : Ctx} {bs ds : List Nat} (h : Nx C C' bs) (k : Nx C' C'' ds) : Nx C C'' (bs ++ ds) :=
  ⟨k.n.trans h.n, k.os.trans h.os, k.tape.trans h.tape, k.output.trans h.output, Nat.le_trans h.size k.size, fun b h1 h2 h3 => by
    rw [List.mem_append, not_or] at h3
    refine (k.block b (Nat.lt_of_lt_of_le h1 h.size) (fun hm => ?_) h3.2).trans (h.block b h1 h2 h3.1)
    rcases h.mu b hm with h4 | h4
    · exact h2 h4
    · omega, fun b hm => by
    rcases k.mu b hm with h4 | h4
    · exact h.mu b h4
    · exact .inr (Nat.le_trans h.size h4), fun b ho => h.ok b (k.ok b ho)⟩
theorem rel_constRV {w : World} {ok : Nat → Prop} (u : Value) : RV.rel w ok (constRV u) u := const_rel u
section
variable {P : Program} {C : Ctx} {ops : Array Oper} {rest : List Oper} {k : List Item} {R : Act → World → Prop} {env : Env} {σ : List Ob} {t : Nat} {ty : TypeId} {pos : String} {after : Array Edge} {gd : Option (Nat × Bool)}
def LendsT (C : Ctx) (σ : List Ob) (v : AV) (r : RV) : Prop := ∀ (m : Mem) (u : Value), Good C m → m.σ = σ → AV.rel m v u → RV.rel m.w (fun _ => True) r u
inductive LendsTL (C : Ctx) (σ : List Ob) : List AV → List RV → Prop
  | nil : LendsTL C σ [] []
  | cons {v : AV} {r : RV} {vs : List AV} {rs : List RV} : LendsT C σ v r → LendsTL C σ vs rs → LendsTL C σ (v :: vs) (r :: rs)
theorem LendsT.of {v : AV} {r : RV} (h : Lends C σ v r) : LendsT C σ v r := fun m u hG hσ hu => h m u (fun _ => True) hG hσ (fun _ _ => trivial) (fun _ _ _ _ => trivial) hu
theorem LendsT.ro {r : RV} : LendsT C σ (.ro r) r := LendsT.of Lends.ro
theorem LendsT.gh {ov : OV} {u : Value} {bs : List Nat} {r r' : RV} (h : Gh C ov u bs) (hs : OV.Seal ov r) (hr : r' = constRV u) : LendsT C σ (.ro r') r := fun m x hG hσ hx => by
  subst hr
  simp only [AV.rel] at hx
  have hxu : x = u := by
    cases u <;> simp only [constRV, RV.rel] at hx <;> try exact hx
    obtain ⟨us, rfl, hr⟩ := hx
    have := agg_flat (m := m) _ _ hr
    rw [← Array.toArray_toList (xs := us), this]
  subst hxu
  refine OV.seal_rel ov r x bs hs (OV.rel_keep ov x bs h.rel fun b hb => hG.frm.block b (h.fix b hb).1 (h.fix b hb).2.1) fun _ _ => trivial
theorem LendsTL.rels {m : Mem} (hG : Good C m) (hσ : m.σ = σ) {vs : List AV} {rs : List RV} (h : LendsTL C σ vs rs) : ∀ us, AV.rels m vs us → RV.rels m.w (fun _ => True) rs us := by
  induction h with
  | nil => intro us hu; simpa [AV.rels, RV.rels] using hu
  | cons h1 _ ih =>
    intro us hu
    simp only [AV.rels] at hu
    obtain ⟨u, us', rfl, k3, k4⟩ := hu
    simp only [RV.rels]
    exact ⟨u, us', rfl, h1 m u hG hσ k3, ih us' k4⟩
end
end Go.Proofs.Ytnecoghfhcimeaa
/- Values with memory of their own: how a function that makes one is entered and left; plain values behind a row; steps on memory that is known by its block. Over any program. -/
namespace Go.Proofs.Ytnecoghfhcimeaa
set_option linter.unusedSimpArgs false
set_option linter.unusedVariables false
set_option linter.unusedSectionVars false
open Go.RowKit
open AV (Mem Keeps)
structure Sc (C0 C : Ctx) : Prop where
  below : Below C0.w0.heap.size C0.w0 C.w0
  mu : ∀ b, C.mu b → C0.w0.heap.size ≤ b
theorem Sc.start {C : Ctx} (hm : ∀ b, ¬ C.mu b) : Sc C C := ⟨Below.refl _ _, fun b h => absurd h (hm b)⟩
theorem Sc.next {C0 C C' : Ctx} {bs : List Nat} (h : Sc C0 C) (k : Nx C C' bs) (hb : ∀ b ∈ bs, C0.w0.heap.size ≤ b) : Sc C0 C' := by
  refine ⟨⟨k.os.trans h.below.os, k.tape.trans h.below.tape, k.output.trans h.below.output, Nat.le_trans h.below.size k.size, fun b hlt => ?_⟩, fun b hm => ?_⟩
  · refine (k.block b (Nat.lt_of_lt_of_le hlt h.below.size) (fun hm => ?_) fun hm => ?_).trans (h.below.block b hlt)
    · have := h.mu b hm; omega
    · have := hb b hm; omega
  · rcases k.mu b hm with h1 | h1
    · exact h.mu b h1
    · exact Nat.le_trans h.below.size h1
theorem Sc.end_ {C0 C : Ctx} {m : Mem} (h : Sc C0 C) (hG : Good C m) : Below C0.w0.heap.size C0.w0 m.w :=
  ⟨hG.frm.os.trans h.below.os, hG.frm.tape.trans h.below.tape, hG.frm.output.trans h.below.output, Nat.le_trans h.below.size hG.frm.size, fun b hlt => (hG.frm.block b (Nat.lt_of_lt_of_le hlt h.below.size) (fun hm => by have := h.mu b hm; omega)).trans (h.below.block b hlt)⟩
section
variable {P : Program} {C C0 : Ctx} {S : St} {fn : Func}
end
mutual
def RO : RR → OV → Prop
  | .ro r, o => ∃ v, r = .c v ∧ o = .c v
  | .row e sz cs, o => ∃ vs : List Value, cs = vs.map .c ∧ o = .row e sz (vs.map .c)
  | .agg rs, o => ∃ os, o = .agg os ∧ ROs rs os
  | .tup rs, o => ∃ os, o = .tup os ∧ ROs rs os
def ROs : List RR → List OV → Prop
  | [], os => os = []
  | x :: xs, os => ∃ o os', os = o :: os' ∧ RO x o ∧ ROs xs os'
end
mutual
theorem ro_rel {w : World} {ok : Nat → Prop} : ∀ (rr : RR) (o : OV) (u : Value) (bs : List Nat), RO rr o → rr.rel w ok u bs → OV.rel w o u bs
  | .ro r, o, u, bs, h, hr => by
    simp only [RO] at h
    obtain ⟨v, rfl, rfl⟩ := h
    simp only [RR.rel, RV.rel] at hr
    simp only [OV.rel]
    exact hr
  | .row e sz cs, o, u, bs, h, hr => by
    simp only [RO] at h
    obtain ⟨vs, rfl, rfl⟩ := h
    simp only [RR.rel] at hr
    obtain ⟨n, xs, k1, k2, k3, k4, k5, rfl⟩ := hr
    have e2 := agg_flat (m := ⟨w, fun _ => none, [], ok⟩) vs xs (RV.rels_mono ⟨Nat.le_refl _, fun b _ hb => ⟨⟨hb, fun i hi => by simp at hi⟩, rfl⟩⟩ _ _ k3)
    subst e2
    simp only [OV.rel]
    exact ⟨n, xs, [], by simpa using k1, k2, OV.rels_c xs, k4, k5, by simp⟩
  | .agg rs, o, u, bs, h, hr => by
    simp only [RO] at h
    obtain ⟨os, rfl, h⟩ := h
    simp only [RR.rel] at hr
    obtain ⟨us, rfl, hr⟩ := hr
    simp only [OV.rel]
    exact ⟨us, rfl, ros_rel rs os _ bs h hr⟩
  | .tup rs, o, u, bs, h, hr => by
    simp only [RO] at h
    obtain ⟨os, rfl, h⟩ := h
    simp only [RR.rel] at hr
    obtain ⟨us, rfl, hr⟩ := hr
    simp only [OV.rel]
    exact ⟨us, rfl, ros_rel rs os _ bs h hr⟩
theorem ros_rel {w : World} {ok : Nat → Prop} : ∀ (rs : List RR) (os : List OV) (us : List Value) (bs : List Nat), ROs rs os → RR.rels w ok rs us bs → OV.rels w os us bs
  | [], os, us, bs, h, hr => by
    simp only [ROs] at h; subst h
    simpa [RR.rels, OV.rels] using hr
  | x :: xs, os, us, bs, h, hr => by
    simp only [ROs] at h
    obtain ⟨o, os', rfl, h1, h2⟩ := h
    simp only [RR.rels] at hr
    obtain ⟨u, us', b, bs', rfl, rfl, k1, k2⟩ := hr
    simp only [OV.rels]
    exact ⟨u, us', b, bs', rfl, rfl, ro_rel x o u b h1 k1, ros_rel xs os' us' bs' h2 k2⟩
end
section
variable {P : Program} {C : Ctx} {env : Env} {σ : List Ob} {t : Nat} {ty : TypeId} {pos : String} {after : Array Edge} {gd : Option (Nat × Bool)}
end
theorem row_slice {w : World} {e : TypeId} {sz : Nat} {cs : List OV} {u : Value} {bs : List Nat} (h : OV.rel w (.row e sz cs) u bs) : ∃ A n c, u = .slice A n c := by
  simp only [OV.rel] at h
  obtain ⟨n, xs, bs', _, _, _, _, h5, _⟩ := h
  rcases h5.2 with ⟨rfl, _⟩ | ⟨g, cap, cur, rfl, _⟩
  · exact ⟨_, _, _, rfl⟩
  · exact ⟨_, _, _, rfl⟩
end Go.Proofs.Ytnecoghfhcimeaa
/- Regions that draw their order: walked as a tree, calls with results of their own among the operations. Over any program. -/
namespace Go.Proofs.Ytnecoghfhcimeaa
set_option linter.unusedSimpArgs false
set_option linter.unusedVariables false
set_option linter.unusedSectionVars false
open Go.RowKit
open AV (Mem Keeps)
section
variable {P : Program} {C C0 : Ctx} {l : List Oper} {k : List Item} {R : Act → World → Prop} {env : Env} {σ : List Ob} {f i t : Nat} {listed : Array Bool}
structure RunsA (P : Program) (C : Ctx) (l : List Oper) (k : List Item) (R : Act → World → Prop) (f : Nat) (listed : Array Bool) (S : St) : Prop where
  run : ∀ a w, Sim C S a w → wpAny P .any l.toArray (nrm (Fin P k R)) f listed a w
structure StepA (P : Program) (C : Ctx) (l : List Oper) (k : List Item) (R : Act → World → Prop) (f : Nat) (listed : Array Bool) (i : Nat) (o : Oper) (S : St) : Prop where
  run : ∀ a w, Sim C S a w → o.wp P a w (wpAny P .any l.toArray (nrm (Fin P k R)) f (listed.setIfInBounds i true)) (nrm (Fin P k R))
def StepsA (P : Program) (C : Ctx) (l : List Oper) (k : List Item) (R : Act → World → Prop) (f : Nat) (listed : Array Bool) (S : St) : List (Nat × Oper) → Prop
  | [] => True
  | p :: L => StepA P C l k R f listed p.1 p.2 S ∧ StepsA P C l k R f listed S L
theorem StepsA.at_ {S : St} : ∀ {L : List (Nat × Oper)}, StepsA P C l k R f listed S L → ∀ p ∈ L, StepA P C l k R f listed p.1 p.2 S
  | [], _, p, h => by simp at h
  | q :: L, hL, p, h => by
    rcases List.mem_cons.1 h with rfl | h
    · exact hL.1
    · exact StepsA.at_ hL.2 p h
theorem mem_pickA {l : List Oper} {i : Nat} {o : Oper} (ho : l[i]? = some o) : ∀ {L : List Nat}, i ∈ L → (i, o) ∈ pick l L
  | [], h => by cases h
  | j :: L, h => by
    rcases List.mem_cons.1 h with rfl | h
    · simp [pick, ho]
    · unfold pick
      cases l[j]? with
      | none => exact mem_pickA ho h
      | some o' => exact List.mem_cons.2 (.inr (mem_pickA ho h))
theorem wpOp_atA {ops : Array Oper} {Q : Exit → Act → World → Prop} {K : Act → World → Prop} {i : Nat} {o : Oper} {a : Act} {w : World} (hi : ops[i]? = some o) (hg : o.guard = none) (h : o.wp P a w K Q) : wpOp P ops Q i K a w := by
  unfold wpOp
  simp only [hi]
  rw [if_pos (by simp [Region.wanted, hg])]
  exact .inl h
theorem RunsA.node {S : St} (L : List Nat) (hL : Region.ready .any l.toArray listed = L) (hne : L.isEmpty = false) (hg : ((pick l L).all fun p => p.2.guard.isNone) = true) (h : StepsA P C l k R f listed S (pick l L)) : RunsA P C l k R (f + 1) listed S := by
  refine ⟨fun a w hs => ⟨fun h0 => ?_, fun i hi => ?_⟩⟩
  · rw [hL] at h0; subst h0; cases hne
  · obtain ⟨_, o, ho, _⟩ := mem_ready.1 hi
    have hl : l[i]? = some o := by simpa using ho
    have hp : (i, o) ∈ pick l L := mem_pickA hl (hL ▸ hi)
    have hgo : o.guard = none := by have := List.all_eq_true.1 hg _ hp; simpa using this
    exact wpOp_atA (by simpa using hl) hgo ((h.at_ _ hp).run a w hs)
theorem StepA.pur {o : Oper} {v : AV} (h : Pur P C o env σ v) (hd : o.dst = some t) (ht : t < C.n) (hk : RunsA P C l k R f (listed.setIfInBounds i true) ⟨(t, v) :: env, σ⟩) : StepA P C l k R f listed i o ⟨env, σ⟩ := by
  refine ⟨fun a w ⟨h1, h2, φ, h3, h4⟩ => ?_⟩
  refine h.run a ⟨w, φ, σ, C.ok⟩ h3 rfl (fun x _ => ev_rel h4 x) _ _ fun u w' hb hv => ?_
  obtain ⟨g1, g2⟩ := good_below h3 hb
  rw [hd]
  exact hk.run _ _ ⟨h1, by simp [Act.put, h2], φ, g1, (h4.keeps g2).put (by rw [h2]; exact ht) hv⟩
theorem RunsA.seq {S : St} (n : Nat) (hf : (l.drop n).length = f) (hs : Region.seqB .any l.toArray f n listed = true) (h : RunsL P C l.toArray (l.drop n) k R S) : RunsA P C l k R f listed S := by
  subst hf
  exact ⟨fun a w hS => wpAny_of_seq (md := .any) (Q' := nrm (Fin P k R)) (l.drop n) n listed a w (fun j => by simp [List.getElem?_drop]) hs (h.run a w hS)⟩
theorem RunsL.keep {ops : Array Oper} {rest : List Oper} (env' : Env) (h : Sub env' env) (hk : RunsL P C ops rest k R ⟨env', σ⟩) : RunsL P C ops rest k R ⟨env, σ⟩ :=
  ⟨fun a w ⟨h1, h2, φ, h3, h4⟩ => hk.run a w ⟨h1, h2, φ, h3, fun s => by
    rcases h.look s with e | e
    · show AV.rel _ (Proofs.Ytnecoghfhcimeaa.look env' s) _
      rw [e]; simp [AV.rel]
    · show AV.rel _ (Proofs.Ytnecoghfhcimeaa.look env' s) _
      rw [e]; exact h4 s⟩⟩
theorem Runs.toTree {id : Nat} {k' : List Item} (m : Nat) (hf : P.follows .mixedOrders = true) (hc : Proofs.Ytnecoghfhcimeaa.ctls m k = .code (.region id l.toArray true) :: k') (h : RunsA P C l k' R l.length (Array.replicate l.length false) ⟨env, σ⟩) : Runs P C k R ⟨env, σ⟩ :=
  Runs.ctls m hc ⟨fun a w hs' => Fin.of_wp (wp_region_any hf (by
    obtain ⟨s1, s2, φ, hG, hE⟩ := hs'
    have hb : Below w.heap.size w { w with drawn := w.drawn + 1 } := ⟨rfl, rfl, rfl, Nat.le_refl _, fun _ _ => rfl⟩
    obtain ⟨g1, g2⟩ := good_below hG hb
    have := h.run a { w with drawn := w.drawn + 1 } ⟨s1, s2, φ, g1, hE.keeps g2⟩
    simpa using this))⟩
end
end Go.Proofs.Ytnecoghfhcimeaa
