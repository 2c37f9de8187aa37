/- Values by what they read as: read-only data, objects of the frame's own, and what a frame holds. Over any program. -/
import Derived.Test.YtnbjncafoahclaaDoorMem
namespace Go.Proofs.YtnbjncafoahclaaDoor
set_option linter.unusedSimpArgs false
set_option linter.unusedVariables false
open Go.RowKit

/-! ### Read-only data. -/
inductive RV where
  | c (v : Value)
  | agg (cs : List RV)
  | seq (sz : Nat) (els : List (List RV))
  | rp (cs : List RV)
  | tup (vs : List RV)
  | ifc (t : TypeId) (v : RV)
namespace RV
abbrev int (n : Int) : RV := .c (.int .i64 n)
abbrev u8 (b : UInt8) : RV := .c (.int .u8 (b.toNat : Int))
abbrev bool (b : Bool) : RV := .c (.bool b)
abbrev str (s : ByteArray) : RV := .c (.string s)
abbrev nil : RV := .c (.slice none 0 0)
/-- What fits into one cell. -/
def one : RV → Bool
  | .c v => v.oneCell'
  | .agg _ | .tup _ => false
  | _ => true
mutual
def rel (w : World) (ok : Nat → Prop) : RV → Value → Prop
  | .c v, u => u = v
  | .agg cs, u => ∃ us : Array Value, u = .agg us ∧ rels w ok cs us.toList
  | .seq sz els, u => ∃ A n c, u = .slice A n c ∧ n = els.length ∧ n ≤ c ∧ c ≤ maxLen ∧ (0 < n → ∃ b o, A = some ⟨b, o, none⟩ ∧ b < w.heap.size ∧ ok b ∧ relE w ok b o sz els)
  | .rp cs, u => ∃ b o, u = .pointer (some ⟨b, o, none⟩) ∧ b < w.heap.size ∧ ok b ∧ relAt w ok b o cs
  | .tup vs, u => ∃ us : Array Value, u = .tuple us ∧ rels w ok vs us.toList
  | .ifc t v, u => ∃ x, u = .iface t x ∧ rel w ok v x
def rels (w : World) (ok : Nat → Prop) : List RV → List Value → Prop
  | [], us => us = []
  | x :: xs, us => ∃ u us', us = u :: us' ∧ rel w ok x u ∧ rels w ok xs us'
def relAt (w : World) (ok : Nat → Prop) (b o : Nat) : List RV → Prop
  | [] => True
  | x :: xs => (∃ u, w.cell? ⟨b, o, none⟩ = some u ∧ u.oneCell' = true ∧ rel w ok x u) ∧ relAt w ok b (o + 1) xs
def relE (w : World) (ok : Nat → Prop) (b o sz : Nat) : List (List RV) → Prop
  | [] => True
  | e :: es => e.length = sz ∧ relAt w ok b o e ∧ relE w ok b (o + sz) sz es
end
section
variable {w w' : World} {ok ok' : Nat → Prop}
/-- Every block that is read-only now is so then, and is as it was. -/
def Kept (w : World) (ok : Nat → Prop) (w' : World) (ok' : Nat → Prop) : Prop :=
  w.heap.size ≤ w'.heap.size ∧ ∀ b, b < w.heap.size → ok b → ok' b ∧ w'.heap[b]? = w.heap[b]?
mutual
theorem rel_mono (h : Kept w ok w' ok') : ∀ (r : RV) (u : Value), rel w ok r u → rel w' ok' r u
  | .c v, u, hr => by simpa [rel] using hr
  | .agg cs, u, hr => by
    simp only [rel] at hr ⊢
    obtain ⟨us, e, h1⟩ := hr
    exact ⟨us, e, rels_mono h cs _ h1⟩
  | .seq sz els, u, hr => by
    simp only [rel] at hr ⊢
    obtain ⟨A, n, c, e, h1, h2, h3, h4⟩ := hr
    refine ⟨A, n, c, e, h1, h2, h3, fun hn => ?_⟩
    obtain ⟨b, o, e', hb, hok, hE⟩ := h4 hn
    exact ⟨b, o, e', Nat.lt_of_lt_of_le hb h.1, (h.2 b hb hok).1, relE_mono h b hb hok els o sz hE⟩
  | .rp cs, u, hr => by
    simp only [rel] at hr ⊢
    obtain ⟨b, o, e, hb, hok, hE⟩ := hr
    exact ⟨b, o, e, Nat.lt_of_lt_of_le hb h.1, (h.2 b hb hok).1, relAt_mono h b hb hok cs o hE⟩
  | .tup vs, u, hr => by
    simp only [rel] at hr ⊢
    obtain ⟨us, e, h1⟩ := hr
    exact ⟨us, e, rels_mono h vs _ h1⟩
  | .ifc t v, u, hr => by
    simp only [rel] at hr ⊢
    obtain ⟨x, e, h1⟩ := hr
    exact ⟨x, e, rel_mono h v _ h1⟩
theorem rels_mono (h : Kept w ok w' ok') : ∀ (rs : List RV) (us : List Value), rels w ok rs us → rels w' ok' rs us
  | [], us, hr => by simpa [rels] using hr
  | x :: xs, us, hr => by
    simp only [rels] at hr ⊢
    obtain ⟨u, us', e, h1, h2⟩ := hr
    exact ⟨u, us', e, rel_mono h x u h1, rels_mono h xs us' h2⟩
theorem relAt_mono (h : Kept w ok w' ok') (b : Nat) (hb : b < w.heap.size) (hok : ok b) : ∀ (rs : List RV) (o : Nat), relAt w ok b o rs → relAt w' ok' b o rs
  | [], o, hr => by simp [relAt]
  | x :: xs, o, hr => by
    simp only [relAt] at hr ⊢
    obtain ⟨⟨u, h1, h2, h3⟩, h4⟩ := hr
    exact ⟨⟨u, (World.cell?_of_block (a := ⟨b, o, none⟩) (h.2 b hb hok).2).trans h1, h2, rel_mono h x u h3⟩, relAt_mono h b hb hok xs (o + 1) h4⟩
theorem relE_mono (h : Kept w ok w' ok') (b : Nat) (hb : b < w.heap.size) (hok : ok b) : ∀ (es : List (List RV)) (o sz : Nat), relE w ok b o sz es → relE w' ok' b o sz es
  | [], o, sz, hr => by simp [relE]
  | e :: es, o, sz, hr => by
    simp only [relE] at hr ⊢
    exact ⟨hr.1, relAt_mono h b hb hok e o hr.2.1, relE_mono h b hb hok es (o + sz) sz hr.2.2⟩
end
theorem rels_len : ∀ (rs : List RV) (us : List Value), rels w ok rs us → us.length = rs.length
  | [], us, h => by simp only [rels] at h; simp [h]
  | x :: xs, us, h => by
    simp only [rels] at h
    obtain ⟨u, us', rfl, _, h2⟩ := h
    simp [rels_len xs us' h2]
theorem rels_at : ∀ (rs : List RV) (us : List Value), rels w ok rs us → ∀ (j : Nat) r, rs[j]? = some r → ∃ u, us[j]? = some u ∧ rel w ok r u
  | [], us, h, j, r, hj => by simp at hj
  | x :: xs, us, h, j, r, hj => by
    simp only [rels] at h
    obtain ⟨u, us', rfl, h1, h2⟩ := h
    cases j with
    | zero => simp at hj; subst hj; exact ⟨u, by simp, h1⟩
    | succ j => simp at hj; simpa using rels_at xs us' h2 j r hj
theorem rels_of : ∀ (rs : List RV) (us : List Value), us.length = rs.length → (∀ (j : Nat) r u, rs[j]? = some r → us[j]? = some u → rel w ok r u) → rels w ok rs us
  | [], us, hl, h => by simp only [rels]; exact List.eq_nil_of_length_eq_zero (by simpa using hl)
  | x :: xs, [], hl, h => by simp at hl
  | x :: xs, u :: us, hl, h => by
    simp only [rels]
    exact ⟨u, us, rfl, h 0 x u (by simp) (by simp), rels_of xs us (by simpa using hl) (fun j r u' h1 h2 => h (j + 1) r u' (by simpa using h1) (by simpa using h2))⟩
theorem relAt_at {b : Nat} : ∀ (rs : List RV) (o : Nat), relAt w ok b o rs → ∀ (j : Nat) r, rs[j]? = some r → ∃ u, w.cell? ⟨b, o + j, none⟩ = some u ∧ u.oneCell' = true ∧ rel w ok r u
  | [], o, h, j, r, hj => by simp at hj
  | x :: xs, o, h, j, r, hj => by
    simp only [relAt] at h
    cases j with
    | zero => simp at hj; subst hj; simpa using h.1
    | succ j =>
      simp at hj
      have := relAt_at xs (o + 1) h.2 j r hj
      rwa [show o + 1 + j = o + (j + 1) by omega] at this
theorem relAt_of {b : Nat} : ∀ (rs : List RV) (o : Nat), (∀ (j : Nat) r, rs[j]? = some r → ∃ u, w.cell? ⟨b, o + j, none⟩ = some u ∧ u.oneCell' = true ∧ rel w ok r u) → relAt w ok b o rs
  | [], o, h => by simp [relAt]
  | x :: xs, o, h => by
    simp only [relAt]
    refine ⟨by simpa using h 0 x (by simp), relAt_of xs (o + 1) fun j r hj => ?_⟩
    have := h (j + 1) r (by simpa using hj)
    rwa [show o + (j + 1) = o + 1 + j by omega] at this
theorem relAt_drop {b : Nat} (rs : List RV) (o k : Nat) (h : relAt w ok b o rs) : relAt w ok b (o + k) (rs.drop k) :=
  relAt_of _ _ fun j r hj => by
    rw [List.getElem?_drop] at hj
    have := relAt_at rs o h (k + j) r hj
    rwa [show o + (k + j) = o + k + j by omega] at this
theorem relE_at {b : Nat} : ∀ (es : List (List RV)) (o sz : Nat), relE w ok b o sz es → ∀ (k : Nat) e, es[k]? = some e → e.length = sz ∧ relAt w ok b (o + k * sz) e
  | [], o, sz, h, k, e, hk => by simp at hk
  | x :: xs, o, sz, h, k, e, hk => by
    simp only [relE] at h
    cases k with
    | zero => simp at hk; subst hk; simpa using ⟨h.1, h.2.1⟩
    | succ k =>
      simp at hk
      have := relE_at xs (o + sz) sz h.2.2 k e hk
      rwa [show o + sz + k * sz = o + (k + 1) * sz by rw [Nat.add_mul]; omega] at this
theorem relE_of {b : Nat} : ∀ (es : List (List RV)) (o sz : Nat), (∀ (k : Nat) e, es[k]? = some e → e.length = sz ∧ relAt w ok b (o + k * sz) e) → relE w ok b o sz es
  | [], o, sz, h => by simp [relE]
  | x :: xs, o, sz, h => by
    simp only [relE]
    have h0 := h 0 x (by simp)
    refine ⟨h0.1, by simpa using h0.2, relE_of xs (o + sz) sz fun k e hk => ?_⟩
    have := h (k + 1) e (by simpa using hk)
    rwa [show o + (k + 1) * sz = o + sz + k * sz by rw [Nat.add_mul]; omega] at this
theorem rel_one : ∀ (r : RV) (u : Value), r.one = true → rel w ok r u → u.oneCell' = true
  | .c v, u, h, hr => by simp only [rel] at hr; subst hr; exact h
  | .agg _, u, h, hr => by simp [one] at h
  | .tup _, u, h, hr => by simp [one] at h
  | .seq sz els, u, h, hr => by simp only [rel] at hr; obtain ⟨A, n, c, rfl, _⟩ := hr; rfl
  | .rp cs, u, h, hr => by simp only [rel] at hr; obtain ⟨b, o, rfl, _⟩ := hr; rfl
  | .ifc t v, u, h, hr => by simp only [rel] at hr; obtain ⟨x, rfl, _⟩ := hr; rfl
/-- A new block, draws: nothing that is read has turned. -/
theorem kept_below (h : Below w.heap.size w w') (hok : ∀ b, b < w.heap.size → ok b → ok' b) : Kept w ok w' ok' := ⟨h.size, fun b hb ho => ⟨hok b hb ho, h.block b hb⟩⟩
end
/-- All that a caller can see is read-only to the callee. -/
abbrev Rel (w : World) : RV → Value → Prop := rel w (fun _ => True)
abbrev Rels (w : World) : List RV → List Value → Prop := rels w (fun _ => True)
theorem Rel.below {w w' : World} {r : RV} {u : Value} (h : Rel w r u) (hb : Below w.heap.size w w') : Rel w' r u := rel_mono (kept_below hb (fun _ _ h => h)) r u h
end RV

/-! ### What a frame holds. -/
inductive AV where
  | ro (r : RV)
  | obj (i off : Nat)
  | pin (i off g : Nat)
  | own (i : Nat)
  | agg (cs : List AV)
  | tup (vs : List AV)
  | fn (f : Fn) (first captured : List AV)
  | junk
/-- An object of the frame's own: a block of cells of type t; size sz of an element, if it is a row. -/
structure Ob where
  t : TypeId
  sz : Nat
  cs : List AV
abbrev Env := List (Nat × AV)
def look (env : Env) (t : Nat) : AV :=
  match env with
  | [] => .junk
  | (k, v) :: rest => if k = t then v else look rest t
structure St where
  env : Env
  σ : List Ob
namespace AV
abbrev int (n : Int) : AV := .ro (.c (.int .i64 n))
abbrev u8 (n : Int) : AV := .ro (.c (.int .u8 n))
abbrev bool (b : Bool) : AV := .ro (.c (.bool b))
abbrev str (s : ByteArray) : AV := .ro (.c (.string s))
abbrev nil : AV := .ro (.c (.slice none 0 0))
def one : AV → Bool
  | .ro r => r.one
  | .obj _ _ | .pin _ _ _ | .own _ | .fn _ _ _ => true
  | _ => false
/-- The memory that a relation speaks of: where object i lies (none: a row that is nil as yet). -/
structure Mem where
  w : World
  φ : Nat → Option Nat
  σ : List Ob
  ok0 : Nat → Prop
def Mem.ok (m : Mem) (b : Nat) : Prop := m.ok0 b ∧ ∀ i, i < m.σ.length → m.φ i ≠ some b
mutual
def rel (m : Mem) : AV → Value → Prop
  | .ro r, u => r.rel m.w m.ok u
  | .obj i off, u => i < m.σ.length ∧ ∃ g, m.φ i = some g ∧ u = .pointer (some ⟨g, off, none⟩)
  | .pin i off g, u => i < m.σ.length ∧ m.φ i = some g ∧ u = .pointer (some ⟨g, off, none⟩)
  | .own i, u => ∃ ob n, m.σ[i]? = some ob ∧ ob.cs.length = n * ob.sz ∧ 0 < ob.sz ∧
      ((u = .slice none 0 0 ∧ n = 0 ∧ m.φ i = none) ∨ ∃ (g cap : Nat) (us : Array Value), m.φ i = some g ∧ u = .slice (some ⟨g, 0, none⟩) n cap ∧ m.w.heap[g]? = some (.cells us ob.t (0, 0)) ∧ n ≤ cap ∧ cap ≤ maxLen ∧ us.size = cap * ob.sz)
  | .agg cs, u => ∃ us : Array Value, u = .agg us ∧ rels m cs us.toList
  | .tup vs, u => ∃ us : Array Value, u = .tuple us ∧ rels m vs us.toList
  | .fn f first captured, u => ∃ us vs : Array Value, u = .func f us vs ∧ rels m first us.toList ∧ rels m captured vs.toList
  | .junk, _ => True
def rels (m : Mem) : List AV → List Value → Prop
  | [], us => us = []
  | x :: xs, us => ∃ u us', us = u :: us' ∧ rel m x u ∧ rels m xs us'
end
mutual
/-- Speaks of no object but those that p lets. -/
def only (p : Nat → Prop) : AV → Prop
  | .ro _ | .junk => True
  | .obj i _ => p i
  | .pin i _ _ => p i
  | .own i => p i
  | .agg cs => onlys p cs
  | .tup vs => onlys p vs
  | .fn _ a b => onlys p a ∧ onlys p b
def onlys (p : Nat → Prop) : List AV → Prop
  | [] => True
  | x :: xs => only p x ∧ onlys p xs
end
mutual
/-- Forgets what speaks of object i. -/
def kill (i : Nat) : AV → AV
  | .ro r => .ro r
  | .junk => .junk
  | .obj j off => if j = i then .junk else .obj j off
  | .pin j off g => if j = i then .junk else .pin j off g
  | .own j => if j = i then .junk else .own j
  | .agg cs => .agg (kills i cs)
  | .tup vs => .tup (kills i vs)
  | .fn f a b => .fn f (kills i a) (kills i b)
def kills (i : Nat) : List AV → List AV
  | [] => []
  | x :: xs => kill i x :: kills i xs
end
section
variable {m m' : Mem} {live : Nat → Prop}
/-- From memory m to memory m': what is read-only stays, the live objects stay where they are and keep their form. -/
structure Keeps (live : Nat → Prop) (m m' : Mem) : Prop where
  ro : RV.Kept m.w m.ok m'.w m'.ok
  obj : ∀ i, live i → i < m.σ.length → i < m'.σ.length ∧ m'.φ i = m.φ i
  row : ∀ i ob, live i → m.σ[i]? = some ob → ∃ cs', m'.σ[i]? = some ⟨ob.t, ob.sz, cs'⟩ ∧ cs'.length = ob.cs.length
  blk : ∀ i g (us : Array Value) t, live i → i < m.σ.length → m.φ i = some g → m.w.heap[g]? = some (.cells us t (0, 0)) → ∃ us' : Array Value, m'.w.heap[g]? = some (.cells us' t (0, 0)) ∧ us'.size = us.size
mutual
theorem rel_keeps (h : Keeps live m m') : ∀ (v : AV) (u : Value), v.only live → rel m v u → rel m' v u
  | .ro r, u, _, hr => by simp only [rel] at hr ⊢; exact RV.rel_mono h.ro r u hr
  | .obj i off, u, ho, hr => by
    simp only [rel, only] at hr ho ⊢
    obtain ⟨h1, g, h2, h3⟩ := hr
    exact ⟨(h.obj i ho h1).1, g, (h.obj i ho h1).2.trans h2, h3⟩
  | .pin i off g, u, ho, hr => by
    simp only [rel, only] at hr ho ⊢
    obtain ⟨h1, h2, h3⟩ := hr
    exact ⟨(h.obj i ho h1).1, (h.obj i ho h1).2.trans h2, h3⟩
  | .own i, u, ho, hr => by
    simp only [rel, only] at hr ho ⊢
    obtain ⟨ob, n, h1, h2, h3, h4⟩ := hr
    have hi : i < m.σ.length := (List.getElem?_eq_some_iff.1 h1).1
    obtain ⟨cs', k1, k2⟩ := h.row i ob ho h1
    refine ⟨_, n, k1, by simp only; rw [k2]; exact h2, h3, ?_⟩
    rcases h4 with ⟨e1, e2, e3⟩ | ⟨g, cap, us, hφ, e, hg, c1, c2, c3⟩
    · exact .inl ⟨e1, e2, (h.obj i ho hi).2.trans e3⟩
    · obtain ⟨us', q1, q2⟩ := h.blk i g us ob.t ho hi hφ hg
      exact .inr ⟨g, cap, us', (h.obj i ho hi).2.trans hφ, e, q1, c1, c2, q2.trans c3⟩
  | .agg cs, u, ho, hr => by
    simp only [rel, only] at hr ho ⊢
    obtain ⟨us, e, h1⟩ := hr
    exact ⟨us, e, rels_keeps h cs _ ho h1⟩
  | .tup cs, u, ho, hr => by
    simp only [rel, only] at hr ho ⊢
    obtain ⟨us, e, h1⟩ := hr
    exact ⟨us, e, rels_keeps h cs _ ho h1⟩
  | .fn f a b, u, ho, hr => by
    simp only [rel, only] at hr ho ⊢
    obtain ⟨us, vs, e, h1, h2⟩ := hr
    exact ⟨us, vs, e, rels_keeps h a _ ho.1 h1, rels_keeps h b _ ho.2 h2⟩
  | .junk, u, _, _ => by simp [rel]
theorem rels_keeps (h : Keeps live m m') : ∀ (vs : List AV) (us : List Value), onlys live vs → rels m vs us → rels m' vs us
  | [], us, _, hr => by simpa [rels] using hr
  | x :: xs, us, ho, hr => by
    simp only [rels, onlys] at hr ho ⊢
    obtain ⟨u, us', e, h1, h2⟩ := hr
    exact ⟨u, us', e, rel_keeps h x u ho.1 h1, rels_keeps h xs us' ho.2 h2⟩
end
mutual
theorem only_true : ∀ v : AV, v.only fun _ => True
  | .ro _ | .junk | .obj _ _ | .pin _ _ _ | .own _ => by simp [only]
  | .agg cs => by simp only [only]; exact onlys_true cs
  | .tup cs => by simp only [only]; exact onlys_true cs
  | .fn _ a b => by simp only [only]; exact ⟨onlys_true a, onlys_true b⟩
theorem onlys_true : ∀ vs : List AV, onlys (fun _ => True) vs
  | [] => by simp [onlys]
  | x :: xs => by simp only [onlys]; exact ⟨only_true x, onlys_true xs⟩
end
mutual
theorem kill_only (i : Nat) : ∀ v : AV, (v.kill i).only fun j => j ≠ i
  | .ro _ | .junk => by simp [kill, only]
  | .obj j off => by unfold kill; split <;> simp_all [only]
  | .pin j off g => by unfold kill; split <;> simp_all [only]
  | .own j => by unfold kill; split <;> simp_all [only]
  | .agg cs => by simp only [kill, only]; exact kills_only i cs
  | .tup cs => by simp only [kill, only]; exact kills_only i cs
  | .fn _ a b => by simp only [kill, only]; exact ⟨kills_only i a, kills_only i b⟩
theorem kills_only (i : Nat) : ∀ vs : List AV, onlys (fun j => j ≠ i) (kills i vs)
  | [] => by simp [kills, onlys]
  | x :: xs => by simp only [kills, onlys]; exact ⟨kill_only i x, kills_only i xs⟩
end
mutual
theorem kill_rel (i : Nat) : ∀ (v : AV) (u : Value), rel m v u → rel m (v.kill i) u
  | .ro _, u, h | .junk, u, h => by simpa [kill] using h
  | .obj j off, u, h => by unfold kill; split <;> first | exact h | simp [rel]
  | .pin j off g, u, h => by unfold kill; split <;> first | exact h | simp [rel]
  | .own j, u, h => by unfold kill; split <;> first | exact h | simp [rel]
  | .agg cs, u, h => by
    simp only [rel, kill] at h ⊢
    obtain ⟨us, e, h1⟩ := h
    exact ⟨us, e, kills_rel i cs _ h1⟩
  | .tup cs, u, h => by
    simp only [rel, kill] at h ⊢
    obtain ⟨us, e, h1⟩ := h
    exact ⟨us, e, kills_rel i cs _ h1⟩
  | .fn f a b, u, h => by
    simp only [rel, kill] at h ⊢
    obtain ⟨us, vs, e, h1, h2⟩ := h
    exact ⟨us, vs, e, kills_rel i a _ h1, kills_rel i b _ h2⟩
theorem kills_rel (i : Nat) : ∀ (vs : List AV) (us : List Value), rels m vs us → rels m (kills i vs) us
  | [], us, h => by simpa [kills] using h
  | x :: xs, us, h => by
    simp only [rels, kills] at h ⊢
    obtain ⟨u, us', e, h1, h2⟩ := h
    exact ⟨u, us', e, kill_rel i x u h1, kills_rel i xs us' h2⟩
end
theorem rels_len : ∀ (rs : List AV) (us : List Value), rels m rs us → us.length = rs.length
  | [], us, h => by simp only [rels] at h; simp [h]
  | x :: xs, us, h => by
    simp only [rels] at h
    obtain ⟨u, us', rfl, _, h2⟩ := h
    simp [rels_len xs us' h2]
theorem rels_at : ∀ (rs : List AV) (us : List Value), rels m rs us → ∀ (j : Nat) r, rs[j]? = some r → ∃ u, us[j]? = some u ∧ rel m r u
  | [], us, h, j, r, hj => by simp at hj
  | x :: xs, us, h, j, r, hj => by
    simp only [rels] at h
    obtain ⟨u, us', rfl, h1, h2⟩ := h
    cases j with
    | zero => simp at hj; subst hj; exact ⟨u, by simp, h1⟩
    | succ j => simp at hj; simpa using rels_at xs us' h2 j r hj
theorem rels_of : ∀ (rs : List AV) (us : List Value), us.length = rs.length → (∀ (j : Nat) r u, rs[j]? = some r → us[j]? = some u → rel m r u) → rels m rs us
  | [], us, hl, h => by simp only [rels]; exact List.eq_nil_of_length_eq_zero (by simpa using hl)
  | x :: xs, [], hl, h => by simp at hl
  | x :: xs, u :: us, hl, h => by
    simp only [rels]
    exact ⟨u, us, rfl, h 0 x u (by simp) (by simp), rels_of xs us (by simpa using hl) (fun j r u' h1 h2 => h (j + 1) r u' (by simpa using h1) (by simpa using h2))⟩
theorem rels_ro : ∀ (rs : List RV) (us : List Value), RV.rels m.w m.ok rs us → rels m (rs.map .ro) us
  | [], us, h => by simpa [rels, RV.rels] using h
  | x :: xs, us, h => by
    simp only [RV.rels] at h
    obtain ⟨u, us', rfl, h1, h2⟩ := h
    simp only [List.map_cons, rels]
    exact ⟨u, us', rfl, by simpa only [rel] using h1, rels_ro xs us' h2⟩
theorem rel_one (v : AV) (u : Value) (h : v.one = true) (hr : rel m v u) : u.oneCell' = true := by
  cases v <;> simp only [one, Bool.false_eq_true] at h <;> simp only [rel] at hr
  case ro r => exact RV.rel_one r u h hr
  case obj => obtain ⟨_, g, _, rfl⟩ := hr; rfl
  case pin => obtain ⟨_, _, rfl⟩ := hr; rfl
  case own =>
    obtain ⟨ob, n, _, _, _, h4⟩ := hr
    rcases h4 with ⟨rfl, _⟩ | ⟨g, cap, us, _, rfl, _⟩ <;> rfl
  case fn => obtain ⟨us, vs, rfl, _⟩ := hr; rfl
end
end AV
end Go.Proofs.YtnbjncafoahclaaDoor
