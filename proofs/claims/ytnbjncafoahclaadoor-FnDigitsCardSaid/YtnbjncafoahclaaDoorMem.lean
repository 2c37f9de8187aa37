/- Words for memory, over any program: a slice that reads as a list of cells, and what keeps it. -/
import Derived.WalkKit
import Derived.Lib.Hide
import Derived.Deep.Draws
import Derived.Maps.AppendAt
import Derived.Laws.OwnMore
import Derived.Laws.MakeOwn
import Derived.OneCell
namespace Go.Proofs.YtnbjncafoahclaaDoor
set_option linter.unusedSimpArgs false
set_option linter.unusedVariables false
open Go.RowKit

abbrev u8v (c : UInt8) : Value := .int .u8 (c.toNat : Int)
abbrev i64v (n : Int) : Value := .int .i64 n
abbrev strv (s : ByteArray) : Value := .string s
abbrev slv (g n c : Nat) : Value := .slice (some ⟨g, 0, none⟩) n c

theorem ret_i {k : IntKind} {a b : Int} (h : a = b) : Ending.returned (.int k a) = .returned (.int k b) := by rw [h]
theorem ret_t2 {a a' b b' : Value} (h1 : a = a') (h2 : b = b') : Ending.returned (.tuple #[a, b]) = .returned (.tuple #[a', b']) := by rw [h1, h2]
theorem ret_t3 {a a' b b' c c' : Value} (h1 : a = a') (h2 : b = b') (h3 : c = c') : Ending.returned (.tuple #[a, b, c]) = .returned (.tuple #[a', b', c']) := by rw [h1, h2, h3]
theorem int_eq {k : IntKind} {a b : Int} (h : a = b) : Value.int k a = .int k b := by rw [h]
theorem bool_eq {a b : Bool} (h : a = b) : Value.bool a = .bool b := by rw [h]
theorem string_eq {a b : ByteArray} (h : a = b) : Value.string a = .string b := by rw [h]
theorem u8_eq (a b : UInt8) : ((a.toNat : Int) = (b.toNat : Int)) ↔ a = b := by
  constructor
  · intro h; exact UInt8.toNat_inj.1 (by omega)
  · rintro rfl; rfl
abbrev I64 (n : Int) : Prop := -9223372036854775808 ≤ n ∧ n ≤ 9223372036854775807
/-- The slice at A of n elements, size cells each, holds the cells xs. -/
def Rd (w : World) (size : Nat) (A : Option Addr) (n : Nat) (xs : List Value) : Prop :=
  xs.length = n * size ∧ (0 < n → ∃ b o, A = some ⟨b, o, none⟩ ∧ ∀ j u, xs[j]? = some u → w.cell? ⟨b, o + j, none⟩ = some u)

theorem Rd.len1 {w : World} {A : Option Addr} {n : Nat} {xs : List Value} (h : Rd w 1 A n xs) : xs.length = n := by simpa using h.1
theorem Rd.nil (w : World) (size : Nat) (A : Option Addr) : Rd w size A 0 [] := ⟨by simp, fun h => absurd h (by omega)⟩
theorem Rd.keep {w w' : World} {size n : Nat} {A : Option Addr} {xs : List Value} (h : Rd w size A n xs) (hk : ∀ p u, w.cell? p = some u → w'.cell? p = some u) : Rd w' size A n xs :=
  ⟨h.1, fun hn => by obtain ⟨b, o, e, hc⟩ := h.2 hn; exact ⟨b, o, e, fun j u hu => hk _ _ (hc j u hu)⟩⟩
theorem below_cell {w w' : World} (hb : Below w.heap.size w w') (p : Addr) (u : Value) (h : w.cell? p = some u) : w'.cell? p = some u :=
  (hb.cell (World.block_lt_of_cell? w p h)).trans h
theorem below_one (w : World) (o : Obj) : Below w.heap.size w (w.alloc o) := (Below.refl _ _).alloc (Nat.le_refl _) o
theorem bcell {W w1 : World} (hb : Below W.heap.size W w1) : (∀ b o, b < W.heap.size → w1.cell? ⟨b, o, none⟩ = W.cell? ⟨b, o, none⟩) ∧ (∀ b o, b < W.heap.size → w1.frozen? ⟨b, o, none⟩ = W.frozen? ⟨b, o, none⟩) :=
  ⟨fun b o h => hb.cell (p := ⟨b, o, none⟩) h, fun b o h => hb.frozen (p := ⟨b, o, none⟩) h⟩
theorem below_set {W w : World} (h : Below W.heap.size W w) {p : Addr} (hp : W.heap.size ≤ p.block) (u : Value) : Below W.heap.size W (w.setCell p u) := h.setCell hp u
theorem below_al {W w : World} (h : Below W.heap.size W w) (o : Obj) : Below W.heap.size W (w.alloc o) := h.alloc h.size o
theorem Rd.below {w w' : World} {size n : Nat} {A : Option Addr} {xs : List Value} (h : Rd w size A n xs) (hb : Below w.heap.size w w') : Rd w' size A n xs :=
  h.keep (below_cell hb)
theorem Rd.grown {w w' : World} {size n g : Nat} {A : Option Addr} {xs : List Value} (h : Rd w size A n xs) (hg : w.grownBy w' (some g)) (hA : 0 < n → ∀ a, A = some a → a.block ≠ g) : Rd w' size A n xs :=
  ⟨h.1, fun hn => by
    obtain ⟨b, o, e, hc⟩ := h.2 hn
    exact ⟨b, o, e, fun j u hu => hg.cell (hc j u hu) (fun e' => hA hn _ e (by injection e'))⟩⟩
theorem Rd.drewN {w : World} {size n : Nat} {A : Option Addr} {xs : List Value} (h : Rd w size A n xs) (k : Nat) : Rd (w.drewN k) size A n xs := h
theorem Rd.drew {w : World} {size n : Nat} {A : Option Addr} {xs : List Value} (h : Rd w size A n xs) : Rd w.drew size A n xs := h
theorem Rd.at1 {w : World} {n k : Nat} {A : Option Addr} {xs : List Value} (h : Rd w 1 A n xs) (hk : k < n) :
    ∃ b o u, A = some ⟨b, o, none⟩ ∧ xs[k]? = some u ∧ w.cell? ⟨b, o + k, none⟩ = some u := by
  obtain ⟨b, o, e, hc⟩ := h.2 (by omega)
  have hl : k < xs.length := by rw [h.len1]; exact hk
  exact ⟨b, o, xs[k], e, List.getElem?_eq_getElem hl, hc k _ (List.getElem?_eq_getElem hl)⟩
/-- One address and all the cells, for a slice that is not empty. -/
theorem Rd.open_ {w : World} {size n : Nat} {A : Option Addr} {xs : List Value} (h : Rd w size A n xs) (hn : 0 < n) :
    ∃ b o, A = some ⟨b, o, none⟩ ∧ ∀ j (hj : j < xs.length), w.cell? ⟨b, o + j, none⟩ = some xs[j] := by
  obtain ⟨b, o, e, hc⟩ := h.2 hn
  exact ⟨b, o, e, fun j hj => hc j _ (List.getElem?_eq_getElem hj)⟩
theorem Rd.of_own {w : World} {base size n c : Nat} {A : Option Addr} {e : TypeId} {xs : List Value} (h : w.ownsRow base e size (.slice A n c) n xs) : Rd w size A n xs := by
  refine ⟨h.1, fun hn => ?_⟩
  rcases h.2 with ⟨h', h0⟩ | ⟨g, cap, cur, h', _, hg, _, _, _, htake⟩
  · omega
  · injection h' with hA _ _
    subst hA
    refine ⟨g, 0, rfl, fun j u hu => ?_⟩
    have hc := World.ownsRow.cells h (g := g) rfl j u hu
    rw [Nat.zero_add]
    have hadd : (⟨g, 0, none⟩ : Addr).add j = ⟨g, j, none⟩ := by unfold Addr.add; split <;> simp_all
    rwa [hadd] at hc
/-- An owned value is a slice of n elements. -/
theorem own_form {w : World} {base size n : Nat} {v : Value} {e : TypeId} {xs : List Value} (h : w.ownsRow base e size v n xs) :
    ∃ A c, v = .slice A n c ∧ n ≤ c ∧ c ≤ maxLen ∧ Rd w size A n xs := by
  rcases h.2 with ⟨rfl, rfl⟩ | ⟨g, cap, cur, rfl, hb, hg, hnc, hcm, hcs, htake⟩
  · refine ⟨none, 0, rfl, Nat.le_refl _, Nat.zero_le _, ?_⟩
    have : xs = [] := List.eq_nil_of_length_eq_zero (by simpa using h.1)
    subst this; exact Rd.nil _ _ _
  · exact ⟨some ⟨g, 0, none⟩, cap, rfl, hnc, hcm, Rd.of_own h⟩
/-- What is owned from base on stays, if nothing from base on turns but new blocks. -/
theorem own_below {w w' : World} {base size n : Nat} {v : Value} {e : TypeId} {xs : List Value} (h : w.ownsRow base e size v n xs) (hb : Below w.heap.size w w') : w'.ownsRow base e size v n xs :=
  h.kept (row := none) ⟨hb.os, hb.tape, hb.output, hb.size, fun k hk _ => hb.block k hk⟩ (by cases hv : v.ownBlock <;> simp)
theorem own_base {w : World} {base base' size n : Nat} {v : Value} {e : TypeId} {xs : List Value} (h : w.ownsRow base e size v n xs) (hb : base' ≤ base) : w.ownsRow base' e size v n xs := by
  refine ⟨h.1, ?_⟩
  rcases h.2 with h | ⟨g, cap, cur, hv, hg, r⟩
  · exact .inl h
  · exact .inr ⟨g, cap, cur, hv, by omega, r⟩
theorem own_ge {w : World} {base B size n : Nat} {v : Value} {e : TypeId} {xs : List Value} (h : w.ownsRow base e size v n xs) (hB : B ≤ base) : ∀ k, v.ownBlock = some k → B ≤ k :=
  fun k hk => by have := (h.lt k hk).1; omega

theorem own_apart {w w2 : World} {b1 b2 s1 s2 n1 n2 : Nat} {e1 e2 : TypeId} {v1 v2 : Value} {xs1 xs2 : List Value} (h1 : w.ownsRow b1 e1 s1 v1 n1 xs1) (h2 : w2.ownsRow b2 e2 s2 v2 n2 xs2) (hs : w.heap.size ≤ b2) :
    v1.ownBlock = none ∨ v1.ownBlock ≠ v2.ownBlock := by
  cases hb : v1.ownBlock with
  | none => exact .inl rfl
  | some k =>
    refine .inr fun he => ?_
    have := (h1.lt k hb).2
    have := (h2.lt k (by rw [← he])).1
    omega
theorem own_apart' {w w2 : World} {b1 b2 s1 s2 n1 n2 : Nat} {e1 e2 : TypeId} {v1 v2 : Value} {xs1 xs2 : List Value} (h1 : w.ownsRow b1 e1 s1 v1 n1 xs1) (h2 : w2.ownsRow b2 e2 s2 v2 n2 xs2) (hs : w.heap.size ≤ b2) :
    v2.ownBlock = none ∨ v2.ownBlock ≠ v1.ownBlock := by
  cases hb : v2.ownBlock with
  | none => exact .inl rfl
  | some k =>
    refine .inr fun he => ?_
    have := (h2.lt k hb).1
    have := (h1.lt k (by rw [← he])).2
    omega
/-- Only one owned row has been written. -/
theorem below_wrote {w w' W : World} {B base size n : Nat} {v : Value} {e : TypeId} {xs : List Value} (h : Below B W w) (hown : w.ownsRow base e size v n xs) (hg : w.grownBy w' v.ownBlock) (hB : B ≤ base) (hs : B ≤ w.heap.size) : Below B W w' :=
  h.grown hg hs (own_ge hown hB)
theorem below_drewN {B : Nat} {a w : World} (h : Below B a w) (n : Nat) : Below B a (w.drewN n) := ⟨h.os, h.tape, h.output, h.size, h.block⟩
theorem below_of_drewN {B : Nat} {a w : World} {n : Nat} (h : Below B (a.drewN n) w) : Below B a w := ⟨h.os, h.tape, h.output, h.size, h.block⟩
/-- A world in which nothing but draws may have moved. -/
def Quiet (w w' : World) : Prop := ∃ n, w' = w.drewN n
theorem Quiet.refl (w : World) : Quiet w w := ⟨0, rfl⟩
theorem Quiet.below {w w' : World} (h : Quiet w w') (B : Nat) : Below B w w' := by obtain ⟨n, rfl⟩ := h; exact below_drewN (Below.refl _ _) n
theorem Quiet.trans {a b c : World} (h : Quiet a b) (k : Quiet b c) : Quiet a c := by
  obtain ⟨n, rfl⟩ := h; obtain ⟨m, rfl⟩ := k; exact ⟨n + m, by rw [World.drewN_drewN]⟩

theorem map_at {α : Type} {f : α → Value} {l : List α} {k : Nat} (h : k < l.length) : (l.map f)[k]? = some (f l[k]) := by simp [h]

/-- The bytes bs lie at A. -/
abbrev RdB (w : World) (A : Option Addr) (n : Nat) (bs : List UInt8) : Prop := Rd w 1 A n (bs.map u8v)
theorem RdB.len {w : World} {A : Option Addr} {n : Nat} {bs : List UInt8} (h : RdB w A n bs) : bs.length = n := by simpa using Rd.len1 h
theorem RdB.at_ {w : World} {n k : Nat} {A : Option Addr} {bs : List UInt8} (h : RdB w A n bs) (hk : k < n) :
    ∃ b o, ∃ hl : k < bs.length, A = some ⟨b, o, none⟩ ∧ w.cell? ⟨b, o + k, none⟩ = some (u8v bs[k]) := by
  obtain ⟨b, o, u, hA, hu, hc⟩ := Rd.at1 h hk
  have hl : k < bs.length := by rw [h.len]; exact hk
  rw [map_at hl] at hu; injection hu with hu; subst hu
  exact ⟨b, o, hl, hA, hc⟩
/-- The integers zs lie at A. -/
abbrev RdI (w : World) (A : Option Addr) (n : Nat) (zs : List Int) : Prop := Rd w 1 A n (zs.map i64v)
theorem RdI.len {w : World} {A : Option Addr} {n : Nat} {bs : List Int} (h : RdI w A n bs) : bs.length = n := by simpa using Rd.len1 h
theorem RdI.at_ {w : World} {n k : Nat} {A : Option Addr} {bs : List Int} (h : RdI w A n bs) (hk : k < n) :
    ∃ b o, ∃ hl : k < bs.length, A = some ⟨b, o, none⟩ ∧ w.cell? ⟨b, o + k, none⟩ = some (i64v bs[k]) := by
  obtain ⟨b, o, u, hA, hu, hc⟩ := Rd.at1 h hk
  have hl : k < bs.length := by rw [h.len]; exact hk
  rw [map_at hl] at hu; injection hu with hu; subst hu
  exact ⟨b, o, hl, hA, hc⟩
/-- The strings ss lie at A. -/
abbrev RdS (w : World) (A : Option Addr) (n : Nat) (ss : List ByteArray) : Prop := Rd w 1 A n (ss.map strv)
theorem RdS.len {w : World} {A : Option Addr} {n : Nat} {bs : List ByteArray} (h : RdS w A n bs) : bs.length = n := by simpa using Rd.len1 h
theorem RdS.at_ {w : World} {n k : Nat} {A : Option Addr} {bs : List ByteArray} (h : RdS w A n bs) (hk : k < n) :
    ∃ b o, ∃ hl : k < bs.length, A = some ⟨b, o, none⟩ ∧ w.cell? ⟨b, o + k, none⟩ = some (strv bs[k]) := by
  obtain ⟨b, o, u, hA, hu, hc⟩ := Rd.at1 h hk
  have hl : k < bs.length := by rw [h.len]; exact hk
  rw [map_at hl] at hu; injection hu with hu; subst hu
  exact ⟨b, o, hl, hA, hc⟩

/-- What the tables say of a slice type t with elements of type e: its zero, its cells, its bytes. -/
structure Elem (P : Program) (t e : TypeId) (z : Value) (size bytes : Nat) : Prop where
  ht : P.underlying t = some (.slice e)
  hi : ∃ i, P.info? e = some i ∧ i.zero = some z ∧ i.size = size ∧ i.bytes = bytes
  hz : z.cells.size = size
  hs : 0 < size
theorem Elem.mk' {P : Program} {t e : TypeId} {z : Value} {size bytes : Nat} (ht : P.underlying t = some (.slice e))
    (h : (P.info? e).map (fun i => (i.zero, i.size, i.bytes)) = some (some z, size, bytes)) (hz : z.cells.size = size) (hs : 0 < size) : Elem P t e z size bytes := by
  obtain ⟨i, h1, h2⟩ := Option.map_eq_some_iff.1 h
  simp only [Prod.mk.injEq] at h2
  exact ⟨ht, ⟨i, h1, h2.1, h2.2.1, h2.2.2⟩, hz, hs⟩

/-- What an append leaves: the new slice A' owns xs ++ news; only its own block, or a new one, has turned. -/
structure App (w : World) (base : Nat) (e : TypeId) (size : Nat) (v : Value) (n : Nat) (v' : Value) (xs' : List Value) (w' : World) : Prop where
  own : w'.ownsRow base e size v' n xs'
  grown : w.grownBy w' v.ownBlock
  lies : v'.ownBlock = v.ownBlock ∨ ∃ g, v'.ownBlock = some g ∧ w.heap.size ≤ g
theorem App.below {w w' W : World} {base size n B : Nat} {e : TypeId} {v v' : Value} {xs' : List Value} (h : App w base e size v n v' xs' w')
    (hb : Below B W w) (hB : B ≤ w.heap.size) (hv : ∀ k, v.ownBlock = some k → B ≤ k) : Below B W w' := hb.grown h.grown hB hv

/-- A new block of one or more cells, as a source for an append. -/
theorem Rd.fresh (w : World) (l : List Value) (e : TypeId) (size n : Nat) (hl : l.length = n * size) : Rd (w.alloc (.cells l.toArray e)) size (some ⟨w.heap.size, 0, none⟩) n l := by
  refine ⟨hl, fun _ => ⟨w.heap.size, 0, rfl, fun j u hu => ?_⟩⟩
  rw [Nat.zero_add, cell_of_row _ _ j l.toArray e (0, 0) (heap_alloc_new w _)]
  simpa using hu
section
variable {P : Program} {w : World} {ops : Array Oper} {rest : List Oper} {o : Oper} {a : Act} {Q : Exit → Act → World → Prop} {t e : TypeId} {z : Value} {size bytes : Nat}
theorem run_app (E : Elem P t e z size bytes) (ty : TypeId) (base : Nat) (A0 : Option Addr) (n c0 : Nat) (xs : List Value) (hown : w.ownsRow base e size (.slice A0 n c0) n xs)
    (A : Option Addr) (m c : Nat) (news : List Value) (hr : Rd w size A m news) (h1 : ∀ u ∈ news, u.oneCell' = true)
    (h63 : n + m ≤ maxLen) (hbytes : (n + m) * bytes ≤ 140737488355328) (hbase : base ≤ w.heap.size) :
    ∃ A' c' w', (Builtin.append_ #[t, t] ty #[.slice A0 n c0, .slice A m c]).run P w = .ok (.slice A' (n + m) c') w' ∧
      App w base e size (.slice A0 n c0) (n + m) (.slice A' (n + m) c') (xs ++ news) w' := by
  obtain ⟨i, hi, hz, hs, hb⟩ := E.hi
  rcases Nat.eq_zero_or_pos m with h0 | h0
  · subst h0
    have hn : news = [] := List.eq_nil_of_length_eq_zero (by simpa using hr.1)
    subst hn
    refine ⟨A0, c0, w, ?_, ⟨by simpa using hown, World.grownBy.refl w _, .inl rfl⟩⟩
    rcases hown.2 with ⟨h', rfl⟩ | ⟨g, cap, cur, h', _, _, hnc, _⟩
    · injection h' with e1 _ e2; subst e1; subst e2
      simp [Builtin.append_, run_underlying E.ht, sizeOf, typeInfo, hi, Builtin.lenOf, Builtin.firstCells]
      cases A <;> simp [loadCells, loadCellsFrom]
    · injection h' with e1 _ e2; subst e1; subst e2
      simp [Builtin.append_, run_underlying E.ht, sizeOf, typeInfo, hi, Builtin.lenOf, Builtin.firstCells, hnc, storeCells]
      cases A <;> simp [loadCells, loadCellsFrom, storeCells]
  · obtain ⟨b, off, rfl, hc⟩ := hr.2 h0
    obtain ⟨v', w', hrun, h2, h3, _, h5⟩ := run_append_own_at (P := P) w base t ty e i z size bytes E.ht hi hz hs hb E.hz E.hs _ n xs hown ⟨b, off, none⟩ m c news hr.1
      (fun j u hu => by
        have hadd : (⟨b, off, none⟩ : Addr).add j = ⟨b, off + j, none⟩ := by unfold Addr.add; split <;> simp_all
        rw [hadd]; exact hc j u hu) h1 h63 hbytes hbase
    obtain ⟨A', c', rfl, _⟩ := own_form h2
    exact ⟨A', c', w', hrun, ⟨h2, h3, h5.imp id fun h => ⟨_, h, Nat.le_refl _⟩⟩⟩

/-- append, for the walk. -/
theorem wpList_app (hgd : o.guard = none) (s x : Operand)
    (ho : o.op = .call { callee := .builtin .append, args := #[s, x], argTypes := #[t, t] })
    (E : Elem P t e z size bytes) (base : Nat) (A0 : Option Addr) (n c0 : Nat) (xs : List Value) (hs : a.eval s = .slice A0 n c0) (hown : w.ownsRow base e size (.slice A0 n c0) n xs)
    (A : Option Addr) (m c : Nat) (news : List Value) (hx : a.eval x = .slice A m c) (hr : Rd w size A m news) (h1 : ∀ u ∈ news, u.oneCell' = true)
    (h63 : n + m ≤ maxLen) (hbytes : (n + m) * bytes ≤ 140737488355328) (hbase : base ≤ w.heap.size)
    (h : ∀ A' c' w', App w base e size (.slice A0 n c0) (n + m) (.slice A' (n + m) c') (xs ++ news) w' → wpList P ops Q rest (a.put o.dst (.slice A' (n + m) c')) w') : wpList P ops Q (o :: rest) a w := by
  refine wpList_plain hgd fun K hK => ?_
  obtain ⟨A', c', w', hrun, happ⟩ := run_app E o.type base A0 n c0 xs hown A m c news hr h1 h63 hbytes hbase
  unfold Oper.wp execOp
  simp only [ho, resolve, invoke, builtin, Sem.run_bind, Sem.run_pure, Result.andThen_ok, List.map_toArray, List.map_cons, List.map_nil, hs, hx, hrun]
  exact hK _ _ (h A' c' w' happ)

/-- append of some elements that are written out: they lie in a new block of their own first. -/
theorem wpList_appL {w0 : World} (hgd : o.guard = none) (s x : Operand)
    (ho : o.op = .call { callee := .builtin .append, args := #[s, x], argTypes := #[t, t] })
    (E : Elem P t e z size bytes) (base : Nat) (A0 : Option Addr) (n c0 : Nat) (xs : List Value) (hs : a.eval s = .slice A0 n c0) (hown : w0.ownsRow base e size (.slice A0 n c0) n xs)
    (m : Nat) (l : List Value) (hx : a.eval x = .slice (some ⟨w0.heap.size, 0, none⟩) m m) (hl : l.length = m * size) (h1 : ∀ u ∈ l, u.oneCell' = true)
    (h63 : n + m ≤ maxLen) (hbytes : (n + m) * bytes ≤ 140737488355328) (B : Nat) (W : World) (hb : Below B W w0) (hB : B ≤ base) (hBs : base ≤ w0.heap.size)
    (h : ∀ A' c' w', App w0 base e size (.slice A0 n c0) (n + m) (.slice A' (n + m) c') (xs ++ l) w' → Hid (Below B W w') → w0.heap.size ≤ w'.heap.size → wpList P ops Q rest (a.put o.dst (.slice A' (n + m) c')) w') :
    wpList P ops Q (o :: rest) a (w0.alloc (.cells l.toArray e)) := by
  refine wpList_app hgd s x ho E base A0 n c0 xs hs (hown.alloc _) _ m m l hx (Rd.fresh _ _ _ _ _ hl) h1 h63 hbytes (by simp; omega) fun A' c' w' happ => ?_
  have hlt := fun k hk => hown.lt k hk
  have hg : w0.grownBy w' (Value.ownBlock (.slice A0 n c0)) :=
    ⟨happ.grown.os, happ.grown.tape, happ.grown.output, by have := happ.grown.size; simp at this; omega,
      fun i hi hne => (happ.grown.block i (by simp; omega) hne).trans (Below.heap_alloc _ _ _ hi)⟩
  refine h A' c' w' ⟨happ.own, hg, happ.lies.imp id fun ⟨g, h1, h2⟩ => ⟨g, h1, by simp at h2; omega⟩⟩ (Lib.hid (hb.grown hg (by omega) fun k hk => by have := (hlt k hk).1; omega)) hg.size

/-- The same as a step of a region that draws its order (the world bears draws). -/
theorem step_appL {w0 : World} {K : Act → World → Prop} {EE : Prop} (hgd : o.guard = none) (s x : Operand)
    (ho : o.op = .call { callee := .builtin .append, args := #[s, x], argTypes := #[t, t] })
    (E : Elem P t e z size bytes) (base : Nat) (A0 : Option Addr) (n c0 : Nat) (xs : List Value) (hs : a.eval s = .slice A0 n c0) (hown : w0.ownsRow base e size (.slice A0 n c0) n xs)
    (m : Nat) (l : List Value) (hx : a.eval x = .slice (some ⟨w0.heap.size, 0, none⟩) m m) (hl : l.length = m * size) (h1 : ∀ u ∈ l, u.oneCell' = true)
    (h63 : n + m ≤ maxLen) (hbytes : (n + m) * bytes ≤ 140737488355328) (B : Nat) (W : World) (hb : Below B W w0) (hB : B ≤ base) (hBs : base ≤ w0.heap.size)
    (h : ∀ A' c' w', App w0 base e size (.slice A0 n c0) (n + m) (.slice A' (n + m) c') (xs ++ l) w' → Hid (Below B W w') → w0.heap.size ≤ w'.heap.size → K (a.put o.dst (.slice A' (n + m) c')) w') :
    if Region.wanted o (yielded ops a.tmps) = true then Oper.wp P o a (w0.alloc (.cells l.toArray e)) K Q else EE := by
  have hw : Region.wanted o (yielded ops a.tmps) = true := by simp [Region.wanted, hgd]
  rw [if_pos hw]
  obtain ⟨A', c', w', hrun, happ⟩ := run_app (P := P) (w := w0.alloc (.cells l.toArray e)) E o.type base A0 n c0 xs (hown.alloc _) (some ⟨w0.heap.size, 0, none⟩) m m l (Rd.fresh _ _ _ _ _ hl) h1 h63 hbytes (by simp; omega)
  unfold Oper.wp execOp
  simp only [ho, resolve, invoke, builtin, Sem.run_bind, Sem.run_pure, Result.andThen_ok, List.map_toArray, List.map_cons, List.map_nil, hs, hx, hrun]
  have hlt := fun k hk => hown.lt k hk
  have hg : w0.grownBy w' (Value.ownBlock (.slice A0 n c0)) :=
    ⟨happ.grown.os, happ.grown.tape, happ.grown.output, by have := happ.grown.size; simp at this; omega,
      fun i hi hne => (happ.grown.block i (by simp; omega) hne).trans (Below.heap_alloc _ _ _ hi)⟩
  exact h A' c' w' ⟨happ.own, hg, happ.lies.imp id fun ⟨g, h1, h2⟩ => ⟨g, h1, by simp at h2; omega⟩⟩ (Lib.hid (hb.grown hg (by omega) fun k hk => by have := (hlt k hk).1; omega)) hg.size

/-- make([]T, n), for the walk. -/
theorem wpList_mk (hg : o.guard = none) (l c : Operand) (hop : o.op = Op.makeSlice t l c) (E : Elem P t e z size bytes)
    (kl kc : IntKind) (L C : Int) (n : Nat) (hl : a.eval l = .int kl L) (hc : a.eval c = .int kc C) (hL : L = (n : Int)) (hC : C = (n : Int)) (b2 : bytes * n ≤ 281474976710656) (b3 : n ≤ maxLen)
    (h : ∀ w', w'.ownsRow w.heap.size e size (slv w.heap.size n n) n (madeCells z.cells (n * size)).toList → Below w.heap.size w w' → w'.heap.size = w.heap.size + 1 → wpList P ops Q rest (a.put o.dst (slv w.heap.size n n)) w') :
    wpList P ops Q (o :: rest) a w := by
  obtain ⟨i, hi, hz, hs, hb⟩ := E.hi
  subst hs; subst hb
  refine wpList_plain hg fun K hK' => ?_
  subst hL; subst hC
  have h63' : (n : Int) ≤ 9223372036854775807 := by simp [maxLen] at b3; omega
  have hb' : (i.bytes : Int) * (n : Int) ≤ 281474976710656 := by
    have h : ((i.bytes * n : Nat) : Int) ≤ 281474976710656 := by omega
    rwa [Int.natCast_mul] at h
  have hr := run_make (P := P) w t e i z E.ht hi hz kl kc n n (by omega) (Int.le_refl _) hb' h63'
  simp only [Int.toNat_natCast] at hr
  unfold Oper.wp
  simp only [execOp, hop, hl, hc, hr, Sem.run_bind, Result.andThen]
  exact hK' _ _ (h _ (World.ownsRow_lit w _ n (Nat.le_refl _) b3 (size_madeCells _ _)) ((Below.refl _ _).alloc (Nat.le_refl _) _) (by simp))
/-- make([]T, 0, c), for the walk. -/
theorem wpList_mk0 (hg : o.guard = none) (l c : Operand) (hop : o.op = Op.makeSlice t l c) (E : Elem P t e z size bytes)
    (kl kc : IntKind) (C : Int) (n : Nat) (hl : a.eval l = .int kl 0) (hc : a.eval c = .int kc C) (hC : C = (n : Int)) (b2 : bytes * n ≤ 281474976710656) (b3 : n ≤ maxLen)
    (h : ∀ w', w'.ownsRow w.heap.size e size (slv w.heap.size 0 n) 0 [] → Below w.heap.size w w' → w'.heap.size = w.heap.size + 1 → wpList P ops Q rest (a.put o.dst (slv w.heap.size 0 n)) w') :
    wpList P ops Q (o :: rest) a w := by
  obtain ⟨i, hi, hz, hs, hb⟩ := E.hi
  subst hs; subst hb
  refine wpList_plain hg fun K hK' => ?_
  subst hC
  have h63' : (n : Int) ≤ 9223372036854775807 := by simp [maxLen] at b3; omega
  have hb' : (i.bytes : Int) * (n : Int) ≤ 281474976710656 := by
    have h : ((i.bytes * n : Nat) : Int) ≤ 281474976710656 := by omega
    rwa [Int.natCast_mul] at h
  have hr := run_make (P := P) w t e i z E.ht hi hz kl kc 0 n (Int.le_refl _) (by omega) hb' h63'
  simp only [Int.toNat_natCast, Int.toNat_zero] at hr
  unfold Oper.wp
  simp only [execOp, hop, hl, hc, hr, Sem.run_bind, Result.andThen]
  exact hK' _ _ (h _ (World.ownsRow_made w _ n (Nat.le_refl _) b3 (size_madeCells _ _)) ((Below.refl _ _).alloc (Nat.le_refl _) _) (by simp))
end
theorem made_one (z : Value) (n : Nat) (h : z.cells = #[z]) : (madeCells z.cells (n * 1)).toList = List.replicate n z := by rw [h, Nat.mul_one]; exact toList_madeCells_one z n
theorem own_full {w : World} {base g n : Nat} {e : TypeId} {xs : List Value} (h : w.ownsRow base e 1 (slv g n n) n xs) (hn : 0 < n) : w.heap[g]? = some (.cells xs.toArray e (0, 0)) ∧ base ≤ g := by
  rcases h.2 with ⟨h', h0⟩ | ⟨g', cap, cur, h', hb, hg, _, _, hs, ht⟩
  · omega
  · injection h' with e1 _ e3
    injection e1 with e1
    injection e1 with e1 _ _
    subst e1; subst e3
    rw [List.take_of_length_le (by rw [Array.length_toList]; omega)] at ht
    exact ⟨by rw [hg, ← ht], hb⟩
theorem own_of_full {w : World} {base g n : Nat} {e : TypeId} {xs : List Value} (h : w.heap[g]? = some (.cells xs.toArray e (0, 0))) (hb : base ≤ g) (hn : xs.length = n) (hm : n ≤ maxLen) : w.ownsRow base e 1 (slv g n n) n xs :=
  ⟨by rw [hn, Nat.mul_one], .inr ⟨g, n, xs.toArray, rfl, hb, h, Nat.le_refl _, hm, by simp [hn], by rw [List.take_of_length_le (by simp [hn])]⟩⟩
/-! ### Intervals of blocks: what a value of the law's own lies in, and what a writer may have turned. -/
/-- Only blocks in [lo, hi) and new ones may have turned. -/
structure Chg (lo hi : Nat) (w w' : World) : Prop where
  os : w'.os = w.os
  tape : w'.tape = w.tape
  output : w'.output = w.output
  size : w.heap.size ≤ w'.heap.size
  block : ∀ b, b < w.heap.size → (b < lo ∨ hi ≤ b) → w'.heap[b]? = w.heap[b]?
theorem Chg.refl (lo hi : Nat) (w : World) : Chg lo hi w w := ⟨rfl, rfl, rfl, Nat.le_refl _, fun _ _ _ => rfl⟩
theorem Chg.trans {lo hi : Nat} {a b c : World} (h : Chg lo hi a b) (k : Chg lo hi b c) : Chg lo hi a c :=
  ⟨k.os.trans h.os, k.tape.trans h.tape, k.output.trans h.output, Nat.le_trans h.size k.size, fun i hi hn => (k.block i (Nat.lt_of_lt_of_le hi h.size) hn).trans (h.block i hi hn)⟩
theorem Chg.of_below {lo hi : Nat} {w w' : World} (h : Below w.heap.size w w') : Chg lo hi w w' := ⟨h.os, h.tape, h.output, h.size, fun b hb _ => h.block b hb⟩
theorem Chg.mono {lo hi lo' hi' : Nat} {w w' : World} (h : Chg lo hi w w') (h1 : lo' ≤ lo) (h2 : hi ≤ hi') : Chg lo' hi' w w' :=
  ⟨h.os, h.tape, h.output, h.size, fun b hb hn => h.block b hb (by omega)⟩
theorem Chg.of_grown {lo hi g : Nat} {w w' : World} (h : w.grownBy w' (some g)) (h1 : lo ≤ g) (h2 : g < hi) : Chg lo hi w w' :=
  ⟨h.os, h.tape, h.output, h.size, fun b hb hn => h.block b hb (fun e => by injection e; omega)⟩
theorem Chg.below {lo hi B : Nat} {W w w' : World} (h : Chg lo hi w w') (hb : Below B W w) (hB : B ≤ lo) (hs : B ≤ w.heap.size) : Below B W w' :=
  hb.trans ⟨h.os, h.tape, h.output, h.size, fun k hk => h.block k (by omega) (.inl (by omega))⟩
theorem own_chg {w w' : World} {base size n l r : Nat} {v : Value} {e : TypeId} {xs : List Value} (h : w.ownsRow base e size v n xs) (hc : Chg l r w w') (hr : r ≤ base) : w'.ownsRow base e size v n xs := by
  refine ⟨h.1, ?_⟩
  rcases h.2 with h2 | ⟨g, cap, cur, hv, hg, hh, rr⟩
  · exact .inl h2
  · refine .inr ⟨g, cap, cur, hv, hg, (hc.block g (Array.getElem?_eq_some_iff.1 hh).1 (.inr (by omega))).trans hh, rr⟩
theorem Rd.chg {w w' : World} {size n l r : Nat} {A : Option Addr} {xs : List Value} (h : Rd w size A n xs) (hc : Chg l r w w') (hA : 0 < n → ∀ a, A = some a → a.block < l ∨ r ≤ a.block) : Rd w' size A n xs :=
  ⟨h.1, fun hn => by
    obtain ⟨b, o, e, hce⟩ := h.2 hn
    refine ⟨b, o, e, fun j u hu => ?_⟩
    have h1 := hce j u hu
    exact (World.cell?_of_block (hc.block b (World.block_lt_of_cell? w _ h1) (hA hn _ e))).trans h1⟩
/-- A reading that only asks the blocks in [lo, hi). -/
def Stays (lo hi : Nat) (R : World → Prop) : Prop := ∀ w w' : World, (∀ b, lo ≤ b → b < hi → w'.heap[b]? = w.heap[b]?) → R w → R w'
theorem Stays.below {lo hi : Nat} {R : World → Prop} (h : Stays lo hi R) {w w' : World} (hb : Below w.heap.size w w') (hs : hi ≤ w.heap.size) (hR : R w) : R w' :=
  h w w' (fun b _ h2 => hb.block b (by omega)) hR
theorem Stays.chg {lo hi l h : Nat} {R : World → Prop} (st : Stays lo hi R) {w w' : World} (hc : Chg l h w w') (hs : hi ≤ w.heap.size) (hd : hi ≤ l ∨ h ≤ lo) (hR : R w) : R w' :=
  st w w' (fun b h1 h2 => hc.block b (by omega) (by omega)) hR

theorem Stays.set {lo hi : Nat} {R : World → Prop} (st : Stays lo hi R) {w : World} {p : Addr} (u : Value) (hp : p.block < lo ∨ hi ≤ p.block) (hR : R w) : R (w.setCell p u) :=
  st w _ (fun b h1 h2 => Below.heap_setCell w p u b (by omega)) hR
/-- An owned row whose block lies below hi. -/
def OwnIn (w : World) (lo hi : Nat) (e : TypeId) (size : Nat) (v : Value) (n : Nat) (xs : List Value) : Prop := w.ownsRow lo e size v n xs ∧ ∀ k, v.ownBlock = some k → k < hi
theorem OwnIn.stays (lo hi : Nat) (e : TypeId) (size : Nat) (v : Value) (n : Nat) (xs : List Value) : Stays lo hi (fun w => OwnIn w lo hi e size v n xs) := by
  intro w w' hs ⟨⟨h1, h2⟩, h3⟩
  refine ⟨⟨h1, ?_⟩, h3⟩
  rcases h2 with h2 | ⟨g, cap, cur, rfl, hg, hh, r⟩
  · exact .inl h2
  · exact .inr ⟨g, cap, cur, rfl, hg, (hs g hg (h3 g rfl)).trans hh, r⟩
theorem OwnIn.of {w : World} {lo : Nat} {e : TypeId} {size n : Nat} {v : Value} {xs : List Value} (h : w.ownsRow lo e size v n xs) : OwnIn w lo w.heap.size e size v n xs := ⟨h, fun k hk => (h.lt k hk).2⟩
theorem OwnIn.wider {w : World} {lo hi lo' hi' : Nat} {e : TypeId} {size n : Nat} {v : Value} {xs : List Value} (h : OwnIn w lo hi e size v n xs) (h1 : lo' ≤ lo) (h2 : hi ≤ hi') : OwnIn w lo' hi' e size v n xs :=
  ⟨own_base h.1 h1, fun k hk => Nat.lt_of_lt_of_le (h.2 k hk) h2⟩
theorem set_step {α : Type} (l : List α) (z : α) (n k : Nat) (hn : l.length = n) (hk : k < n) (hl : k < l.length) :
    (l.take k ++ List.replicate (n - k) z).set k l[k] = l.take (k + 1) ++ List.replicate (n - (k + 1)) z := by
  obtain ⟨m, hm⟩ : ∃ m, n - k = m + 1 := ⟨n - k - 1, by omega⟩
  have e2 : n - (k + 1) = m := by omega
  rw [hm, e2, List.replicate_succ, List.set_append_right _ _ (by simp; omega), List.length_take_of_le (by omega), Nat.sub_self, List.set_cons_zero, List.take_succ_eq_append_getElem hl, List.append_assoc]
  rfl

theorem over_step {α β : Type} (f : α → β) (ms bs : List α) (n k : Nat) (hm : ms.length = n) (hb : bs.length = n) (hk : k < n) (hl : k < ms.length) :
    ((ms.take k ++ bs.drop k).map f).set k (f ms[k]) = (ms.take (k + 1) ++ bs.drop (k + 1)).map f := by
  rw [← List.map_set, List.set_append_right _ _ (by simp; omega), List.length_take_of_le (by omega), Nat.sub_self, List.drop_eq_getElem_cons (by omega : k < bs.length), List.set_cons_zero, List.take_succ_eq_append_getElem hl, List.append_assoc]
  rfl
theorem own_set {w : World} {base g n c k : Nat} {e : TypeId} {xs ys : List Value} {u : Value} (h : w.ownsRow base e 1 (slv g n c) n xs) (hy : xs.set k u = ys) :
    (w.setCell ⟨g, k, none⟩ u).ownsRow base e 1 (slv g n c) n ys ∧ w.grownBy (w.setCell ⟨g, k, none⟩ u) (some g) := by
  subst hy; exact h.stored k u
theorem own_slot {w : World} {base g n c k : Nat} {e : TypeId} {xs : List Value} (h : w.ownsRow base e 1 (slv g n c) n xs) (hk : k < n) : (∃ u, w.cell? ⟨g, k, none⟩ = some u) ∧ w.frozen? ⟨g, k, none⟩ = false := by
  refine ⟨?_, h.frozenAt k⟩
  have h1 := h.cellAt k (by omega)
  rw [List.getElem?_eq_getElem (by have := h.1; omega)] at h1
  exact ⟨_, h1⟩

/-! ### Several cells stored one behind the other: an element of an owned row. -/
def sets (xs : List Value) (a : Nat) : List Value → List Value
  | [] => xs
  | u :: us => sets (xs.set a u) (a + 1) us
def setsW (w : World) (g a : Nat) : List Value → World
  | [] => w
  | u :: us => setsW (w.setCell ⟨g, a, none⟩ u) g (a + 1) us
theorem sets_eq (l : List Value) : ∀ (xs : List Value) (a : Nat), a + l.length ≤ xs.length → sets xs a l = xs.take a ++ (l ++ xs.drop (a + l.length)) := by
  induction l with
  | nil => intro xs a _; simp [sets]
  | cons u us ih =>
    intro xs a h
    have hl : a < xs.length := by simp at h; omega
    rw [sets, ih _ _ (by simp at h ⊢; omega), List.take_set, List.drop_set_of_lt (by omega), List.take_succ_eq_append_getElem hl, List.set_append_right _ _ (by simp; omega), List.length_take_of_le (by omega), Nat.sub_self]
    have e : a + 1 + us.length = a + (u :: us).length := by simp; omega
    rw [e]; simp
theorem own_slots {w : World} {base g n c size j : Nat} {e : TypeId} {xs : List Value} (h : w.ownsRow base e size (slv g n c) n xs) (hj : j < n * size) : (∃ u, w.cell? ⟨g, j, none⟩ = some u) ∧ w.frozen? ⟨g, j, none⟩ = false := by
  refine ⟨?_, h.frozenAt j⟩
  have h1 := h.cellAt j hj
  rw [List.getElem?_eq_getElem (by have := h.1; omega)] at h1
  exact ⟨_, h1⟩
theorem own_sets {base g n c size : Nat} {e : TypeId} (l : List Value) : ∀ {w : World} {xs : List Value} {a : Nat}, w.ownsRow base e size (slv g n c) n xs →
    (setsW w g a l).ownsRow base e size (slv g n c) n (sets xs a l) ∧ w.grownBy (setsW w g a l) (some g) := by
  induction l with
  | nil => intro w xs a h; exact ⟨h, World.grownBy.refl _ _⟩
  | cons u us ih =>
    intro w xs a h
    have h1 := h.stored a u
    have h2 := ih (a := a + 1) h1.1
    exact ⟨h2.1, h1.2.trans h2.2⟩
/-- Element k of a row whose first k elements are done. -/
theorem sets_next (P Z l : List Value) (s k m : Nat) (hP : P.length = k * s) (hl : l.length = s) (hZ : Z.length = (m + 1) * s) : sets (P ++ Z) (k * s) l = (P ++ l) ++ Z.drop s := by
  rw [sets_eq _ _ _ (by rw [List.length_append, hP, hl, hZ, Nat.add_mul]; omega), ← hP, List.take_left, List.append_assoc, hl, List.drop_append]
  simp
/-- Below over a chain of stores into a block from B on. -/
theorem below_grown {B g : Nat} {W w w' : World} (h : Below B W w) (hg : w.grownBy w' (some g)) (hB : B ≤ g) (hs : B ≤ w.heap.size) : Below B W w' := h.grown hg hs (fun k hk => by injection hk; omega)
/-! ### A block that is known whole: a local struct. -/
def Blk (w : World) (g : Nat) (t : TypeId) (cs : Array Value) : Prop := w.heap[g]? = some (.cells cs t (0, 0))
section
variable {w w' : World} {g : Nat} {t : TypeId} {cs : Array Value}
theorem Blk.lt (h : Blk w g t cs) : g < w.heap.size := by
  rcases Nat.lt_or_ge g w.heap.size with hlt | hge
  · exact hlt
  · unfold Blk at h; rw [Array.getElem?_eq_none hge] at h; cases h
theorem Blk.cell (h : Blk w g t cs) (i : Nat) (hi : i < cs.size) : w.cell? ⟨g, i, none⟩ = some cs[i] := (cell_of_row w g i cs t (0, 0) h).trans (Array.getElem?_eq_getElem hi)
theorem Blk.frozen (h : Blk w g t cs) (i : Nat) : w.frozen? ⟨g, i, none⟩ = false := frozen_of_row w g i cs t h
theorem Blk.new (w : World) (t : TypeId) (cs : Array Value) : Blk (w.alloc (.cells cs t)) w.heap.size t cs := heap_alloc_new w _
theorem Blk.alloc (h : Blk w g t cs) (o : Obj) : Blk (w.alloc o) g t cs := (Below.heap_alloc w o g h.lt).trans h
theorem Blk.below (h : Blk w g t cs) (hb : Below w.heap.size w w') : Blk w' g t cs := (hb.block g h.lt).trans h
theorem Blk.set (h : Blk w g t cs) (i : Nat) (u : Value) : Blk (w.setCell ⟨g, i, none⟩ u) g t (cs.setIfInBounds i u) := heap_setCell_same w g i cs t u h
theorem Blk.far (h : Blk w g t cs) {p : Addr} (hp : g ≠ p.block) (u : Value) : Blk (w.setCell p u) g t cs := (Below.heap_setCell w p u g hp).trans h
theorem Blk.drewN (h : Blk w g t cs) (n : Nat) : Blk (w.drewN n) g t cs := h
theorem Blk.chg {lo hi : Nat} (h : Blk w g t cs) (hc : Chg lo hi w w') (hg : g < lo ∨ hi ≤ g) : Blk w' g t cs := (hc.block g h.lt hg).trans h
end
end Go.Proofs.YtnbjncafoahclaaDoor
