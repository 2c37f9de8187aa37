/- Gathered texts. -/
import Derived.WalkKit
import Derived.Lib.Hide
import Derived.Deep.Draws
import Derived.Maps.AppendAt
import Derived.Laws.OwnMore
import Derived.Laws.MakeOwn
import Derived.OneCell
import Derived.Deep.Quiet
import Derived.ProofKit
import Derived.OpenShut
import Derived.Deep.Slices
import Derived.ChangeArms
import Derived.DataReads
/- Words for memory, over any program: a slice that reads as a list of cells, and what keeps it. -/
namespace Go.Proofs.Ytnecoghfhcimeaa
set_option linter.unusedSimpArgs false
set_option linter.unusedVariables false
set_option linter.unusedSectionVars false
open Go.RowKit
abbrev u8v (c : UInt8) : Value := .int .u8 (c.toNat : Int)
abbrev i64v (n : Int) : Value := .int .i64 n
abbrev strv (s : ByteArray) : Value := .string s
abbrev slv (g n c : Nat) : Value := .slice (some ⟨g, 0, none⟩) n c
abbrev I64 (n : Int) : Prop := -9223372036854775808 ≤ n ∧ n ≤ 9223372036854775807
def Rd (w : World) (size : Nat) (A : Option Addr) (n : Nat) (xs : List Value) : Prop :=
  xs.length = n * size ∧ (0 < n → ∃ b o, A = some ⟨b, o, none⟩ ∧ ∀ j u, xs[j]? = some u → w.cell? ⟨b, o + j, none⟩ = some u)
theorem Rd.len1 {w : World} {A : Option Addr} {n : Nat} {xs : List Value} (h : Rd w 1 A n xs) : xs.length = n := by simpa using h.1
theorem Rd.nil (w : World) (size : Nat) (A : Option Addr) : Rd w size A 0 [] := ⟨by simp, fun h => absurd h (by omega)⟩
theorem Rd.keep {w w' : World} {size n : Nat} {A : Option Addr} {xs : List Value} (h : Rd w size A n xs) (hk : ∀ p u, w.cell? p = some u → w'.cell? p = some u) : Rd w' size A n xs :=
  ⟨h.1, fun hn => by obtain ⟨b, o, e, hc⟩ := h.2 hn; exact ⟨b, o, e, fun j u hu => hk _ _ (hc j u hu)⟩⟩
theorem below_cell {w w' : World} (hb : Below w.heap.size w w') (p : Addr) (u : Value) (h : w.cell? p = some u) : w'.cell? p = some u :=
  (hb.cell (World.block_lt_of_cell? w p h)).trans h
theorem below_one (w : World) (o : Obj) : Below w.heap.size w (w.alloc o) := (Below.refl _ _).alloc (Nat.le_refl _) o
theorem Rd.below {w w' : World} {size n : Nat} {A : Option Addr} {xs : List Value} (h : Rd w size A n xs) (hb : Below w.heap.size w w') : Rd w' size A n xs :=
  h.keep (below_cell hb)
theorem Rd.grown {w w' : World} {size n g : Nat} {A : Option Addr} {xs : List Value} (h : Rd w size A n xs) (hg : w.grownBy w' (some g)) (hA : 0 < n → ∀ a, A = some a → a.block ≠ g) : Rd w' size A n xs :=
  ⟨h.1, fun hn => by
    obtain ⟨b, o, e, hc⟩ := h.2 hn
    exact ⟨b, o, e, fun j u hu => hg.cell (hc j u hu) (fun e' => hA hn _ e (by injection e'))⟩⟩
theorem Rd.drewN {w : World} {size n : Nat} {A : Option Addr} {xs : List Value} (h : Rd w size A n xs) (k : Nat) : Rd (w.drewN k) size A n xs := h
theorem Rd.drew {w : World} {size n : Nat} {A : Option Addr} {xs : List Value} (h : Rd w size A n xs) : Rd w.drew size A n xs := h
theorem Rd.at1 {w : World} {n k : Nat} {A : Option Addr} {xs : List Value} (h : Rd w 1 A n xs) (hk : k < n) :
    ∃ b o u, A = some ⟨b, o, none⟩ ∧ xs[k]? = some u ∧ w.cell? ⟨b, o + k, none⟩ = some u := by
  obtain ⟨b, o, e, hc⟩ := h.2 (by omega)
  have hl : k < xs.length := by rw [h.len1]; exact hk
  exact ⟨b, o, xs[k], e, List.getElem?_eq_getElem hl, hc k _ (List.getElem?_eq_getElem hl)⟩
theorem Rd.of_own {w : World} {base size n c : Nat} {A : Option Addr} {e : TypeId} {xs : List Value} (h : w.ownsRow base e size (.slice A n c) n xs) : Rd w size A n xs := by
  refine ⟨h.1, fun hn => ?_⟩
  rcases h.2 with ⟨h', h0⟩ | ⟨g, cap, cur, h', _, hg, _, _, _, htake⟩
  · omega
  · injection h' with hA _ _
    subst hA
    refine ⟨g, 0, rfl, fun j u hu => ?_⟩
    have hc := World.ownsRow.cells h (g := g) rfl j u hu
    rw [Nat.zero_add]
    have hadd : (⟨g, 0, none⟩ : Addr).add j = ⟨g, j, none⟩ := by unfold Addr.add; split <;> simp_all
    rwa [hadd] at hc
theorem own_form {w : World} {base size n : Nat} {v : Value} {e : TypeId} {xs : List Value} (h : w.ownsRow base e size v n xs) :
    ∃ A c, v = .slice A n c ∧ n ≤ c ∧ c ≤ maxLen ∧ Rd w size A n xs := by
  rcases h.2 with ⟨rfl, rfl⟩ | ⟨g, cap, cur, rfl, hb, hg, hnc, hcm, hcs, htake⟩
  · refine ⟨none, 0, rfl, Nat.le_refl _, Nat.zero_le _, ?_⟩
    have : xs = [] := List.eq_nil_of_length_eq_zero (by simpa using h.1)
    subst this; exact Rd.nil _ _ _
  · exact ⟨some ⟨g, 0, none⟩, cap, rfl, hnc, hcm, Rd.of_own h⟩
theorem below_drewN {B : Nat} {a w : World} (h : Below B a w) (n : Nat) : Below B a (w.drewN n) := ⟨h.os, h.tape, h.output, h.size, h.block⟩
def Quiet (w w' : World) : Prop := ∃ n, w' = w.drewN n
theorem Quiet.refl (w : World) : Quiet w w := ⟨0, rfl⟩
theorem Quiet.below {w w' : World} (h : Quiet w w') (B : Nat) : Below B w w' := by obtain ⟨n, rfl⟩ := h; exact below_drewN (Below.refl _ _) n
theorem Quiet.trans {a b c : World} (h : Quiet a b) (k : Quiet b c) : Quiet a c := by
  obtain ⟨n, rfl⟩ := h; obtain ⟨m, rfl⟩ := k; exact ⟨n + m, by rw [World.drewN_drewN]⟩
theorem map_at {α : Type} {f : α → Value} {l : List α} {k : Nat} (h : k < l.length) : (l.map f)[k]? = some (f l[k]) := by simp [h]
abbrev RdB (w : World) (A : Option Addr) (n : Nat) (bs : List UInt8) : Prop := Rd w 1 A n (bs.map u8v)
theorem RdB.len {w : World} {A : Option Addr} {n : Nat} {bs : List UInt8} (h : RdB w A n bs) : bs.length = n := by simpa using Rd.len1 h
theorem RdB.at_ {w : World} {n k : Nat} {A : Option Addr} {bs : List UInt8} (h : RdB w A n bs) (hk : k < n) :
    ∃ b o, ∃ hl : k < bs.length, A = some ⟨b, o, none⟩ ∧ w.cell? ⟨b, o + k, none⟩ = some (u8v bs[k]) := by
  obtain ⟨b, o, u, hA, hu, hc⟩ := Rd.at1 h hk
  have hl : k < bs.length := by rw [h.len]; exact hk
  rw [map_at hl] at hu; injection hu with hu; subst hu
  exact ⟨b, o, hl, hA, hc⟩
abbrev RdI (w : World) (A : Option Addr) (n : Nat) (zs : List Int) : Prop := Rd w 1 A n (zs.map i64v)
theorem RdI.len {w : World} {A : Option Addr} {n : Nat} {bs : List Int} (h : RdI w A n bs) : bs.length = n := by simpa using Rd.len1 h
theorem RdI.at_ {w : World} {n k : Nat} {A : Option Addr} {bs : List Int} (h : RdI w A n bs) (hk : k < n) :
    ∃ b o, ∃ hl : k < bs.length, A = some ⟨b, o, none⟩ ∧ w.cell? ⟨b, o + k, none⟩ = some (i64v bs[k]) := by
  obtain ⟨b, o, u, hA, hu, hc⟩ := Rd.at1 h hk
  have hl : k < bs.length := by rw [h.len]; exact hk
  rw [map_at hl] at hu; injection hu with hu; subst hu
  exact ⟨b, o, hl, hA, hc⟩
abbrev RdS (w : World) (A : Option Addr) (n : Nat) (ss : List ByteArray) : Prop := Rd w 1 A n (ss.map strv)
theorem RdS.len {w : World} {A : Option Addr} {n : Nat} {bs : List ByteArray} (h : RdS w A n bs) : bs.length = n := by simpa using Rd.len1 h
theorem RdS.at_ {w : World} {n k : Nat} {A : Option Addr} {bs : List ByteArray} (h : RdS w A n bs) (hk : k < n) :
    ∃ b o, ∃ hl : k < bs.length, A = some ⟨b, o, none⟩ ∧ w.cell? ⟨b, o + k, none⟩ = some (strv bs[k]) := by
  obtain ⟨b, o, u, hA, hu, hc⟩ := Rd.at1 h hk
  have hl : k < bs.length := by rw [h.len]; exact hk
  rw [map_at hl] at hu; injection hu with hu; subst hu
  exact ⟨b, o, hl, hA, hc⟩
structure Elem (P : Program) (t e : TypeId) (z : Value) (size bytes : Nat) : Prop where
  ht : P.underlying t = some (.slice e)
  hi : ∃ i, P.info? e = some i ∧ i.zero = some z ∧ i.size = size ∧ i.bytes = bytes
  hz : z.cells.size = size
  hs : 0 < size
theorem Elem.mk' {P : Program} {t e : TypeId} {z : Value} {size bytes : Nat} (ht : P.underlying t = some (.slice e))
    (h : (P.info? e).map (fun i => (i.zero, i.size, i.bytes)) = some (some z, size, bytes)) (hz : z.cells.size = size) (hs : 0 < size) : Elem P t e z size bytes := by
  obtain ⟨i, h1, h2⟩ := Option.map_eq_some_iff.1 h
  simp only [Prod.mk.injEq] at h2
  exact ⟨ht, ⟨i, h1, h2.1, h2.2.1, h2.2.2⟩, hz, hs⟩
structure App (w : World) (base : Nat) (e : TypeId) (size : Nat) (v : Value) (n : Nat) (v' : Value) (xs' : List Value) (w' : World) : Prop where
  own : w'.ownsRow base e size v' n xs'
  grown : w.grownBy w' v.ownBlock
  lies : v'.ownBlock = v.ownBlock ∨ ∃ g, v'.ownBlock = some g ∧ w.heap.size ≤ g
theorem App.below {w w' W : World} {base size n B : Nat} {e : TypeId} {v v' : Value} {xs' : List Value} (h : App w base e size v n v' xs' w')
    (hb : Below B W w) (hB : B ≤ w.heap.size) (hv : ∀ k, v.ownBlock = some k → B ≤ k) : Below B W w' := hb.grown h.grown hB hv
theorem Rd.fresh (w : World) (l : List Value) (e : TypeId) (size n : Nat) (hl : l.length = n * size) : Rd (w.alloc (.cells l.toArray e)) size (some ⟨w.heap.size, 0, none⟩) n l := by
  refine ⟨hl, fun _ => ⟨w.heap.size, 0, rfl, fun j u hu => ?_⟩⟩
  rw [Nat.zero_add, cell_of_row _ _ j l.toArray e (0, 0) (heap_alloc_new w _)]
  simpa using hu
section
variable {P : Program} {w : World} {ops : Array Oper} {rest : List Oper} {o : Oper} {a : Act} {Q : Exit → Act → World → Prop} {t e : TypeId} {z : Value} {size bytes : Nat}
theorem run_app (E : Elem P t e z size bytes) (ty : TypeId) (base : Nat) (A0 : Option Addr) (n c0 : Nat) (xs : List Value) (hown : w.ownsRow base e size (.slice A0 n c0) n xs)
    (A : Option Addr) (m c : Nat) (news : List Value) (hr : Rd w size A m news) (h1 : ∀ u ∈ news, u.oneCell' = true)
    (h63 : n + m ≤ maxLen) (hbytes : (n + m) * bytes ≤ 140737488355328) (hbase : base ≤ w.heap.size) :
    ∃ A' c' w', (Builtin.append_ #[t, t] ty #[.slice A0 n c0, .slice A m c]).run P w = .ok (.slice A' (n + m) c') w' ∧
      App w base e size (.slice A0 n c0) (n + m) (.slice A' (n + m) c') (xs ++ news) w' := by
  obtain ⟨i, hi, hz, hs, hb⟩ := E.hi
  rcases Nat.eq_zero_or_pos m with h0 | h0
  · subst h0
    have hn : news = [] := List.eq_nil_of_length_eq_zero (by simpa using hr.1)
    subst hn
    refine ⟨A0, c0, w, ?_, ⟨by simpa using hown, World.grownBy.refl w _, .inl rfl⟩⟩
    rcases hown.2 with ⟨h', rfl⟩ | ⟨g, cap, cur, h', _, _, hnc, _⟩
    · injection h' with e1 _ e2; subst e1; subst e2
      simp [Builtin.append_, run_underlying E.ht, sizeOf, typeInfo, hi, Builtin.lenOf, Builtin.firstCells]
      cases A <;> simp [loadCells, loadCellsFrom]
    · injection h' with e1 _ e2; subst e1; subst e2
      simp [Builtin.append_, run_underlying E.ht, sizeOf, typeInfo, hi, Builtin.lenOf, Builtin.firstCells, hnc, storeCells]
      cases A <;> simp [loadCells, loadCellsFrom, storeCells]
  · obtain ⟨b, off, rfl, hc⟩ := hr.2 h0
    obtain ⟨v', w', hrun, h2, h3, _, h5⟩ := run_append_own_at (P := P) w base t ty e i z size bytes E.ht hi hz hs hb E.hz E.hs _ n xs hown ⟨b, off, none⟩ m c news hr.1
      (fun j u hu => by
        have hadd : (⟨b, off, none⟩ : Addr).add j = ⟨b, off + j, none⟩ := by unfold Addr.add; split <;> simp_all
        rw [hadd]; exact hc j u hu) h1 h63 hbytes hbase
    obtain ⟨A', c', rfl, _⟩ := own_form h2
    exact ⟨A', c', w', hrun, ⟨h2, h3, h5.imp id fun h => ⟨_, h, Nat.le_refl _⟩⟩⟩
end
theorem made_one (z : Value) (n : Nat) (h : z.cells = #[z]) : (madeCells z.cells (n * 1)).toList = List.replicate n z := by rw [h, Nat.mul_one]; exact toList_madeCells_one z n
structure Chg (lo hi : Nat) (w w' : World) : Prop where
  os : w'.os = w.os
  tape : w'.tape = w.tape
  output : w'.output = w.output
  size : w.heap.size ≤ w'.heap.size
  block : ∀ b, b < w.heap.size → (b < lo ∨ hi ≤ b) → w'.heap[b]? = w.heap[b]?
theorem Chg.refl (lo hi : Nat) (w : World) : Chg lo hi w w := ⟨rfl, rfl, rfl, Nat.le_refl _, fun _ _ _ => rfl⟩
theorem Chg.trans {lo hi : Nat} {a b c : World} (h : Chg lo hi a b) (k : Chg lo hi b c) : Chg lo hi a c :=
  ⟨k.os.trans h.os, k.tape.trans h.tape, k.output.trans h.output, Nat.le_trans h.size k.size, fun i hi hn => (k.block i (Nat.lt_of_lt_of_le hi h.size) hn).trans (h.block i hi hn)⟩
theorem Chg.mono {lo hi lo' hi' : Nat} {w w' : World} (h : Chg lo hi w w') (h1 : lo' ≤ lo) (h2 : hi ≤ hi') : Chg lo' hi' w w' :=
  ⟨h.os, h.tape, h.output, h.size, fun b hb hn => h.block b hb (by omega)⟩
theorem Chg.below {lo hi B : Nat} {W w w' : World} (h : Chg lo hi w w') (hb : Below B W w) (hB : B ≤ lo) (hs : B ≤ w.heap.size) : Below B W w' :=
  hb.trans ⟨h.os, h.tape, h.output, h.size, fun k hk => h.block k (by omega) (.inl (by omega))⟩
def Stays (lo hi : Nat) (R : World → Prop) : Prop := ∀ w w' : World, (∀ b, lo ≤ b → b < hi → w'.heap[b]? = w.heap[b]?) → R w → R w'
theorem Stays.below {lo hi : Nat} {R : World → Prop} (h : Stays lo hi R) {w w' : World} (hb : Below w.heap.size w w') (hs : hi ≤ w.heap.size) (hR : R w) : R w' :=
  h w w' (fun b _ h2 => hb.block b (by omega)) hR
theorem Stays.set {lo hi : Nat} {R : World → Prop} (st : Stays lo hi R) {w : World} {p : Addr} (u : Value) (hp : p.block < lo ∨ hi ≤ p.block) (hR : R w) : R (w.setCell p u) :=
  st w _ (fun b h1 h2 => Below.heap_setCell w p u b (by omega)) hR
def OwnIn (w : World) (lo hi : Nat) (e : TypeId) (size : Nat) (v : Value) (n : Nat) (xs : List Value) : Prop := w.ownsRow lo e size v n xs ∧ ∀ k, v.ownBlock = some k → k < hi
theorem OwnIn.stays (lo hi : Nat) (e : TypeId) (size : Nat) (v : Value) (n : Nat) (xs : List Value) : Stays lo hi (fun w => OwnIn w lo hi e size v n xs) := by
  intro w w' hs ⟨⟨h1, h2⟩, h3⟩
  refine ⟨⟨h1, ?_⟩, h3⟩
  rcases h2 with h2 | ⟨g, cap, cur, rfl, hg, hh, r⟩
  · exact .inl h2
  · exact .inr ⟨g, cap, cur, rfl, hg, (hs g hg (h3 g rfl)).trans hh, r⟩
theorem OwnIn.of {w : World} {lo : Nat} {e : TypeId} {size n : Nat} {v : Value} {xs : List Value} (h : w.ownsRow lo e size v n xs) : OwnIn w lo w.heap.size e size v n xs := ⟨h, fun k hk => (h.lt k hk).2⟩
def Blk (w : World) (g : Nat) (t : TypeId) (cs : Array Value) : Prop := w.heap[g]? = some (.cells cs t (0, 0))
section
variable {w w' : World} {g : Nat} {t : TypeId} {cs : Array Value}
theorem Blk.lt (h : Blk w g t cs) : g < w.heap.size := by
  rcases Nat.lt_or_ge g w.heap.size with hlt | hge
  · exact hlt
  · unfold Blk at h; rw [Array.getElem?_eq_none hge] at h; cases h
theorem Blk.cell (h : Blk w g t cs) (i : Nat) (hi : i < cs.size) : w.cell? ⟨g, i, none⟩ = some cs[i] := (cell_of_row w g i cs t (0, 0) h).trans (Array.getElem?_eq_getElem hi)
theorem Blk.new (w : World) (t : TypeId) (cs : Array Value) : Blk (w.alloc (.cells cs t)) w.heap.size t cs := heap_alloc_new w _
theorem Blk.alloc (h : Blk w g t cs) (o : Obj) : Blk (w.alloc o) g t cs := (Below.heap_alloc w o g h.lt).trans h
theorem Blk.below (h : Blk w g t cs) (hb : Below w.heap.size w w') : Blk w' g t cs := (hb.block g h.lt).trans h
theorem Blk.set (h : Blk w g t cs) (i : Nat) (u : Value) : Blk (w.setCell ⟨g, i, none⟩ u) g t (cs.setIfInBounds i u) := heap_setCell_same w g i cs t u h
theorem Blk.drewN (h : Blk w g t cs) (n : Nat) : Blk (w.drewN n) g t cs := h
end
end Go.Proofs.Ytnecoghfhcimeaa
/- Values by what they read as: read-only data, objects of the frame's own, and what a frame holds. Over any program. -/
namespace Go.Proofs.Ytnecoghfhcimeaa
set_option linter.unusedSimpArgs false
set_option linter.unusedVariables false
set_option linter.unusedSectionVars false
open Go.RowKit
inductive RV where
  | c (v : Value)
  | agg (cs : List RV)
  | seq (sz : Nat) (els : List (List RV))
  | rp (cs : List RV)
  | tup (vs : List RV)
  | ifc (t : TypeId) (v : RV)
namespace RV
abbrev int (n : Int) : RV := .c (.int .i64 n)
abbrev u8 (b : UInt8) : RV := .c (.int .u8 (b.toNat : Int))
abbrev bool (b : Bool) : RV := .c (.bool b)
abbrev str (s : ByteArray) : RV := .c (.string s)
abbrev nil : RV := .c (.slice none 0 0)
def one : RV → Bool
  | .c v => v.oneCell'
  | .agg _ | .tup _ => false
  | _ => true
mutual
def rel (w : World) (ok : Nat → Prop) : RV → Value → Prop
  | .c v, u => u = v
  | .agg cs, u => ∃ us : Array Value, u = .agg us ∧ rels w ok cs us.toList
  | .seq sz els, u => ∃ A n c, u = .slice A n c ∧ n = els.length ∧ n ≤ c ∧ c ≤ maxLen ∧ (0 < n → ∃ b o, A = some ⟨b, o, none⟩ ∧ b < w.heap.size ∧ ok b ∧ relE w ok b o sz els)
  | .rp cs, u => ∃ b o, u = .pointer (some ⟨b, o, none⟩) ∧ b < w.heap.size ∧ ok b ∧ relAt w ok b o cs
  | .tup vs, u => ∃ us : Array Value, u = .tuple us ∧ rels w ok vs us.toList
  | .ifc t v, u => ∃ x, u = .iface t x ∧ rel w ok v x
def rels (w : World) (ok : Nat → Prop) : List RV → List Value → Prop
  | [], us => us = []
  | x :: xs, us => ∃ u us', us = u :: us' ∧ rel w ok x u ∧ rels w ok xs us'
def relAt (w : World) (ok : Nat → Prop) (b o : Nat) : List RV → Prop
  | [] => True
  | x :: xs => (∃ u, w.cell? ⟨b, o, none⟩ = some u ∧ u.oneCell' = true ∧ rel w ok x u) ∧ relAt w ok b (o + 1) xs
def relE (w : World) (ok : Nat → Prop) (b o sz : Nat) : List (List RV) → Prop
  | [] => True
  | e :: es => e.length = sz ∧ relAt w ok b o e ∧ relE w ok b (o + sz) sz es
end
section
variable {w w' : World} {ok ok' : Nat → Prop}
def Kept (w : World) (ok : Nat → Prop) (w' : World) (ok' : Nat → Prop) : Prop :=
  w.heap.size ≤ w'.heap.size ∧ ∀ b, b < w.heap.size → ok b → ok' b ∧ w'.heap[b]? = w.heap[b]?
mutual
theorem rel_mono (h : Kept w ok w' ok') : ∀ (r : RV) (u : Value), rel w ok r u → rel w' ok' r u
  | .c v, u, hr => by simpa [rel] using hr
  | .agg cs, u, hr => by
    simp only [rel] at hr ⊢
    obtain ⟨us, e, h1⟩ := hr
    exact ⟨us, e, rels_mono h cs _ h1⟩
  | .seq sz els, u, hr => by
    simp only [rel] at hr ⊢
    obtain ⟨A, n, c, e, h1, h2, h3, h4⟩ := hr
    refine ⟨A, n, c, e, h1, h2, h3, fun hn => ?_⟩
    obtain ⟨b, o, e', hb, hok, hE⟩ := h4 hn
    exact ⟨b, o, e', Nat.lt_of_lt_of_le hb h.1, (h.2 b hb hok).1, relE_mono h b hb hok els o sz hE⟩
  | .rp cs, u, hr => by
    simp only [rel] at hr ⊢
    obtain ⟨b, o, e, hb, hok, hE⟩ := hr
    exact ⟨b, o, e, Nat.lt_of_lt_of_le hb h.1, (h.2 b hb hok).1, relAt_mono h b hb hok cs o hE⟩
  | .tup vs, u, hr => by
    simp only [rel] at hr ⊢
    obtain ⟨us, e, h1⟩ := hr
    exact ⟨us, e, rels_mono h vs _ h1⟩
  | .ifc t v, u, hr => by
    simp only [rel] at hr ⊢
    obtain ⟨x, e, h1⟩ := hr
    exact ⟨x, e, rel_mono h v _ h1⟩
theorem rels_mono (h : Kept w ok w' ok') : ∀ (rs : List RV) (us : List Value), rels w ok rs us → rels w' ok' rs us
  | [], us, hr => by simpa [rels] using hr
  | x :: xs, us, hr => by
    simp only [rels] at hr ⊢
    obtain ⟨u, us', e, h1, h2⟩ := hr
    exact ⟨u, us', e, rel_mono h x u h1, rels_mono h xs us' h2⟩
theorem relAt_mono (h : Kept w ok w' ok') (b : Nat) (hb : b < w.heap.size) (hok : ok b) : ∀ (rs : List RV) (o : Nat), relAt w ok b o rs → relAt w' ok' b o rs
  | [], o, hr => by simp [relAt]
  | x :: xs, o, hr => by
    simp only [relAt] at hr ⊢
    obtain ⟨⟨u, h1, h2, h3⟩, h4⟩ := hr
    exact ⟨⟨u, (World.cell?_of_block (a := ⟨b, o, none⟩) (h.2 b hb hok).2).trans h1, h2, rel_mono h x u h3⟩, relAt_mono h b hb hok xs (o + 1) h4⟩
theorem relE_mono (h : Kept w ok w' ok') (b : Nat) (hb : b < w.heap.size) (hok : ok b) : ∀ (es : List (List RV)) (o sz : Nat), relE w ok b o sz es → relE w' ok' b o sz es
  | [], o, sz, hr => by simp [relE]
  | e :: es, o, sz, hr => by
    simp only [relE] at hr ⊢
    exact ⟨hr.1, relAt_mono h b hb hok e o hr.2.1, relE_mono h b hb hok es (o + sz) sz hr.2.2⟩
end
theorem rels_len : ∀ (rs : List RV) (us : List Value), rels w ok rs us → us.length = rs.length
  | [], us, h => by simp only [rels] at h; simp [h]
  | x :: xs, us, h => by
    simp only [rels] at h
    obtain ⟨u, us', rfl, _, h2⟩ := h
    simp [rels_len xs us' h2]
theorem rels_at : ∀ (rs : List RV) (us : List Value), rels w ok rs us → ∀ (j : Nat) r, rs[j]? = some r → ∃ u, us[j]? = some u ∧ rel w ok r u
  | [], us, h, j, r, hj => by simp at hj
  | x :: xs, us, h, j, r, hj => by
    simp only [rels] at h
    obtain ⟨u, us', rfl, h1, h2⟩ := h
    cases j with
    | zero => simp at hj; subst hj; exact ⟨u, by simp, h1⟩
    | succ j => simp at hj; simpa using rels_at xs us' h2 j r hj
theorem rels_of : ∀ (rs : List RV) (us : List Value), us.length = rs.length → (∀ (j : Nat) r u, rs[j]? = some r → us[j]? = some u → rel w ok r u) → rels w ok rs us
  | [], us, hl, h => by simp only [rels]; exact List.eq_nil_of_length_eq_zero (by simpa using hl)
  | x :: xs, [], hl, h => by simp at hl
  | x :: xs, u :: us, hl, h => by
    simp only [rels]
    exact ⟨u, us, rfl, h 0 x u (by simp) (by simp), rels_of xs us (by simpa using hl) (fun j r u' h1 h2 => h (j + 1) r u' (by simpa using h1) (by simpa using h2))⟩
theorem relAt_at {b : Nat} : ∀ (rs : List RV) (o : Nat), relAt w ok b o rs → ∀ (j : Nat) r, rs[j]? = some r → ∃ u, w.cell? ⟨b, o + j, none⟩ = some u ∧ u.oneCell' = true ∧ rel w ok r u
  | [], o, h, j, r, hj => by simp at hj
  | x :: xs, o, h, j, r, hj => by
    simp only [relAt] at h
    cases j with
    | zero => simp at hj; subst hj; simpa using h.1
    | succ j =>
      simp at hj
      have := relAt_at xs (o + 1) h.2 j r hj
      rwa [show o + 1 + j = o + (j + 1) by omega] at this
theorem relAt_of {b : Nat} : ∀ (rs : List RV) (o : Nat), (∀ (j : Nat) r, rs[j]? = some r → ∃ u, w.cell? ⟨b, o + j, none⟩ = some u ∧ u.oneCell' = true ∧ rel w ok r u) → relAt w ok b o rs
  | [], o, h => by simp [relAt]
  | x :: xs, o, h => by
    simp only [relAt]
    refine ⟨by simpa using h 0 x (by simp), relAt_of xs (o + 1) fun j r hj => ?_⟩
    have := h (j + 1) r (by simpa using hj)
    rwa [show o + (j + 1) = o + 1 + j by omega] at this
theorem relAt_drop {b : Nat} (rs : List RV) (o k : Nat) (h : relAt w ok b o rs) : relAt w ok b (o + k) (rs.drop k) :=
  relAt_of _ _ fun j r hj => by
    rw [List.getElem?_drop] at hj
    have := relAt_at rs o h (k + j) r hj
    rwa [show o + (k + j) = o + k + j by omega] at this
theorem relE_at {b : Nat} : ∀ (es : List (List RV)) (o sz : Nat), relE w ok b o sz es → ∀ (k : Nat) e, es[k]? = some e → e.length = sz ∧ relAt w ok b (o + k * sz) e
  | [], o, sz, h, k, e, hk => by simp at hk
  | x :: xs, o, sz, h, k, e, hk => by
    simp only [relE] at h
    cases k with
    | zero => simp at hk; subst hk; simpa using ⟨h.1, h.2.1⟩
    | succ k =>
      simp at hk
      have := relE_at xs (o + sz) sz h.2.2 k e hk
      rwa [show o + sz + k * sz = o + (k + 1) * sz by rw [Nat.add_mul]; omega] at this
theorem relE_of {b : Nat} : ∀ (es : List (List RV)) (o sz : Nat), (∀ (k : Nat) e, es[k]? = some e → e.length = sz ∧ relAt w ok b (o + k * sz) e) → relE w ok b o sz es
  | [], o, sz, h => by simp [relE]
  | x :: xs, o, sz, h => by
    simp only [relE]
    have h0 := h 0 x (by simp)
    refine ⟨h0.1, by simpa using h0.2, relE_of xs (o + sz) sz fun k e hk => ?_⟩
    have := h (k + 1) e (by simpa using hk)
    rwa [show o + (k + 1) * sz = o + sz + k * sz by rw [Nat.add_mul]; omega] at this
theorem rel_one : ∀ (r : RV) (u : Value), r.one = true → rel w ok r u → u.oneCell' = true
  | .c v, u, h, hr => by simp only [rel] at hr; subst hr; exact h
  | .agg _, u, h, hr => by simp [one] at h
  | .tup _, u, h, hr => by simp [one] at h
  | .seq sz els, u, h, hr => by simp only [rel] at hr; obtain ⟨A, n, c, rfl, _⟩ := hr; rfl
  | .rp cs, u, h, hr => by simp only [rel] at hr; obtain ⟨b, o, rfl, _⟩ := hr; rfl
  | .ifc t v, u, h, hr => by simp only [rel] at hr; obtain ⟨x, rfl, _⟩ := hr; rfl
theorem kept_below (h : Below w.heap.size w w') (hok : ∀ b, b < w.heap.size → ok b → ok' b) : Kept w ok w' ok' := ⟨h.size, fun b hb ho => ⟨hok b hb ho, h.block b hb⟩⟩
end
abbrev Rel (w : World) : RV → Value → Prop := rel w (fun _ => True)
abbrev Rels (w : World) : List RV → List Value → Prop := rels w (fun _ => True)
theorem Rel.below {w w' : World} {r : RV} {u : Value} (h : Rel w r u) (hb : Below w.heap.size w w') : Rel w' r u := rel_mono (kept_below hb (fun _ _ h => h)) r u h
end RV
inductive AV where
  | ro (r : RV)
  | obj (i off : Nat)
  | pin (i off g : Nat)
  | own (i : Nat)
  | agg (cs : List AV)
  | tup (vs : List AV)
  | fn (f : Fn) (first captured : List AV)
  | junk
structure Ob where
  t : TypeId
  sz : Nat
  cs : List AV
abbrev Env := List (Nat × AV)
def look (env : Env) (t : Nat) : AV :=
  match env with
  | [] => .junk
  | (k, v) :: rest => if k = t then v else look rest t
structure St where
  env : Env
  σ : List Ob
namespace AV
abbrev int (n : Int) : AV := .ro (.c (.int .i64 n))
abbrev u8 (n : Int) : AV := .ro (.c (.int .u8 n))
abbrev bool (b : Bool) : AV := .ro (.c (.bool b))
abbrev str (s : ByteArray) : AV := .ro (.c (.string s))
abbrev nil : AV := .ro (.c (.slice none 0 0))
def one : AV → Bool
  | .ro r => r.one
  | .obj _ _ | .pin _ _ _ | .own _ | .fn _ _ _ => true
  | _ => false
structure Mem where
  w : World
  φ : Nat → Option Nat
  σ : List Ob
  ok0 : Nat → Prop
def Mem.ok (m : Mem) (b : Nat) : Prop := m.ok0 b ∧ ∀ i, i < m.σ.length → m.φ i ≠ some b
mutual
def rel (m : Mem) : AV → Value → Prop
  | .ro r, u => r.rel m.w m.ok u
  | .obj i off, u => i < m.σ.length ∧ ∃ g, m.φ i = some g ∧ u = .pointer (some ⟨g, off, none⟩)
  | .pin i off g, u => i < m.σ.length ∧ m.φ i = some g ∧ u = .pointer (some ⟨g, off, none⟩)
  | .own i, u => ∃ ob n, m.σ[i]? = some ob ∧ ob.cs.length = n * ob.sz ∧ 0 < ob.sz ∧
      ((u = .slice none 0 0 ∧ n = 0 ∧ m.φ i = none) ∨ ∃ (g cap : Nat) (us : Array Value), m.φ i = some g ∧ u = .slice (some ⟨g, 0, none⟩) n cap ∧ m.w.heap[g]? = some (.cells us ob.t (0, 0)) ∧ n ≤ cap ∧ cap ≤ maxLen ∧ us.size = cap * ob.sz)
  | .agg cs, u => ∃ us : Array Value, u = .agg us ∧ rels m cs us.toList
  | .tup vs, u => ∃ us : Array Value, u = .tuple us ∧ rels m vs us.toList
  | .fn f first captured, u => ∃ us vs : Array Value, u = .func f us vs ∧ rels m first us.toList ∧ rels m captured vs.toList
  | .junk, _ => True
def rels (m : Mem) : List AV → List Value → Prop
  | [], us => us = []
  | x :: xs, us => ∃ u us', us = u :: us' ∧ rel m x u ∧ rels m xs us'
end
mutual
def only (p : Nat → Prop) : AV → Prop
  | .ro _ | .junk => True
  | .obj i _ => p i
  | .pin i _ _ => p i
  | .own i => p i
  | .agg cs => onlys p cs
  | .tup vs => onlys p vs
  | .fn _ a b => onlys p a ∧ onlys p b
def onlys (p : Nat → Prop) : List AV → Prop
  | [] => True
  | x :: xs => only p x ∧ onlys p xs
end
mutual
def kill (i : Nat) : AV → AV
  | .ro r => .ro r
  | .junk => .junk
  | .obj j off => if j = i then .junk else .obj j off
  | .pin j off g => if j = i then .junk else .pin j off g
  | .own j => if j = i then .junk else .own j
  | .agg cs => .agg (kills i cs)
  | .tup vs => .tup (kills i vs)
  | .fn f a b => .fn f (kills i a) (kills i b)
def kills (i : Nat) : List AV → List AV
  | [] => []
  | x :: xs => kill i x :: kills i xs
end
section
variable {m m' : Mem} {live : Nat → Prop}
structure Keeps (live : Nat → Prop) (m m' : Mem) : Prop where
  ro : RV.Kept m.w m.ok m'.w m'.ok
  obj : ∀ i, live i → i < m.σ.length → i < m'.σ.length ∧ m'.φ i = m.φ i
  row : ∀ i ob, live i → m.σ[i]? = some ob → ∃ cs', m'.σ[i]? = some ⟨ob.t, ob.sz, cs'⟩ ∧ cs'.length = ob.cs.length
  blk : ∀ i g (us : Array Value) t, live i → i < m.σ.length → m.φ i = some g → m.w.heap[g]? = some (.cells us t (0, 0)) → ∃ us' : Array Value, m'.w.heap[g]? = some (.cells us' t (0, 0)) ∧ us'.size = us.size
mutual
theorem rel_keeps (h : Keeps live m m') : ∀ (v : AV) (u : Value), v.only live → rel m v u → rel m' v u
  | .ro r, u, _, hr => by simp only [rel] at hr ⊢; exact RV.rel_mono h.ro r u hr
  | .obj i off, u, ho, hr => by
    simp only [rel, only] at hr ho ⊢
    obtain ⟨h1, g, h2, h3⟩ := hr
    exact ⟨(h.obj i ho h1).1, g, (h.obj i ho h1).2.trans h2, h3⟩
  | .pin i off g, u, ho, hr => by
    simp only [rel, only] at hr ho ⊢
    obtain ⟨h1, h2, h3⟩ := hr
    exact ⟨(h.obj i ho h1).1, (h.obj i ho h1).2.trans h2, h3⟩
  | .own i, u, ho, hr => by
    simp only [rel, only] at hr ho ⊢
    obtain ⟨ob, n, h1, h2, h3, h4⟩ := hr
    have hi : i < m.σ.length := (List.getElem?_eq_some_iff.1 h1).1
    obtain ⟨cs', k1, k2⟩ := h.row i ob ho h1
    refine ⟨_, n, k1, by simp only; rw [k2]; exact h2, h3, ?_⟩
    rcases h4 with ⟨e1, e2, e3⟩ | ⟨g, cap, us, hφ, e, hg, c1, c2, c3⟩
    · exact .inl ⟨e1, e2, (h.obj i ho hi).2.trans e3⟩
    · obtain ⟨us', q1, q2⟩ := h.blk i g us ob.t ho hi hφ hg
      exact .inr ⟨g, cap, us', (h.obj i ho hi).2.trans hφ, e, q1, c1, c2, q2.trans c3⟩
  | .agg cs, u, ho, hr => by
    simp only [rel, only] at hr ho ⊢
    obtain ⟨us, e, h1⟩ := hr
    exact ⟨us, e, rels_keeps h cs _ ho h1⟩
  | .tup cs, u, ho, hr => by
    simp only [rel, only] at hr ho ⊢
    obtain ⟨us, e, h1⟩ := hr
    exact ⟨us, e, rels_keeps h cs _ ho h1⟩
  | .fn f a b, u, ho, hr => by
    simp only [rel, only] at hr ho ⊢
    obtain ⟨us, vs, e, h1, h2⟩ := hr
    exact ⟨us, vs, e, rels_keeps h a _ ho.1 h1, rels_keeps h b _ ho.2 h2⟩
  | .junk, u, _, _ => by simp [rel]
theorem rels_keeps (h : Keeps live m m') : ∀ (vs : List AV) (us : List Value), onlys live vs → rels m vs us → rels m' vs us
  | [], us, _, hr => by simpa [rels] using hr
  | x :: xs, us, ho, hr => by
    simp only [rels, onlys] at hr ho ⊢
    obtain ⟨u, us', e, h1, h2⟩ := hr
    exact ⟨u, us', e, rel_keeps h x u ho.1 h1, rels_keeps h xs us' ho.2 h2⟩
end
mutual
theorem only_true : ∀ v : AV, v.only fun _ => True
  | .ro _ | .junk | .obj _ _ | .pin _ _ _ | .own _ => by simp [only]
  | .agg cs => by simp only [only]; exact onlys_true cs
  | .tup cs => by simp only [only]; exact onlys_true cs
  | .fn _ a b => by simp only [only]; exact ⟨onlys_true a, onlys_true b⟩
theorem onlys_true : ∀ vs : List AV, onlys (fun _ => True) vs
  | [] => by simp [onlys]
  | x :: xs => by simp only [onlys]; exact ⟨only_true x, onlys_true xs⟩
end
mutual
theorem kill_only (i : Nat) : ∀ v : AV, (v.kill i).only fun j => j ≠ i
  | .ro _ | .junk => by simp [kill, only]
  | .obj j off => by unfold kill; split <;> simp_all [only]
  | .pin j off g => by unfold kill; split <;> simp_all [only]
  | .own j => by unfold kill; split <;> simp_all [only]
  | .agg cs => by simp only [kill, only]; exact kills_only i cs
  | .tup cs => by simp only [kill, only]; exact kills_only i cs
  | .fn _ a b => by simp only [kill, only]; exact ⟨kills_only i a, kills_only i b⟩
theorem kills_only (i : Nat) : ∀ vs : List AV, onlys (fun j => j ≠ i) (kills i vs)
  | [] => by simp [kills, onlys]
  | x :: xs => by simp only [kills, onlys]; exact ⟨kill_only i x, kills_only i xs⟩
end
mutual
theorem kill_rel (i : Nat) : ∀ (v : AV) (u : Value), rel m v u → rel m (v.kill i) u
  | .ro _, u, h | .junk, u, h => by simpa [kill] using h
  | .obj j off, u, h => by unfold kill; split <;> first | exact h | simp [rel]
  | .pin j off g, u, h => by unfold kill; split <;> first | exact h | simp [rel]
  | .own j, u, h => by unfold kill; split <;> first | exact h | simp [rel]
  | .agg cs, u, h => by
    simp only [rel, kill] at h ⊢
    obtain ⟨us, e, h1⟩ := h
    exact ⟨us, e, kills_rel i cs _ h1⟩
  | .tup cs, u, h => by
    simp only [rel, kill] at h ⊢
    obtain ⟨us, e, h1⟩ := h
    exact ⟨us, e, kills_rel i cs _ h1⟩
  | .fn f a b, u, h => by
    simp only [rel, kill] at h ⊢
    obtain ⟨us, vs, e, h1, h2⟩ := h
    exact ⟨us, vs, e, kills_rel i a _ h1, kills_rel i b _ h2⟩
theorem kills_rel (i : Nat) : ∀ (vs : List AV) (us : List Value), rels m vs us → rels m (kills i vs) us
  | [], us, h => by simpa [kills] using h
  | x :: xs, us, h => by
    simp only [rels, kills] at h ⊢
    obtain ⟨u, us', e, h1, h2⟩ := h
    exact ⟨u, us', e, kill_rel i x u h1, kills_rel i xs us' h2⟩
end
theorem rels_len : ∀ (rs : List AV) (us : List Value), rels m rs us → us.length = rs.length
  | [], us, h => by simp only [rels] at h; simp [h]
  | x :: xs, us, h => by
    simp only [rels] at h
    obtain ⟨u, us', rfl, _, h2⟩ := h
    simp [rels_len xs us' h2]
theorem rels_at : ∀ (rs : List AV) (us : List Value), rels m rs us → ∀ (j : Nat) r, rs[j]? = some r → ∃ u, us[j]? = some u ∧ rel m r u
  | [], us, h, j, r, hj => by simp at hj
  | x :: xs, us, h, j, r, hj => by
    simp only [rels] at h
    obtain ⟨u, us', rfl, h1, h2⟩ := h
    cases j with
    | zero => simp at hj; subst hj; exact ⟨u, by simp, h1⟩
    | succ j => simp at hj; simpa using rels_at xs us' h2 j r hj
theorem rels_of : ∀ (rs : List AV) (us : List Value), us.length = rs.length → (∀ (j : Nat) r u, rs[j]? = some r → us[j]? = some u → rel m r u) → rels m rs us
  | [], us, hl, h => by simp only [rels]; exact List.eq_nil_of_length_eq_zero (by simpa using hl)
  | x :: xs, [], hl, h => by simp at hl
  | x :: xs, u :: us, hl, h => by
    simp only [rels]
    exact ⟨u, us, rfl, h 0 x u (by simp) (by simp), rels_of xs us (by simpa using hl) (fun j r u' h1 h2 => h (j + 1) r u' (by simpa using h1) (by simpa using h2))⟩
theorem rels_ro : ∀ (rs : List RV) (us : List Value), RV.rels m.w m.ok rs us → rels m (rs.map .ro) us
  | [], us, h => by simpa [rels, RV.rels] using h
  | x :: xs, us, h => by
    simp only [RV.rels] at h
    obtain ⟨u, us', rfl, h1, h2⟩ := h
    simp only [List.map_cons, rels]
    exact ⟨u, us', rfl, by simpa only [rel] using h1, rels_ro xs us' h2⟩
theorem rel_one (v : AV) (u : Value) (h : v.one = true) (hr : rel m v u) : u.oneCell' = true := by
  cases v <;> simp only [one, Bool.false_eq_true] at h <;> simp only [rel] at hr
  case ro r => exact RV.rel_one r u h hr
  case obj => obtain ⟨_, g, _, rfl⟩ := hr; rfl
  case pin => obtain ⟨_, _, rfl⟩ := hr; rfl
  case own =>
    obtain ⟨ob, n, _, _, _, h4⟩ := hr
    rcases h4 with ⟨rfl, _⟩ | ⟨g, cap, us, _, rfl, _⟩ <;> rfl
  case fn => obtain ⟨us, vs, rfl, _⟩ := hr; rfl
end
end AV
end Go.Proofs.Ytnecoghfhcimeaa
/- The logic of a frame: its values, its objects, and the control of the code over them. Over any program. -/
namespace Go.Proofs.Ytnecoghfhcimeaa
set_option linter.unusedSimpArgs false
set_option linter.unusedVariables false
set_option linter.unusedSectionVars false
open Go.RowKit
def nrm (F : Act → World → Prop) : Exit → Act → World → Prop
  | .normal, a, w => F a w
  | _, _, _ => False
def Fin (P : Program) (k : List Item) (R : Act → World → Prop) (a : Act) (w : World) : Prop :=
  ∀ (b : Frame) (cs : List Frame), ∃ a' w' todo, R a' w' ∧ Steps P (lone (b.at a k) cs w) (lone { b.at a' todo with mode := .returning } cs w')
section
variable {P : Program} {k : List Item} {R : Act → World → Prop} {a : Act} {w : World}
theorem Fin.step {k' : List Item} {a' : Act} {w' : World} (hs : ∀ (b : Frame) cs, step P (lone (b.at a k) cs w) = .next (lone (b.at a' k') cs w')) (h : Fin P k' R a' w') : Fin P k R a w := by
  intro b cs
  obtain ⟨a'', w'', todo, hR, hst⟩ := h b cs
  exact ⟨a'', w'', todo, hR, .head (hs b cs) hst⟩
theorem Fin.of_wp {c : Code} (h : c.wp P (nrm (Fin P k R)) a w) : Fin P (.code c :: k) R a w := by
  intro b cs
  obtain ⟨e, a', w', hq, harr⟩ := h b k cs
  cases e <;> simp only [nrm] at hq
  obtain ⟨a'', w'', todo, hR, hs⟩ := hq b cs
  exact ⟨a'', w'', todo, hR, Steps.trans harr hs⟩
theorem Fin.ret (h : R a w) : Fin P (.code .ret :: k) R a w := fun _ _ => ⟨a, w, _, h, .one step_ret⟩
theorem Fin.end_ (h : R a w) : Fin P [] R a w := fun _ _ => ⟨a, w, _, h, .one step_end⟩
theorem calls_of_fin {f : FuncId} {fn : Func} {c : Code} {args : Array Value} {R : Ending → World → Prop} (hf : P.funcs[f]? = some fn) (hb : fn.body = some c)
    (h : Fin P [.code c] (fun a w => a.defers = [] ∧ ∃ v, (results fn a.tmps).run P w = .ok v w ∧ R (.returned v) w) { tmps := args ++ Array.replicate (fn.ntmps - args.size) undef, defers := [] } w) :
    Calls P f args w R := by
  intro cs
  let b : Frame := { (default : Frame) with fn := f, kind := .normal }
  have henter : Frame.enter P f args .normal = b.at { tmps := args ++ Array.replicate (fn.ntmps - args.size) undef, defers := [] } [.code c] := by
    simp [Frame.enter, Frame.at, hf, hb, b]
  obtain ⟨a', w', todo, ⟨hd, v, hr, hR⟩, hs⟩ := h b cs
  rw [← henter] at hs
  exact ⟨.returned v, w', _, hR, hs, rfl, rfl, hd, rfl, fn, hf, hr⟩
end
structure Ctx where
  w0 : World
  ok : Nat → Prop
  mu : Nat → Prop
  n : Nat
structure Frm (C : Ctx) (w : World) : Prop where
  os : w.os = C.w0.os
  tape : w.tape = C.w0.tape
  output : w.output = C.w0.output
  size : C.w0.heap.size ≤ w.heap.size
  block : ∀ b, b < C.w0.heap.size → ¬ C.mu b → w.heap[b]? = C.w0.heap[b]?
  new : ∀ b, C.w0.heap.size ≤ b → C.ok b
open AV (Mem Keeps)
def ObRel (m : Mem) (ob : Ob) : Option Nat → Prop
  | none => ob.cs = []
  | some g => ∃ us : Array Value, m.w.heap[g]? = some (.cells us ob.t (0, 0)) ∧ ob.cs.length ≤ us.size ∧ ∀ (j : Nat) v, ob.cs[j]? = some v → ∃ u, us[j]? = some u ∧ u.oneCell' = true ∧ AV.rel m v u
structure Good (C : Ctx) (m : Mem) : Prop where
  ok0 : m.ok0 = C.ok
  inj : ∀ i j g, i < m.σ.length → j < m.σ.length → m.φ i = some g → m.φ j = some g → i = j
  ob : ∀ i o, m.σ[i]? = some o → ObRel m o (m.φ i)
  mine : ∀ i g, i < m.σ.length → m.φ i = some g → C.mu g ∨ C.w0.heap.size ≤ g
  frm : Frm C m.w
def Holds (m : Mem) (env : Env) (a : Act) : Prop := ∀ t, AV.rel m (look env t) (a.tmps.getD t undef)
def Sim (C : Ctx) (S : St) (a : Act) (w : World) : Prop :=
  a.defers = [] ∧ a.tmps.size = C.n ∧ ∃ φ, Good C ⟨w, φ, S.σ, C.ok⟩ ∧ Holds ⟨w, φ, S.σ, C.ok⟩ S.env a
theorem Good.lt {C : Ctx} {m : Mem} (h : Good C m) {i g : Nat} (hi : i < m.σ.length) (hg : m.φ i = some g) : g < m.w.heap.size := by
  have h1 := h.ob i m.σ[i] (List.getElem?_eq_getElem hi)
  rw [hg] at h1
  obtain ⟨us, h2, _⟩ := h1
  exact (Array.getElem?_eq_some_iff.1 h2).1
theorem look_put (env : Env) (t k : Nat) (v : AV) : look ((t, v) :: env) k = if t = k then v else look env k := rfl
theorem getD_put (a : Act) (t k : Nat) (u : Value) (ht : t < a.tmps.size) : (a.put (some t) u).tmps.getD k undef = if t = k then u else a.tmps.getD k undef := by
  simp only [Act.put, Array.getD_eq_getD_getElem?, Array.getElem?_setIfInBounds]
  split
  · subst_vars; simp [ht]
  · rfl
theorem Holds.put {m : Mem} {env : Env} {a : Act} {t : Nat} {v : AV} {u : Value} (h : Holds m env a) (ht : t < a.tmps.size) (hv : AV.rel m v u) : Holds m ((t, v) :: env) (a.put (some t) u) := by
  intro k
  rw [look_put, getD_put a t k u ht]
  split
  · exact hv
  · exact h k
theorem Holds.keeps {m m' : Mem} {env : Env} {a : Act} (h : Holds m env a) (hk : Keeps (fun _ => True) m m') : Holds m' env a :=
  fun t => AV.rel_keeps hk _ _ (AV.only_true _) (h t)
theorem ObRel.keeps {m m' : Mem} {o : Ob} {p : Option Nat} (h : ObRel m o p) (hk : Keeps (fun _ => True) m m') (hb : ∀ g, p = some g → m'.w.heap[g]? = m.w.heap[g]?) : ObRel m' o p := by
  cases p with
  | none => exact h
  | some g =>
    obtain ⟨us, h1, h2, h3⟩ := h
    refine ⟨us, (hb g rfl).trans h1, h2, fun j v hj => ?_⟩
    obtain ⟨u, e1, e2, e3⟩ := h3 j v hj
    exact ⟨u, e1, e2, AV.rel_keeps hk _ _ (AV.only_true _) e3⟩
structure Runs (P : Program) (C : Ctx) (k : List Item) (R : Act → World → Prop) (S : St) : Prop where
  run : ∀ a w, Sim C S a w → Fin P k R a w
structure RunsL (P : Program) (C : Ctx) (ops : Array Oper) (l : List Oper) (k : List Item) (R : Act → World → Prop) (S : St) : Prop where
  run : ∀ a w, Sim C S a w → wpList P ops (nrm (Fin P k R)) l a w
section
variable {P : Program} {C : Ctx} {k : List Item} {R : Act → World → Prop} {S S' : St}
theorem Runs.seq {x y : Code} (h : Runs P C (.code x :: .code y :: k) R S) : Runs P C (.code (.seq x y) :: k) R S := ⟨fun a w hs => (h.run a w hs).step fun _ _ => step_seq⟩
theorem Runs.skip (h : Runs P C k R S) : Runs P C (.code .skip :: k) R S := ⟨fun a w hs => (h.run a w hs).step fun _ _ => step_skip⟩
theorem Runs.label {l : Nat} (h : Runs P C k R S) : Runs P C (.code (.label l) :: k) R S := ⟨fun a w hs => (h.run a w hs).step fun _ _ => step_label⟩
theorem Runs.inBlock {id : Nat} (h : Runs P C k R S) : Runs P C (.inBlock id :: k) R S := ⟨fun a w hs => (h.run a w hs).step fun _ _ => step_inBlock⟩
theorem Runs.block {id : Nat} {c : Code} (h : Runs P C (.code c :: .inBlock id :: k) R S) : Runs P C (.code (.block id c) :: k) R S := ⟨fun a w hs => (h.run a w hs).step fun _ _ => step_block⟩
theorem Runs.exit {id : Nat} {k' : List Item} (hk : exitTo id k = some k') (h : Runs P C k' R S) : Runs P C (.code (.exit id) :: k) R S := ⟨fun a w hs => (h.run a w hs).step fun _ _ => step_exit hk⟩
theorem Runs.ret (h : ∀ a w, Sim C S a w → R a w) : Runs P C (.code .ret :: k) R S := ⟨fun a w hs => Fin.ret (h a w hs)⟩
theorem Runs.end_ (h : ∀ a w, Sim C S a w → R a w) : Runs P C [] R S := ⟨fun a w hs => Fin.end_ (h a w hs)⟩
theorem Runs.scope {c : Code} (h : Runs P C (.code c :: .inScope c :: k) R S) : Runs P C (.code (.scope c) :: k) R S := ⟨fun a w hs => (h.run a w hs).step fun _ _ => step_scope⟩
theorem Runs.inScope {c : Code} (h : Runs P C k R S) : Runs P C (.inScope c :: k) R S := ⟨fun a w hs => (h.run a w hs).step fun _ _ => step_inScope⟩
theorem Runs.loop {c : Code} (I : Nat → St → Prop)
    (h : ∀ n S, I n S → (∀ m, m < n → ∀ S', I m S' → Runs P C (.inLoop c :: k) R S') → Runs P C (.code c :: .inLoop c :: k) R S) (n : Nat) (h0 : I n S) : Runs P C (.code (.loop c) :: k) R S := by
  have key : ∀ n S, I n S → Runs P C (.code c :: .inLoop c :: k) R S := by
    intro n
    induction n using Nat.strongRecOn with
    | _ n ih => exact fun S hS => h n S hS fun m hm S' hS' => ⟨fun a w hs => ((ih m hm S' hS').run a w hs).step fun _ _ => step_inLoop⟩
  exact ⟨fun a w hs => ((key n S h0).run a w hs).step fun _ _ => step_loop⟩
theorem Runs.region {id : Nat} {l : List Oper} (h : RunsL P C l.toArray l k R S) : Runs P C (.code (.region id l.toArray false) :: k) R S :=
  ⟨fun a w hs => Fin.of_wp (wp_region_lit (h.run a w hs))⟩
theorem RunsL.nil {ops : Array Oper} (h : Runs P C k R S) : RunsL P C ops [] k R S := ⟨fun a w hs => wpList_nil (h.run a w hs)⟩
def constRV : Value → RV
  | .agg cs => .agg (cs.toList.map .c)
  | v => .c v
def ev (env : Env) : Operand → AV
  | .tmp t => look env t
  | .const v => match v with
    | .agg cs => .ro (.agg (cs.toList.map .c))
    | v => .ro (.c v)
  | .func f => .fn (.func f) [] []
  | .global _ => .junk
theorem rels_const {w : World} {ok : Nat → Prop} : ∀ l : List Value, RV.rels w ok (l.map .c) l
  | [] => by simp [RV.rels]
  | x :: xs => by simp only [List.map_cons, RV.rels]; exact ⟨x, xs, rfl, by simp [RV.rel], rels_const xs⟩
theorem const_rel {w : World} {ok : Nat → Prop} (v : Value) : RV.rel w ok (constRV v) v := by
  cases v <;> simp only [constRV, RV.rel]
  case agg cs => exact ⟨cs, rfl, rels_const _⟩
theorem ev_rel {m : Mem} {env : Env} {a : Act} (h : Holds m env a) (x : Operand) : AV.rel m (ev env x) (a.eval x) := by
  cases x with
  | tmp t => exact h t
  | const v =>
    have h := const_rel (w := m.w) (ok := m.ok) v
    cases v <;> simpa only [ev, AV.rel, Act.eval, constRV] using h
  | func f => simp only [ev, AV.rel, Act.eval]; exact ⟨#[], #[], rfl, by simp [AV.rels], by simp [AV.rels]⟩
  | global g => simp [ev, AV.rel]
theorem Runs.cond {c : Operand} {x y : Code} {b : Bool} (hc : ev S.env c = .ro (.c (.bool b))) (ht : b = true → Runs P C (.code x :: k) R S) (hf : b = false → Runs P C (.code y :: k) R S) :
    Runs P C (.code (.cond c x y) :: k) R S := by
  refine ⟨fun a w hs => ?_⟩
  obtain ⟨h1, h2, φ, h3, h4⟩ := hs
  have he := ev_rel h4 c
  rw [hc] at he
  simp only [AV.rel, RV.rel] at he
  have hs : Sim C S a w := ⟨h1, h2, φ, h3, h4⟩
  cases b with
  | true => exact ((ht rfl).run a w hs).step fun _ _ => step_cond he
  | false => exact ((hf rfl).run a w hs).step fun _ _ => step_cond he
variable {ops : Array Oper} {rest : List Oper} {o : Oper}
theorem RunsL.val {t : Nat} {v : AV} {σ' : List Ob} (hg : o.guard = none) (hd : o.dst = some t) (ht : t < C.n)
    (h : ∀ a w φ, Good C ⟨w, φ, S.σ, C.ok⟩ → Holds ⟨w, φ, S.σ, C.ok⟩ S.env a → ∃ u w' φ', (execOp a.eval o).run P w = .ok (.value u) w' ∧ Good C ⟨w', φ', σ', C.ok⟩ ∧ Keeps (fun _ => True) ⟨w, φ, S.σ, C.ok⟩ ⟨w', φ', σ', C.ok⟩ ∧ AV.rel ⟨w', φ', σ', C.ok⟩ v u)
    (hk : RunsL P C ops rest k R ⟨(t, v) :: S.env, σ'⟩) : RunsL P C ops (o :: rest) k R S := by
  refine ⟨fun a w ⟨h1, h2, φ, h3, h4⟩ => ?_⟩
  obtain ⟨u, w', φ', hr, hG, hK, hv⟩ := h a w φ h3 h4
  refine wpList_plain hg fun K hK' => ?_
  unfold Oper.wp
  rw [hr]
  simp only [Oper.upon]
  rw [hd]
  exact hK' _ _ (hk.run _ _ ⟨h1, by simp [Act.put, h2], φ', hG, (h4.keeps hK).put (by rw [h2]; exact ht) hv⟩)
theorem RunsL.pure {t : Nat} {v : AV} (hg : o.guard = none) (hd : o.dst = some t) (ht : t < C.n)
    (h : ∀ a m, Good C m → Holds m S.env a → m.σ = S.σ → ∃ u, (execOp a.eval o).run P m.w = .ok (.value u) m.w ∧ AV.rel m v u)
    (hk : RunsL P C ops rest k R ⟨(t, v) :: S.env, S.σ⟩) : RunsL P C ops (o :: rest) k R S :=
  RunsL.val hg hd ht (fun a w φ hG hH => by
    obtain ⟨u, hr, hv⟩ := h a ⟨w, φ, S.σ, C.ok⟩ hG hH rfl
    exact ⟨u, w, φ, hr, hG, ⟨⟨Nat.le_refl _, fun b _ hb => ⟨hb, rfl⟩⟩, fun i _ hi => ⟨hi, rfl⟩, fun i ob _ hi => ⟨ob.cs, hi, rfl⟩, fun i g us t _ _ _ hh => ⟨us, hh, rfl⟩⟩, hv⟩) hk
theorem RunsL.void {σ' : List Ob} (hg : o.guard = none) (hd : o.dst = none)
    (h : ∀ a w φ, Good C ⟨w, φ, S.σ, C.ok⟩ → Holds ⟨w, φ, S.σ, C.ok⟩ S.env a → ∃ w' φ', (execOp a.eval o).run P w = .ok .skip w' ∧ Good C ⟨w', φ', σ', C.ok⟩ ∧ Keeps (fun _ => True) ⟨w, φ, S.σ, C.ok⟩ ⟨w', φ', σ', C.ok⟩)
    (hk : RunsL P C ops rest k R ⟨S.env, σ'⟩) : RunsL P C ops (o :: rest) k R S := by
  refine ⟨fun a w ⟨h1, h2, φ, h3, h4⟩ => ?_⟩
  obtain ⟨w', φ', hr, hG, hK⟩ := h a w φ h3 h4
  refine wpList_plain hg fun K hK' => ?_
  unfold Oper.wp
  rw [hr]
  simp only [Oper.upon]
  rw [hd]
  exact hK' _ _ (hk.run _ _ ⟨h1, h2, φ', hG, h4.keeps hK⟩)
theorem RunsL.unwanted {t : Nat} (hd : o.dst = some t) (ht : t < C.n) (hw : ∀ a m, Holds m S.env a → Region.wanted o (yielded ops a.tmps) = false)
    (hk : RunsL P C ops rest k R ⟨(t, .ro (.c undef)) :: S.env, S.σ⟩) : RunsL P C ops (o :: rest) k R S := by
  refine ⟨fun a w ⟨h1, h2, φ, h3, h4⟩ => ?_⟩
  refine wpList_step fun K hK' => ?_
  rw [hw a _ h4, if_neg (by simp), hd]
  exact hK' _ _ (hk.run _ _ ⟨h1, by simp [Act.put, h2], φ, h3, h4.put (by rw [h2]; exact ht) (by simp [AV.rel, RV.rel])⟩)
theorem RunsL.wanted {dst : Option Tmp} {op : Op} {ty : TypeId} {pos : String} {after : Array Edge} {g : Option (Nat × Bool)} (hw : ∀ a m, Holds m S.env a → Region.wanted ⟨dst, op, ty, pos, after, g⟩ (yielded ops a.tmps) = true)
    (hk : RunsL P C ops (⟨dst, op, ty, pos, after, none⟩ :: rest) k R S) : RunsL P C ops (⟨dst, op, ty, pos, after, g⟩ :: rest) k R S := by
  refine ⟨fun a w hs => ?_⟩
  have h := hk.run a w hs
  obtain ⟨h1, h2, φ, h3, h4⟩ := hs
  unfold wpList at h ⊢
  rw [if_pos (by simp [Region.wanted])] at h
  rw [if_pos (hw a _ h4)]
  exact h
end
def upd (φ : Nat → Option Nat) (i : Nat) (x : Option Nat) : Nat → Option Nat := fun j => if j = i then x else φ j
theorem upd_ne {φ : Nat → Option Nat} {i j : Nat} {x : Option Nat} (h : j ≠ i) : upd φ i x j = φ j := by simp [upd, h]
theorem upd_eq {φ : Nat → Option Nat} {i : Nat} {x : Option Nat} : upd φ i x i = x := by simp [upd]
section
variable {C : Ctx} {w : World} {φ : Nat → Option Nat} {σ : List Ob}
theorem Frm.below {w w' : World} (h : Frm C w) (hb : Below w.heap.size w w') : Frm C w' :=
  ⟨hb.os.trans h.os, hb.tape.trans h.tape, hb.output.trans h.output, Nat.le_trans h.size hb.size, fun b h1 h2 => (hb.block b (Nat.lt_of_lt_of_le h1 h.size)).trans (h.block b h1 h2), h.new⟩
theorem good_grow (hG : Good C ⟨w, φ, σ, C.ok⟩) {w' : World} {φ' : Nat → Option Nat} {new : List Ob} (hb : Below w.heap.size w w') (hφ : ∀ i, i < σ.length → φ' i = φ i)
    (hn : ∀ j, j < new.length → ∀ g, φ' (σ.length + j) = some g → w.heap.size ≤ g)
    (hinj : ∀ i j g, i < new.length → j < new.length → φ' (σ.length + i) = some g → φ' (σ.length + j) = some g → i = j)
    (hob : ∀ (j : Nat) o, new[j]? = some o → ObRel ⟨w', φ', σ ++ new, C.ok⟩ o (φ' (σ.length + j))) :
    Good C ⟨w', φ', σ ++ new, C.ok⟩ ∧ Keeps (fun _ => True) ⟨w, φ, σ, C.ok⟩ ⟨w', φ', σ ++ new, C.ok⟩ := by
  have hK : Keeps (fun _ => True) ⟨w, φ, σ, C.ok⟩ ⟨w', φ', σ ++ new, C.ok⟩ := by
    refine ⟨⟨hb.size, fun b hlt hok => ⟨⟨hok.1, fun i hi he => ?_⟩, hb.block b hlt⟩⟩, fun i _ hi => ⟨by simp only [List.length_append]; simp only at hi; omega, hφ i hi⟩, fun i ob _ hi => ⟨ob.cs, ?_, rfl⟩, fun i g us t _ hi hg hh => ⟨us, ?_, rfl⟩⟩
    · simp only [List.length_append] at hi
      rcases Nat.lt_or_ge i σ.length with h | h
      · exact hok.2 i h ((hφ i h).symm.trans he)
      · have := hn (i - σ.length) (by omega) b (by rwa [show σ.length + (i - σ.length) = i by omega])
        simp only at hlt; omega
    · have := (List.getElem?_eq_some_iff.1 hi).1
      show (σ ++ new)[i]? = _
      rw [List.getElem?_append_left this]; exact hi
    · exact (hb.block g (Array.getElem?_eq_some_iff.1 hh).1).trans hh
  refine ⟨⟨rfl, fun i j g hi hj e1 e2 => ?_, fun i o hi => ?_, fun i g hi hg => ?_, hG.frm.below hb⟩, hK⟩
  · simp only [List.length_append] at hi hj
    rcases Nat.lt_or_ge i σ.length with h1 | h1 <;> rcases Nat.lt_or_ge j σ.length with h2 | h2
    · exact hG.inj i j g h1 h2 ((hφ i h1).symm.trans e1) ((hφ j h2).symm.trans e2)
    · have a1 := hG.lt h1 ((hφ i h1).symm.trans e1)
      have a2 := hn (j - σ.length) (by omega) g (by rwa [show σ.length + (j - σ.length) = j by omega])
      simp only at a1; omega
    · have a1 := hG.lt h2 ((hφ j h2).symm.trans e2)
      have a2 := hn (i - σ.length) (by omega) g (by rwa [show σ.length + (i - σ.length) = i by omega])
      simp only at a1; omega
    · have := hinj (i - σ.length) (j - σ.length) g (by omega) (by omega) (by rwa [show σ.length + (i - σ.length) = i by omega]) (by rwa [show σ.length + (j - σ.length) = j by omega])
      omega
  · rcases Nat.lt_or_ge i σ.length with h1 | h1
    · have hi' : σ[i]? = some o := by simpa [List.getElem?_append_left h1] using hi
      have h := hG.ob i o hi'
      show ObRel _ o (φ' i)
      rw [hφ i h1]
      exact h.keeps hK fun g hg => hb.block g (hG.lt h1 hg)
    · have hi' : new[i - σ.length]? = some o := by simpa [List.getElem?_append_right h1] using hi
      have h := hob _ o hi'
      rwa [show σ.length + (i - σ.length) = i by omega] at h
  · simp only [List.length_append] at hi
    rcases Nat.lt_or_ge i σ.length with h1 | h1
    · exact hG.mine i g h1 ((hφ i h1).symm.trans hg)
    · have a1 := hn (i - σ.length) (by omega) g (by rwa [show σ.length + (i - σ.length) = i by omega])
      exact .inr (Nat.le_trans hG.frm.size a1)
theorem good_below (hG : Good C ⟨w, φ, σ, C.ok⟩) {w' : World} (hb : Below w.heap.size w w') : Good C ⟨w', φ, σ, C.ok⟩ ∧ Keeps (fun _ => True) ⟨w, φ, σ, C.ok⟩ ⟨w', φ, σ, C.ok⟩ := by
  have h := good_grow (new := []) hG hb (fun _ _ => rfl) (fun j hj => by simp at hj) (fun i j g hi => by simp at hi) (fun j o hj => by simp at hj)
  simpa using h
theorem good_alloc (hG : Good C ⟨w, φ, σ, C.ok⟩) (us : Array Value) (t : TypeId) (sz : Nat) (cs : List AV) (hl : cs.length ≤ us.size)
    (hc : ∀ (j : Nat) v, cs[j]? = some v → ∃ u, us[j]? = some u ∧ u.oneCell' = true ∧ AV.rel ⟨w, φ, σ, C.ok⟩ v u) :
    Good C ⟨w.alloc (.cells us t), upd φ σ.length (some w.heap.size), σ ++ [⟨t, sz, cs⟩], C.ok⟩ ∧ Keeps (fun _ => True) ⟨w, φ, σ, C.ok⟩ ⟨w.alloc (.cells us t), upd φ σ.length (some w.heap.size), σ ++ [⟨t, sz, cs⟩], C.ok⟩ := by
  have hb := below_one w (.cells us t)
  have hφ : ∀ i, i < σ.length → upd φ σ.length (some w.heap.size) i = φ i := fun i hi => upd_ne (by omega)
  -- the values of the new block are read in the old memory: they keep
  have hK : Keeps (fun _ => True) ⟨w, φ, σ, C.ok⟩ ⟨w.alloc (.cells us t), upd φ σ.length (some w.heap.size), σ ++ [⟨t, sz, cs⟩], C.ok⟩ := by
    refine ⟨⟨hb.size, fun b hlt hok => ⟨⟨hok.1, fun i hi he => ?_⟩, hb.block b hlt⟩⟩, fun i _ hi => ⟨by simp only [List.length_append]; simp only at hi; omega, hφ i hi⟩, fun i ob _ hi => ⟨ob.cs, ?_, rfl⟩, fun i g us' t' _ hi hg hh => ⟨us', ?_, rfl⟩⟩
    · simp only [List.length_append, List.length_singleton] at hi
      rcases Nat.lt_or_ge i σ.length with h | h
      · exact hok.2 i h ((hφ i h).symm.trans he)
      · obtain rfl : i = σ.length := by omega
        simp only [upd_eq, Option.some.injEq] at he
        simp only at hlt; omega
    · have := (List.getElem?_eq_some_iff.1 hi).1
      show (σ ++ _)[i]? = _
      rw [List.getElem?_append_left this]; exact hi
    · exact (hb.block g (Array.getElem?_eq_some_iff.1 hh).1).trans hh
  refine good_grow (new := [⟨t, sz, cs⟩]) hG hb hφ (fun j hj g hg => ?_) (fun i j g hi hj _ _ => by simp at hi hj; omega) (fun j o hj => ?_)
  · simp at hj; subst hj
    simp only [Nat.add_zero, upd_eq, Option.some.injEq] at hg; omega
  · cases j with
    | succ j => simp at hj
    | zero =>
      simp at hj; subst hj
      simp only [Nat.add_zero, upd_eq]
      refine ⟨us, heap_alloc_new w _, hl, fun j v hj => ?_⟩
      obtain ⟨u, e1, e2, e3⟩ := hc j v hj
      exact ⟨u, e1, e2, AV.rel_keeps hK _ _ (AV.only_true _) e3⟩
theorem good_store (hG : Good C ⟨w, φ, σ, C.ok⟩) {i off g : Nat} {o : Ob} (hi : σ[i]? = some o) (hg : φ i = some g) (v : AV) (u : Value) (h1 : u.oneCell' = true) (hv : AV.rel ⟨w, φ, σ, C.ok⟩ v u) :
    Good C ⟨w.setCell ⟨g, off, none⟩ u, φ, σ.set i ⟨o.t, o.sz, o.cs.set off v⟩, C.ok⟩ ∧ Keeps (fun _ => True) ⟨w, φ, σ, C.ok⟩ ⟨w.setCell ⟨g, off, none⟩ u, φ, σ.set i ⟨o.t, o.sz, o.cs.set off v⟩, C.ok⟩ := by
  have hil : i < σ.length := (List.getElem?_eq_some_iff.1 hi).1
  obtain ⟨us, hh, hl, hc⟩ : ObRel ⟨w, φ, σ, C.ok⟩ o (some g) := by have := hG.ob i o hi; rwa [show (⟨w, φ, σ, C.ok⟩ : Mem).φ i = some g from hg] at this
  have hsame := heap_setCell_same w g off us o.t u hh
  have hoth : ∀ b, b ≠ g → (w.setCell ⟨g, off, none⟩ u).heap[b]? = w.heap[b]? := fun b hb => Below.heap_setCell w ⟨g, off, none⟩ u b hb
  have hsz : (w.setCell ⟨g, off, none⟩ u).heap.size = w.heap.size := by simp
  have hK : Keeps (fun _ => True) ⟨w, φ, σ, C.ok⟩ ⟨w.setCell ⟨g, off, none⟩ u, φ, σ.set i ⟨o.t, o.sz, o.cs.set off v⟩, C.ok⟩ := by
    refine ⟨⟨by simp [hsz], fun b hlt hok => ⟨⟨hok.1, fun j hj he => hok.2 j (by simpa using hj) he⟩, hoth b fun e => hok.2 i hil (e ▸ hg)⟩⟩, fun j _ hj => ⟨by simpa using hj, rfl⟩, fun j ob _ hj => ?_, fun j g' us' t' _ hj hg' hh' => ?_⟩
    · by_cases hji : j = i
      · subst hji
        have : ob = o := Option.some.inj (hj.symm.trans hi)
        subst this
        exact ⟨ob.cs.set off v, by simp [hil], by simp⟩
      · exact ⟨ob.cs, by simp only [List.getElem?_set_ne (Ne.symm hji)]; exact hj, rfl⟩
    · by_cases hgg : g' = g
      · subst hgg
        rw [show (⟨w, φ, σ, C.ok⟩ : Mem).w.heap[g']? = w.heap[g']? from rfl, hh] at hh'
        injection hh' with hh'; injection hh' with e1 e2
        subst e1; subst e2
        exact ⟨_, hsame, by simp⟩
      · exact ⟨us', (hoth g' hgg).trans hh', rfl⟩
  refine ⟨⟨rfl, fun a b x ha hb e1 e2 => hG.inj a b x (by simpa using ha) (by simpa using hb) e1 e2, fun j ob hj => ?_, fun j x hj hx => hG.mine j x (by simpa using hj) hx, ⟨hG.frm.os, hG.frm.tape, hG.frm.output, by rw [hsz]; exact hG.frm.size, fun b hb hm => ?_, hG.frm.new⟩⟩, hK⟩
  · by_cases hji : j = i
    · subst hji
      simp only [List.getElem?_set_self hil, Option.some.injEq] at hj
      subst hj
      show ObRel _ _ (φ j)
      rw [hg]
      refine ⟨_, hsame, by simpa using hl, fun x y hx => ?_⟩
      simp only [List.getElem?_set] at hx
      split at hx
      · rename_i he
        subst he
        split at hx
        · rename_i hlt
          simp only [Option.some.injEq] at hx; subst hx
          exact ⟨u, by rw [Array.getElem?_setIfInBounds_self_of_lt (by omega)], h1, AV.rel_keeps hK _ _ (AV.only_true _) hv⟩
        · cases hx
      · rename_i hne
        obtain ⟨u', e1, e2, e3⟩ := hc x y hx
        exact ⟨u', by rw [Array.getElem?_setIfInBounds_ne hne]; exact e1, e2, AV.rel_keeps hK _ _ (AV.only_true _) e3⟩
    · simp only [List.getElem?_set_ne (Ne.symm hji)] at hj
      have h := hG.ob j ob hj
      refine h.keeps hK fun g' hg' => hoth g' fun e => hji (hG.inj j i g (List.getElem?_eq_some_iff.1 hj).1 hil (e ▸ hg') hg)
  · rcases hG.mine i g hil hg with h | h
    · exact (hoth b fun e => hm (e ▸ h)).trans (hG.frm.block b hb hm)
    · exact (hoth b fun e => by subst e; omega).trans (hG.frm.block b hb hm)
end
end Go.Proofs.Ytnecoghfhcimeaa
/- The operations, over a frame's values and objects. Over any program. -/
namespace Go.Proofs.Ytnecoghfhcimeaa
set_option linter.unusedSimpArgs false
set_option linter.unusedVariables false
set_option linter.unusedSectionVars false
open Go.RowKit
open AV (Mem Keeps)
class FA (P : Program) (s : TypeId) (f : Nat) (off : outParam Nat) : Prop where
  h : (match P.underlying s with
    | some (.struct fs) => match fs[f]? with
      | some d => decide (d.offset = off) && (match P.info? d.type with | some i => decide (i.size ≠ 0) | none => false)
      | none => false
    | _ => false) = true
class T1 (P : Program) (t : TypeId) : Prop where
  h : (match P.underlying t with
    | some (.struct _) | some (.array _ _) | none => false
    | _ => match P.info? t with | some i => decide (i.size = 1) | none => false) = true
class TN (P : Program) (t : TypeId) (n : outParam Nat) : Prop where
  h : (match P.underlying t with
    | some (.struct _) | some (.array _ _) => match P.info? t with | some i => decide (i.size = n) | none => false
    | _ => false) = true
class SL (P : Program) (t : TypeId) (e : outParam TypeId) (z : outParam Value) (sz bytes : outParam Nat) : Prop where
  el : Elem P t e z sz bytes
class AR (P : Program) (t : TypeId) (n sz : outParam Nat) : Prop where
  h : (match P.underlying t with
    | some (.array m e) => decide (m = n) && (match P.info? e with | some i => decide (i.size = sz) | none => false)
    | _ => false) = true
class TS (P : Program) (t : TypeId) : Prop where
  h : P.underlying t = some .string
class TI (P : Program) (t : TypeId) (k : outParam IntKind) : Prop where
  h : P.underlying t = some (.int k)
class FN (P : Program) (f : FuncId) (fn : outParam Func) : Prop where
  h : P.funcs[f]? = some fn
  name : (fn.name == "runtime.NumGoroutine") = false
  body : fn.body.isSome = true
section
variable {P : Program} {w : World}
theorem run_fieldAt {s : TypeId} {f off : Nat} [FA P s f off] (b o : Nat) : (Instr.fieldAt s (.pointer (some ⟨b, o, none⟩)) f).run P w = .ok (.pointer (some ⟨b, o + off, none⟩)) w := by
  have h := FA.h (P := P) (s := s) (f := f) (off := off)
  cases hu : P.underlying s with
  | none => simp [hu] at h
  | some d =>
    cases d <;> simp [hu] at h
    rename_i fs
    cases hf : fs[f]? with
    | none => simp [hf] at h
    | some d =>
      simp only [hf, Bool.and_eq_true, decide_eq_true_eq] at h
      cases hi : P.info? d.type with
      | none => simp [hi] at h
      | some i =>
        simp only [hi] at h
        have h2 : ¬ i.size = 0 := by simpa using h.2
        simp [Instr.fieldAt, run_underlying hu, hf, Instr.sureAddr, fieldPlace, sizeOf, typeInfo, hi, h2, Addr.add_lit, h.1]
theorem run_isAgg1 {t : TypeId} [T1 P t] : (isAgg t).run P w = .ok false w := by
  have h := T1.h (P := P) (t := t)
  cases hu : P.underlying t with
  | none => simp [hu] at h
  | some d => cases d <;> first | (simp [hu] at h; done) | simp [isAgg, run_underlying hu]
theorem run_size1 {t : TypeId} [T1 P t] : (sizeOf t).run P w = .ok 1 w := by
  have h := T1.h (P := P) (t := t)
  cases hi : P.info? t with
  | none =>
    cases hu : P.underlying t with
    | none => simp [hu] at h
    | some d => cases d <;> simp [hu, hi] at h
  | some i =>
    have h1 : i.size = 1 := by
      cases hu : P.underlying t with
      | none => simp [hu] at h
      | some d => cases d <;> simp [hu, hi] at h <;> exact h
    simp [sizeOf, typeInfo, hi, h1]
theorem run_isAggN {t : TypeId} {n : Nat} [TN P t n] : (isAgg t).run P w = .ok true w := by
  have h := TN.h (P := P) (t := t) (n := n)
  cases hu : P.underlying t with
  | none => simp [hu] at h
  | some d => cases d <;> first | (simp [hu] at h; done) | simp [isAgg, run_underlying hu]
theorem run_sizeN {t : TypeId} {n : Nat} [TN P t n] : (sizeOf t).run P w = .ok n w := by
  have h := TN.h (P := P) (t := t) (n := n)
  cases hi : P.info? t with
  | none =>
    cases hu : P.underlying t with
    | none => simp [hu] at h
    | some d => cases d <;> simp [hu, hi] at h
  | some i =>
    have h1 : i.size = n := by
      cases hu : P.underlying t with
      | none => simp [hu] at h
      | some d => cases d <;> simp [hu, hi] at h <;> exact h
    simp [sizeOf, typeInfo, hi, h1]
end
structure Pur (P : Program) (C : Ctx) (o : Oper) (env : Env) (σ : List Ob) (v : AV) : Prop where
  run : ∀ (a : Act) (m : Mem), Good C m → m.σ = σ → (∀ x, x ∈ o.op.operands → AV.rel m (ev env x) (a.eval x)) → ∀ (K : Act → World → Prop) (Q : Exit → Act → World → Prop),
    (∀ u w', Below m.w.heap.size m.w w' → AV.rel { m with w := w' } v u → K (a.put o.dst u) w') → o.wp P a m.w K Q
section
variable {P : Program} {C : Ctx} {ops : Array Oper} {rest : List Oper} {k : List Item} {R : Act → World → Prop} {env : Env} {σ : List Ob} {t : Nat} {ty : TypeId} {pos : String} {after : Array Edge} {gd : Option (Nat × Bool)}
theorem Pur.of {o : Oper} {v : AV} (h : ∀ (a : Act) (m : Mem), Good C m → m.σ = σ → (∀ x, x ∈ o.op.operands → AV.rel m (ev env x) (a.eval x)) → ∃ u, (execOp a.eval o).run P m.w = .ok (.value u) m.w ∧ AV.rel m v u) : Pur P C o env σ v := by
  refine ⟨fun a m hG hσ hH K Q hK => ?_⟩
  obtain ⟨u, hr, hv⟩ := h a m hG hσ hH
  unfold Oper.wp
  rw [hr]
  simp only [Oper.upon]
  exact hK u m.w (Below.refl _ _) hv
theorem RunsL.pur {o : Oper} {v : AV} (h : Pur P C o env σ v) (hg : o.guard = none) (hd : o.dst = some t) (ht : t < C.n) (hk : RunsL P C ops rest k R ⟨(t, v) :: env, σ⟩) : RunsL P C ops (o :: rest) k R ⟨env, σ⟩ := by
  refine ⟨fun a w ⟨h1, h2, φ, h3, h4⟩ => ?_⟩
  refine wpList_plain hg fun K hK' => h.run a ⟨w, φ, σ, C.ok⟩ h3 rfl (fun x _ => ev_rel h4 x) _ _ fun u w' hb hv => ?_
  obtain ⟨g1, g2⟩ := good_below h3 hb
  rw [hd]
  exact hK' _ _ (hk.run _ _ ⟨h1, by simp [Act.put, h2], φ, g1, (h4.keeps g2).put (by rw [h2]; exact ht) hv⟩)
theorem ev_c {m : Mem} {a : Act} {x : Operand} {v : Value} (h : AV.rel m (ev env x) (a.eval x)) (hx : ev env x = .ro (.c v)) : a.eval x = v := by
  rw [hx] at h
  simpa only [AV.rel, RV.rel] using h
theorem pu_move {x : Operand} {v : AV} (hx : ev env x = v) : Pur P C ⟨some t, .move x, ty, pos, after, gd⟩ env σ v :=
  Pur.of (fun a m hG hσ hH => ⟨a.eval x, rfl, hx ▸ hH x (by simp [Op.operands])⟩)
theorem pu_assign {x : Operand} {v : AV} (hx : ev env x = v) : Pur P C ⟨some t, .assign x, ty, pos, after, gd⟩ env σ v :=
  Pur.of (fun a m hG hσ hH => ⟨a.eval x, rfl, hx ▸ hH x (by simp [Op.operands])⟩)
theorem pu_pick_t {c x y : Operand} {v : AV} (hc : ev env c = .bool true) (hx : ev env x = v) : Pur P C ⟨some t, .pick c x y, ty, pos, after, gd⟩ env σ v :=
  Pur.of (fun a m hG hσ hH => ⟨a.eval x, by simp [execOp, ev_c (hH c (by simp [Op.operands])) hc, asBool], hx ▸ hH x (by simp [Op.operands])⟩)
theorem pu_pick_f {c x y : Operand} {v : AV} (hc : ev env c = .bool false) (hy : ev env y = v) : Pur P C ⟨some t, .pick c x y, ty, pos, after, gd⟩ env σ v :=
  Pur.of (fun a m hG hσ hH => ⟨a.eval y, by simp [execOp, ev_c (hH c (by simp [Op.operands])) hc, asBool], hy ▸ hH y (by simp [Op.operands])⟩)
theorem pu_bin {op : BinOp} {xt yt : TypeId} {x y : Operand} {vx vy vz : Value} (hx : ev env x = .ro (.c vx)) (hy : ev env y = .ro (.c vy))
    (hr : ∀ w, ((do eqGuard op xt x y vx vy; binOp op xt vx vy : Sem Value)).run P w = .ok vz w) : Pur P C ⟨some t, .binOp op xt x y yt, ty, pos, after, gd⟩ env σ (.ro (.c vz)) :=
  Pur.of (fun a m hG hσ hH => by
    refine ⟨vz, ?_, by simp [AV.rel, RV.rel]⟩
    have h := hr m.w
    simp only [Sem.run_bind] at h
    simp only [execOp, ev_c (hH _ (by simp [Op.operands, Call.operands])) hx, ev_c (hH _ (by simp [Op.operands, Call.operands])) hy, Sem.run_bind, Sem.run_pure]
    generalize Sem.run P (eqGuard op xt x y vx vy) m.w = r at h ⊢
    cases r with
    | ok a' w' => simp only [Result.andThen] at h ⊢; rw [h]
    | halt h' w' => simp [Result.andThen] at h)
section
variable {xt yt : TypeId} {x y : Operand} {kd : IntKind} {p q : Int}
theorem pu_lss (hx : ev env x = .ro (.c (.int kd p))) (hy : ev env y = .ro (.c (.int kd q))) : Pur P C ⟨some t, .binOp .lss xt x y yt, ty, pos, after, gd⟩ env σ (.bool (decide (p < q))) := pu_bin hx hy (fun w => by simp [go_sem])
theorem pu_leq (hx : ev env x = .ro (.c (.int kd p))) (hy : ev env y = .ro (.c (.int kd q))) : Pur P C ⟨some t, .binOp .leq xt x y yt, ty, pos, after, gd⟩ env σ (.bool (decide (p ≤ q))) := pu_bin hx hy (fun w => by simp [go_sem])
theorem pu_gtr (hx : ev env x = .ro (.c (.int kd p))) (hy : ev env y = .ro (.c (.int kd q))) : Pur P C ⟨some t, .binOp .gtr xt x y yt, ty, pos, after, gd⟩ env σ (.bool (decide (q < p))) := pu_bin hx hy (fun w => by simp [go_sem])
theorem pu_geq (hx : ev env x = .ro (.c (.int kd p))) (hy : ev env y = .ro (.c (.int kd q))) : Pur P C ⟨some t, .binOp .geq xt x y yt, ty, pos, after, gd⟩ env σ (.bool (decide (q ≤ p))) := pu_bin hx hy (fun w => by simp [go_sem])
theorem pu_eql (hx : ev env x = .ro (.c (.int kd p))) (hy : ev env y = .ro (.c (.int kd q))) : Pur P C ⟨some t, .binOp .eql xt x y yt, ty, pos, after, gd⟩ env σ (.bool (decide (p = q))) := pu_bin hx hy (fun w => by simp [go_sem]; rfl)
theorem pu_neq (hx : ev env x = .ro (.c (.int kd p))) (hy : ev env y = .ro (.c (.int kd q))) : Pur P C ⟨some t, .binOp .neq xt x y yt, ty, pos, after, gd⟩ env σ (.bool (!decide (p = q))) := pu_bin hx hy (fun w => by simp [go_sem]; rfl)
theorem pu_add (hx : ev env x = .ro (.c (.int .i64 p))) (hy : ev env y = .ro (.c (.int .i64 q))) (hb : -9223372036854775808 ≤ p + q ∧ p + q ≤ 9223372036854775807) : Pur P C ⟨some t, .binOp .add xt x y yt, ty, pos, after, gd⟩ env σ (.int (p + q)) :=
  pu_bin hx hy (fun w => by simp [go_sem, IntWalk.i64_in _ hb])
theorem pu_sub (hx : ev env x = .ro (.c (.int .i64 p))) (hy : ev env y = .ro (.c (.int .i64 q))) (hb : -9223372036854775808 ≤ p - q ∧ p - q ≤ 9223372036854775807) : Pur P C ⟨some t, .binOp .sub xt x y yt, ty, pos, after, gd⟩ env σ (.int (p - q)) :=
  pu_bin hx hy (fun w => by simp [go_sem, IntWalk.i64_in _ hb])
theorem pu_mul (hx : ev env x = .ro (.c (.int .i64 p))) (hy : ev env y = .ro (.c (.int .i64 q))) (hb : -9223372036854775808 ≤ p * q ∧ p * q ≤ 9223372036854775807) : Pur P C ⟨some t, .binOp .mul xt x y yt, ty, pos, after, gd⟩ env σ (.int (p * q)) :=
  pu_bin hx hy (fun w => by simp [go_sem, IntWalk.i64_in _ hb])
theorem pu_addW (hx : ev env x = .ro (.c (.int kd p))) (hy : ev env y = .ro (.c (.int kd q))) : Pur P C ⟨some t, .binOp .add xt x y yt, ty, pos, after, gd⟩ env σ (.ro (.c (.int kd (kd.wrap (p + q))))) :=
  pu_bin hx hy (fun w => by simp [go_sem])
theorem pu_mulW (hx : ev env x = .ro (.c (.int kd p))) (hy : ev env y = .ro (.c (.int kd q))) : Pur P C ⟨some t, .binOp .mul xt x y yt, ty, pos, after, gd⟩ env σ (.ro (.c (.int kd (kd.wrap (p * q))))) :=
  pu_bin hx hy (fun w => by simp [go_sem])
end
theorem pu_eqlS {xt yt : TypeId} {x y : Operand} {p q : ByteArray} (hx : ev env x = .str p) (hy : ev env y = .str q) : Pur P C ⟨some t, .binOp .eql xt x y yt, ty, pos, after, gd⟩ env σ (.bool (p.toList == q.toList)) := pu_bin hx hy (fun w => by simp [go_sem, binOp, Op.stringOp])
theorem pu_neqS {xt yt : TypeId} {x y : Operand} {p q : ByteArray} (hx : ev env x = .str p) (hy : ev env y = .str q) : Pur P C ⟨some t, .binOp .neq xt x y yt, ty, pos, after, gd⟩ env σ (.bool (!(p.toList == q.toList))) := pu_bin hx hy (fun w => by simp [go_sem, binOp, Op.stringOp])
theorem pu_not {xt : TypeId} {x : Operand} {b : Bool} (hx : ev env x = .bool b) : Pur P C ⟨some t, .unOp .not xt x, ty, pos, after, gd⟩ env σ (.bool (!b)) :=
  Pur.of (fun a m hG hσ hH => ⟨.bool (!b), by simp [execOp, ev_c (hH _ (by simp [Op.operands, Call.operands])) hx, Op.unary], by simp [AV.rel, RV.rel]⟩)
theorem pu_convert {src dst : TypeId} {x : Operand} {kd kd' k0 : IntKind} {p : Int} (hs : TI P src k0) (hd : TI P dst kd') (hx : ev env x = .ro (.c (.int kd p))) : Pur P C ⟨some t, .convert src dst x, ty, pos, after, gd⟩ env σ (.ro (.c (.int kd' (kd'.wrap p)))) :=
  Pur.of (fun a m hG hσ hH => ⟨.int kd' (kd'.wrap p), by simp [execOp, ev_c (hH _ (by simp [Op.operands, Call.operands])) hx, convert, run_underlying hs.h, run_underlying hd.h, Conv.intToInt], by simp [AV.rel, RV.rel]⟩)
theorem pu_fieldAddr_ro {s : TypeId} {x : Operand} {f off : Nat} {cs : List RV} [FA P s f off] (hx : ev env x = .ro (.rp cs)) : Pur P C ⟨some t, .fieldAddr s x f, ty, pos, after, gd⟩ env σ (.ro (.rp (cs.drop off))) :=
  Pur.of (fun a m hG hσ hH => by
    have h := hH x (by simp [Op.operands, Call.operands])
    rw [hx] at h
    simp only [AV.rel, RV.rel] at h
    obtain ⟨b, o, e, hb, hok, hc⟩ := h
    refine ⟨.pointer (some ⟨b, o + off, none⟩), by simp [execOp, e, run_fieldAt], ?_⟩
    simp only [AV.rel, RV.rel]
    exact ⟨b, o + off, rfl, hb, hok, RV.relAt_drop cs o off hc⟩)
theorem pu_fieldAddr_obj {s : TypeId} {x : Operand} {f off i o : Nat} [FA P s f off] (hx : ev env x = .obj i o) : Pur P C ⟨some t, .fieldAddr s x f, ty, pos, after, gd⟩ env σ (.obj i (o + off)) :=
  Pur.of (fun a m hG hσ hH => by
    have h := hH x (by simp [Op.operands, Call.operands])
    rw [hx] at h
    simp only [AV.rel] at h
    obtain ⟨hi, g, hg, e⟩ := h
    refine ⟨.pointer (some ⟨g, o + off, none⟩), by simp [execOp, e, run_fieldAt], ?_⟩
    simp only [AV.rel]
    exact ⟨hi, g, hg, rfl⟩)
theorem pu_fieldAddr_pin {s : TypeId} {x : Operand} {f off i o g : Nat} [FA P s f off] (hx : ev env x = .pin i o g) : Pur P C ⟨some t, .fieldAddr s x f, ty, pos, after, gd⟩ env σ (.obj i (o + off)) :=
  Pur.of (fun a m hG hσ hH => by
    have h := hH x (by simp [Op.operands, Call.operands])
    rw [hx] at h
    simp only [AV.rel] at h
    obtain ⟨hi, hg, e⟩ := h
    refine ⟨.pointer (some ⟨g, o + off, none⟩), by simp [execOp, e, run_fieldAt], ?_⟩
    simp only [AV.rel]
    exact ⟨hi, g, hg, rfl⟩)
theorem pu_load_ro {tt : TypeId} {x : Operand} {r : RV} {cs : List RV} [T1 P tt] (hx : ev env x = .ro (.rp (r :: cs))) : Pur P C ⟨some t, .load tt x, ty, pos, after, gd⟩ env σ (.ro r) :=
  Pur.of (fun a m hG hσ hH => by
    have h := hH x (by simp [Op.operands, Call.operands])
    rw [hx] at h
    simp only [AV.rel, RV.rel, RV.relAt] at h
    obtain ⟨b, o, e, hb, hok, ⟨u, hc, h1, hr⟩, _⟩ := h
    exact ⟨u, by simp [execOp, e, Instr.loadAt, Instr.sureAddr, loadVar, run_isAgg1, run_load, hc], by simpa only [AV.rel] using hr⟩)
theorem pu_load_obj {tt : TypeId} {x : Operand} {i off : Nat} {o : Ob} {v : AV} [T1 P tt] (hx : ev env x = .obj i off) (ho : σ[i]? = some o) (hv : o.cs[off]? = some v) : Pur P C ⟨some t, .load tt x, ty, pos, after, gd⟩ env σ (v) :=
  Pur.of (fun a m hG hσ hH => by
    have h := hH x (by simp [Op.operands, Call.operands])
    rw [hx] at h
    simp only [AV.rel] at h
    obtain ⟨hi, g, hg, e⟩ := h
    have hob := hG.ob i o (by rw [hσ]; exact ho)
    rw [hg] at hob
    obtain ⟨us, h1, h2, h3⟩ := hob
    obtain ⟨u, k1, k2, k3⟩ := h3 off v hv
    have hc : m.w.cell? ⟨g, off, none⟩ = some u := by rw [cell_of_row _ g off us _ _ h1]; exact k1
    exact ⟨u, by simp [execOp, e, Instr.loadAt, Instr.sureAddr, loadVar, run_isAgg1, run_load, hc], k3⟩)
theorem pu_loadN_ro {tt : TypeId} {x : Operand} {cs : List RV} {n : Nat} [TN P tt n] (hx : ev env x = .ro (.rp cs)) (hn : cs.length = n) : Pur P C ⟨some t, .load tt x, ty, pos, after, gd⟩ env σ (.ro (.agg cs)) :=
  Pur.of (fun a m hG hσ hH => by
    have h := hH x (by simp [Op.operands, Call.operands])
    rw [hx] at h
    simp only [AV.rel, RV.rel] at h
    obtain ⟨b, o, e, hb, hok, hc⟩ := h
    have hat := RV.relAt_at cs o hc
    let us : List Value := (List.range n).map fun j => (m.w.cell? ⟨b, o + j, none⟩).getD undef
    have hl : us.length = n := by simp [us]
    have hu : ∀ (j : Nat) v, us[j]? = some v → m.w.cell? ⟨b, o + j, none⟩ = some v := by
      intro j v hj
      have hjn : j < n := by have := (List.getElem?_eq_some_iff.1 hj).1; rwa [hl] at this
      obtain ⟨u, e1, _, _⟩ := hat j cs[j] (List.getElem?_eq_getElem (by omega))
      simp [us, hjn, e1] at hj
      rw [e1, hj]
    have hld := run_loadCells_list (P := P) m.w ⟨b, o, none⟩ us (fun j v hj => by rw [Addr.add_lit]; exact hu j v hj)
    rw [hl] at hld
    refine ⟨.agg us.toArray, by simp [execOp, e, Instr.loadAt, Instr.sureAddr, loadVar, run_isAggN (P := P) (t := tt) (n := n), run_sizeN (P := P) (t := tt) (n := n), hld], ?_⟩
    simp only [AV.rel, RV.rel]
    refine ⟨_, rfl, RV.rels_of cs _ (by simp [hl, hn]) fun j r u h1 h2 => ?_⟩
    obtain ⟨u', e1, _, e3⟩ := hat j r h1
    have := hu j u (by simpa using h2)
    rw [e1] at this; injection this with this; subst this
    exact e3)
theorem pu_loadN_obj {tt : TypeId} {x : Operand} {i off n : Nat} {o : Ob} [TN P tt n] (hx : ev env x = .obj i off) (ho : σ[i]? = some o) (hn : off + n ≤ o.cs.length) : Pur P C ⟨some t, .load tt x, ty, pos, after, gd⟩ env σ (.agg ((o.cs.drop off).take n)) :=
  Pur.of (fun a m hG hσ hH => by
    have h := hH x (by simp [Op.operands, Call.operands])
    rw [hx] at h
    simp only [AV.rel] at h
    obtain ⟨hi, g, hg, e⟩ := h
    have hob := hG.ob i o (by rw [hσ]; exact ho)
    rw [hg] at hob
    obtain ⟨us, h1, h2, h3⟩ := hob
    let vs : List Value := (us.toList.drop off).take n
    have hl : vs.length = n := by simp [vs]; omega
    have hu : ∀ (j : Nat) v, vs[j]? = some v → m.w.cell? ⟨g, off + j, none⟩ = some v := by
      intro j v hj
      rw [cell_of_row _ g (off + j) us _ _ h1]
      simp only [vs, List.getElem?_take, List.getElem?_drop] at hj
      split at hj
      · simpa using hj
      · cases hj
    have hld := run_loadCells_list (P := P) m.w ⟨g, off, none⟩ vs (fun j v hj => by rw [Addr.add_lit]; exact hu j v hj)
    rw [hl] at hld
    refine ⟨.agg vs.toArray, by simp [execOp, e, Instr.loadAt, Instr.sureAddr, loadVar, run_isAggN (P := P) (t := tt) (n := n), run_sizeN (P := P) (t := tt) (n := n), hld], ?_⟩
    simp only [AV.rel]
    refine ⟨_, rfl, AV.rels_of _ _ (by simp [vs]; omega) fun j r u q1 q2 => ?_⟩
    simp only [List.getElem?_take, List.getElem?_drop] at q1
    simp only [vs, List.getElem?_take, List.getElem?_drop] at q2
    split at q1
    · rename_i hj
      rw [if_pos hj] at q2
      obtain ⟨u', e1, _, e3⟩ := h3 _ r q1
      have : u' = u := by simpa [e1] using q2
      subst this; exact e3
    · cases q1)
theorem pu_loadN_objR {tt : TypeId} {x : Operand} {i n : Nat} {o : Ob} {rs : List RV} [TN P tt n] (hx : ev env x = .obj i 0) (ho : σ[i]? = some o) (hc : o.cs = rs.map .ro) (hn : rs.length = n) : Pur P C ⟨some t, .load tt x, ty, pos, after, gd⟩ env σ (.ro (.agg rs)) := by
  have h := pu_loadN_obj (P := P) (C := C) (t := t) (ty := ty) (pos := pos) (after := after) (gd := gd) (tt := tt) (n := n) hx ho (by rw [hc]; simp [hn])
  refine ⟨fun a m hG hσ hH K Q hK => h.run a m hG hσ hH K Q fun u w' hb hv => hK u w' hb ?_⟩
  rw [hc, List.drop_zero, List.take_of_length_le (by simp [hn])] at hv
  simp only [AV.rel, RV.rel] at hv ⊢
  obtain ⟨us, e, hr⟩ := hv
  have key : ∀ (rs : List RV) (us : List Value), AV.rels { m with w := w' } (rs.map .ro) us → RV.rels w' (Mem.ok { m with w := w' }) rs us := by
    intro rs
    induction rs with
    | nil => intro us h; simpa [AV.rels, RV.rels] using h
    | cons r rs ih =>
      intro us h
      simp only [List.map_cons, AV.rels] at h
      obtain ⟨u, us', rfl, h1, h2⟩ := h
      simp only [RV.rels]
      exact ⟨u, us', rfl, by simpa only [AV.rel] using h1, ih us' h2⟩
  exact ⟨us, e, key rs _ hr⟩
theorem pu_indexAddr_seq {tt : TypeId} {e : TypeId} {z : Value} {sz bytes : Nat} {x ix : Operand} {kd : IntKind} {p : Int} {els : List (List RV)} {c : List RV} [hs : SL P tt e z sz bytes]
    (hx : ev env x = .ro (.seq sz els)) (hi : ev env ix = .ro (.c (.int kd p))) (h0 : 0 ≤ p) (hc : els[p.toNat]? = some c) : Pur P C ⟨some t, .indexAddr tt x ix, ty, pos, after, gd⟩ env σ (.ro (.rp c)) :=
  Pur.of (fun a m hG hσ hH => by
    have h := hH x (by simp [Op.operands, Call.operands])
    rw [hx] at h
    simp only [AV.rel, RV.rel] at h
    obtain ⟨A, n, cp, ea, hn, h1, h2, h3⟩ := h
    have hlt : p.toNat < els.length := (List.getElem?_eq_some_iff.1 hc).1
    obtain ⟨b, o, rfl, hb, hok, hE⟩ := h3 (by omega)
    obtain ⟨ii, i1, i2, i3, i4⟩ := hs.el.hi
    have hat := RV.relE_at els o sz hE p.toNat c hc
    refine ⟨.pointer (some ⟨b, o + p.toNat * sz, none⟩), ?_, ?_⟩
    · have : (0 ≤ p ∧ p < (n : Int)) := by omega
      simp [execOp, ea, ev_c (hH _ (by simp [Op.operands, Call.operands])) hi, Instr.indexAt, asIntOf, run_underlying hs.el.ht, this, sizeOf, typeInfo, i1, i3, Addr.add_lit]
    · simp only [AV.rel, RV.rel]
      exact ⟨b, _, rfl, hb, hok, hat.2⟩)
theorem pu_indexAddr_map {tt : TypeId} {e : TypeId} {z : Value} {sz bytes : Nat} {x ix : Operand} {kd : IntKind} {p : Int} {α : Type} {l : List α} {f : α → List RV} {c : α} [hs : SL P tt e z sz bytes]
    (hx : ev env x = .ro (.seq sz (l.map f))) (hi : ev env ix = .ro (.c (.int kd p))) (h0 : 0 ≤ p) (hc : l[p.toNat]? = some c) : Pur P C ⟨some t, .indexAddr tt x ix, ty, pos, after, gd⟩ env σ (.ro (.rp (f c))) :=
  pu_indexAddr_seq hx hi h0 (by rw [List.getElem?_map, hc]; rfl)
theorem pu_indexAddr_own {tt : TypeId} {e : TypeId} {z : Value} {sz bytes : Nat} {x ix : Operand} {kd : IntKind} {p : Int} {i n : Nat} {o : Ob} [hs : SL P tt e z sz bytes]
    (hx : ev env x = .own i) (hi : ev env ix = .ro (.c (.int kd p))) (ho : σ[i]? = some o) (hz : o.sz = sz) (hl : o.cs.length = n * sz) (h0 : 0 ≤ p) (hlt : p < n) : Pur P C ⟨some t, .indexAddr tt x ix, ty, pos, after, gd⟩ env σ (.obj i (p.toNat * sz)) :=
  Pur.of (fun a m hG hσ hH => by
    have h := hH x (by simp [Op.operands, Call.operands])
    rw [hx] at h
    simp only [AV.rel] at h
    obtain ⟨o', n', e1, e2, e3, e4⟩ := h
    rw [hσ, ho] at e1; injection e1 with e1; subst e1
    subst hz
    have hn : n' = n := Nat.eq_of_mul_eq_mul_right e3 (e2.symm.trans hl)
    subst hn
    rcases e4 with ⟨_, r2, _⟩ | ⟨g, cap, us, hφ, er, hh, q1, q2, q3⟩
    · omega
    · obtain ⟨ii, i1, i2, i3, i4⟩ := hs.el.hi
      refine ⟨.pointer (some ⟨g, 0 + p.toNat * o.sz, none⟩), ?_, ?_⟩
      · have : (0 ≤ p ∧ p < (n' : Int)) := by omega
        simp [execOp, er, ev_c (hH _ (by simp [Op.operands, Call.operands])) hi, Instr.indexAt, asIntOf, run_underlying hs.el.ht, this, sizeOf, typeInfo, i1, i3, Addr.add_lit]
      · simp only [AV.rel]
        exact ⟨by rw [hσ]; exact (List.getElem?_eq_some_iff.1 ho).1, g, hφ, by simp⟩)
theorem run_indexArr {tt : TypeId} {n sz : Nat} [AR P tt n sz] {w : World} (b o : Nat) (kd : IntKind) (p : Int) (h0 : 0 ≤ p) (hlt : p < n) :
    (Instr.indexAt tt (.pointer (some ⟨b, o, none⟩)) (.int kd p)).run P w = .ok (.pointer (some ⟨b, o + p.toNat * sz, none⟩)) w := by
  have h := AR.h (P := P) (t := tt) (n := n) (sz := sz)
  cases hu : P.underlying tt with
  | none => simp [hu] at h
  | some d =>
    cases d <;> simp [hu] at h
    rename_i m e
    obtain ⟨rfl, h⟩ := h
    cases hi : P.info? e with
    | none => simp [hi] at h
    | some i =>
      simp [hi] at h
      simp [Instr.indexAt, asIntOf, run_underlying hu, Instr.sureAddr, h0, hlt, sizeOf, typeInfo, hi, h, Addr.add_lit]
theorem pu_indexAddr_arr {tt : TypeId} {x ix : Operand} {kd : IntKind} {p : Int} {i off n sz : Nat} [AR P tt n sz]
    (hx : ev env x = .obj i off) (hi : ev env ix = .ro (.c (.int kd p))) (h0 : 0 ≤ p) (hlt : p < n) : Pur P C ⟨some t, .indexAddr tt x ix, ty, pos, after, gd⟩ env σ (.obj i (off + p.toNat * sz)) :=
  Pur.of (fun a m hG hσ hH => by
    have h := hH x (by simp [Op.operands, Call.operands])
    rw [hx] at h
    simp only [AV.rel] at h
    obtain ⟨hil, g, hg, e⟩ := h
    refine ⟨.pointer (some ⟨g, off + p.toNat * sz, none⟩), ?_, ?_⟩
    · simp [execOp, e, ev_c (hH _ (by simp [Op.operands, Call.operands])) hi, run_indexArr (P := P) (tt := tt) (n := n) (sz := sz) g off kd p h0 hlt]
    · simp only [AV.rel]
      exact ⟨hil, g, hg, rfl⟩)
theorem pu_indexS {xt : TypeId} {x ix : Operand} {kd : IntKind} {p : Int} {s : ByteArray} {c : UInt8} [hs : TS P xt] (hx : ev env x = .str s) (hi : ev env ix = .ro (.c (.int kd p))) (h0 : 0 ≤ p) (hc : s[p.toNat]? = some c) : Pur P C ⟨some t, .index xt x ix, ty, pos, after, gd⟩ env σ (.u8 (c.toNat : Int)) :=
  Pur.of (fun a m hG hσ hH => ⟨.int .u8 c.toNat, by simp [execOp, ev_c (hH _ (by simp [Op.operands, Call.operands])) hx, ev_c (hH _ (by simp [Op.operands, Call.operands])) hi, Instr.index, asIntOf, run_underlying hs.h, h0, hc], by simp [AV.rel, RV.rel]⟩)
theorem pu_len_seq {tt : TypeId} {e : TypeId} {z : Value} {sz bytes sz' : Nat} {x : Operand} {els : List (List RV)} [hs : SL P tt e z sz bytes] (hx : ev env x = .ro (.seq sz' els)) :
    Pur P C ⟨some t, .call { callee := .builtin .len, args := #[x], argTypes := #[tt] }, ty, pos, after, gd⟩ env σ (.int (els.length : Int)) :=
  Pur.of (fun a m hG hσ hH => by
    have h := hH x (by simp [Op.operands, Call.operands])
    rw [hx] at h
    simp only [AV.rel, RV.rel] at h
    obtain ⟨A, n, cp, ea, hn, h1, h2, h3⟩ := h
    refine ⟨.int .i64 (els.length : Int), ?_, by simp [AV.rel, RV.rel]⟩
    simp [execOp, resolve, invoke, builtin, ea, Builtin.len_, run_underlying hs.el.ht, goInt, hn])
theorem pu_len_own {tt : TypeId} {e : TypeId} {z : Value} {sz bytes i n : Nat} {o : Ob} {x : Operand} [hs : SL P tt e z sz bytes] (hx : ev env x = .own i) (ho : σ[i]? = some o) (hl : o.cs.length = n * o.sz) : Pur P C ⟨some t, .call { callee := .builtin .len, args := #[x], argTypes := #[tt] }, ty, pos, after, gd⟩ env σ (.int (n : Int)) :=
  Pur.of (fun a m hG hσ hH => by
    have h := hH x (by simp [Op.operands, Call.operands])
    rw [hx] at h
    simp only [AV.rel] at h
    obtain ⟨o', n', e1, e2, e3, e4⟩ := h
    rw [hσ, ho] at e1; injection e1 with e1; subst e1
    have hn : n' = n := Nat.eq_of_mul_eq_mul_right e3 (e2.symm.trans hl)
    subst hn
    refine ⟨.int .i64 (n' : Int), ?_, by simp [AV.rel, RV.rel]⟩
    rcases e4 with ⟨r1, r2, _⟩ | ⟨g, cap, us, hφ, er, _⟩
    · subst r2; simp [execOp, resolve, invoke, builtin, r1, Builtin.len_, run_underlying hs.el.ht, goInt]
    · simp [execOp, resolve, invoke, builtin, er, Builtin.len_, run_underlying hs.el.ht, goInt])
theorem pu_lenS {tt : TypeId} {x : Operand} {s : ByteArray} [hs : TS P tt] (hx : ev env x = .str s) : Pur P C ⟨some t, .call { callee := .builtin .len, args := #[x], argTypes := #[tt] }, ty, pos, after, gd⟩ env σ (.int (s.size : Int)) :=
  Pur.of (fun a m hG hσ hH => ⟨.int .i64 s.size, by simp [execOp, resolve, invoke, builtin, ev_c (hH _ (by simp [Op.operands, Call.operands])) hx, Builtin.len_, run_underlying hs.h, goInt], by simp [AV.rel, RV.rel]⟩)
theorem pu_extract_ro {x : Operand} {j : Nat} {vs : List RV} {r : RV} (hx : ev env x = .ro (.tup vs)) (hj : vs[j]? = some r) : Pur P C ⟨some t, .extract x j, ty, pos, after, gd⟩ env σ (.ro r) :=
  Pur.of (fun a m hG hσ hH => by
    have h := hH x (by simp [Op.operands, Call.operands])
    rw [hx] at h
    simp only [AV.rel, RV.rel] at h
    obtain ⟨us, e, hr⟩ := h
    obtain ⟨u, h1, h2⟩ := RV.rels_at vs _ hr j r hj
    exact ⟨u, by simp [execOp, e, Instr.extract, by simpa using h1], by simpa only [AV.rel] using h2⟩)
theorem pu_extract {x : Operand} {j : Nat} {vs : List AV} {r : AV} (hx : ev env x = .tup vs) (hj : vs[j]? = some r) : Pur P C ⟨some t, .extract x j, ty, pos, after, gd⟩ env σ (r) :=
  Pur.of (fun a m hG hσ hH => by
    have h := hH x (by simp [Op.operands, Call.operands])
    rw [hx] at h
    simp only [AV.rel] at h
    obtain ⟨us, e, hr⟩ := h
    obtain ⟨u, h1, h2⟩ := AV.rels_at vs _ hr j r hj
    exact ⟨u, by simp [execOp, e, Instr.extract, by simpa using h1], h2⟩)
def cells? : AV → Option (List AV)
  | .ro (.agg rs) => if rs.all RV.one then some (rs.map .ro) else none
  | .agg vs => if vs.all AV.one then some vs else none
  | v => if v.one then some [v] else none
theorem cells_rel {m : Mem} {v : AV} {u : Value} {cs : List AV} (hv : AV.rel m v u) (hc : cells? v = some cs) : u.cells.size = cs.length ∧ ∀ (j : Nat) x, cs[j]? = some x → ∃ y, u.cells[j]? = some y ∧ y.oneCell' = true ∧ AV.rel m x y := by
  have key : ∀ (vs : List AV) (us : Array Value), (∀ x ∈ vs, AV.one x = true) → AV.rels m vs us.toList → us.size = vs.length ∧ ∀ (j : Nat) x, vs[j]? = some x → ∃ y, us[j]? = some y ∧ y.oneCell' = true ∧ AV.rel m x y := by
    intro vs us h1 hr
    refine ⟨by simpa using AV.rels_len vs _ hr, fun j x hj => ?_⟩
    obtain ⟨y, e1, e2⟩ := AV.rels_at vs _ hr j x hj
    exact ⟨y, by simpa using e1, AV.rel_one x y (h1 x (List.mem_of_getElem? hj)) e2, e2⟩
  have single : ∀ (v : AV) (u : Value), v.one = true → AV.rel m v u → u.cells.size = [v].length ∧ ∀ (j : Nat) x, [v][j]? = some x → ∃ y, u.cells[j]? = some y ∧ y.oneCell' = true ∧ AV.rel m x y := by
    intro v u h1 hr
    have ho := AV.rel_one v u h1 hr
    have hcell : u.cells = #[u] := by cases u <;> simp_all [Value.cells, Value.oneCell']
    refine ⟨by simp [hcell], fun j x hj => ?_⟩
    cases j with
    | zero => simp at hj; subst hj; exact ⟨u, by simp [hcell], ho, hr⟩
    | succ j => simp at hj
  unfold cells? at hc
  split at hc
  · rename_i rs
    split at hc
    · rename_i hall
      injection hc with hc; subst hc
      simp only [AV.rel, RV.rel] at hv
      obtain ⟨us, rfl, hr⟩ := hv
      refine key _ us (fun x hx => ?_) (AV.rels_ro rs _ hr)
      obtain ⟨r, hr', rfl⟩ := List.mem_map.1 hx
      simpa [AV.one] using List.all_eq_true.1 hall r hr'
    · cases hc
  · rename_i vs
    split at hc
    · rename_i hall
      injection hc with hc; subst hc
      simp only [AV.rel] at hv
      obtain ⟨us, rfl, hr⟩ := hv
      exact key _ us (fun x hx => List.all_eq_true.1 hall x hx) hr
    · cases hc
  · split at hc
    · rename_i h1
      injection hc with hc; subst hc
      exact single _ u h1 hv
    · cases hc
theorem op_box {elem : TypeId} {x : Operand} {cs : List AV} (hx : cells? (ev env x) = some cs) (ht : t < C.n) (hk : RunsL P C ops rest k R ⟨(t, .obj σ.length 0) :: env, σ ++ [⟨elem, 0, cs⟩]⟩) :
    RunsL P C ops (⟨some t, .box elem x, ty, pos, after, none⟩ :: rest) k R ⟨env, σ⟩ :=
  RunsL.val rfl rfl ht (fun a w φ hG hH => by
    obtain ⟨h1, h2⟩ := cells_rel (ev_rel hH x) hx
    have hg := good_alloc hG (a.eval x).cells elem 0 cs (by omega) h2
    refine ⟨.pointer (some ⟨w.heap.size, 0, none⟩), w.alloc (.cells (a.eval x).cells elem), _, ?_, hg.1, hg.2, ?_⟩
    · simp [execOp, Instr.box, newVar, newRow, newObj]; rfl
    · simp only [AV.rel]
      exact ⟨by simp, w.heap.size, upd_eq, rfl⟩) hk
class TZ (P : Program) (t : TypeId) (cs : outParam (List Value)) : Prop where
  h : ∃ i z, P.info? t = some i ∧ i.zero = some z ∧ z.cells = cs.toArray ∧ ∀ x ∈ cs, x.oneCell' = true
theorem op_alloc {elem : TypeId} {cs : List Value} [hz : TZ P elem cs] (ht : t < C.n) (hk : RunsL P C ops rest k R ⟨(t, .obj σ.length 0) :: env, σ ++ [⟨elem, 0, cs.map fun v => .ro (.c v)⟩]⟩) :
    RunsL P C ops (⟨some t, .alloc elem, ty, pos, after, none⟩ :: rest) k R ⟨env, σ⟩ :=
  RunsL.val rfl rfl ht (fun a w φ hG hH => by
    obtain ⟨i, z, h1, h2, h3, h4⟩ := hz.h
    have hg := good_alloc hG cs.toArray elem 0 (cs.map fun v => .ro (.c v)) (by simp) (fun j v hj => by
      rw [List.getElem?_map, Option.map_eq_some_iff] at hj
      obtain ⟨x, hx, rfl⟩ := hj
      exact ⟨x, by simpa using hx, h4 x (List.mem_of_getElem? hx), by simp [AV.rel, RV.rel]⟩)
    refine ⟨.pointer (some ⟨w.heap.size, 0, none⟩), w.alloc (.cells cs.toArray elem), _, ?_, hg.1, hg.2, ?_⟩
    · simp [execOp, Instr.alloc, zeroValue, typeInfo, h1, h2, newVar, newRow, newObj, h3]; rfl
    · simp only [AV.rel]
      exact ⟨by simp, w.heap.size, upd_eq, rfl⟩) hk
def setsAt (cs : List AV) (off : Nat) : List AV → List AV
  | [] => cs
  | v :: vs => setsAt (cs.set off v) (off + 1) vs
theorem setsAt_len : ∀ (vs cs : List AV) (off : Nat), (setsAt cs off vs).length = cs.length
  | [], cs, off => rfl
  | v :: vs, cs, off => by rw [setsAt, setsAt_len vs]; simp
theorem keeps_trans {m m' m'' : Mem} (h : Keeps (fun _ => True) m m') (k : Keeps (fun _ => True) m' m'') : Keeps (fun _ => True) m m'' := by
  refine ⟨⟨Nat.le_trans h.ro.1 k.ro.1, fun b hb ho => ?_⟩, fun i _ hi => ?_, fun i ob _ hi => ?_, fun i g us t _ hi hg hh => ?_⟩
  · obtain ⟨h1, h2⟩ := h.ro.2 b hb ho
    obtain ⟨k1, k2⟩ := k.ro.2 b (Nat.lt_of_lt_of_le hb h.ro.1) h1
    exact ⟨k1, k2.trans h2⟩
  · obtain ⟨h1, h2⟩ := h.obj i trivial hi
    obtain ⟨k1, k2⟩ := k.obj i trivial h1
    exact ⟨k1, k2.trans h2⟩
  · obtain ⟨cs', h1, h2⟩ := h.row i ob trivial hi
    obtain ⟨cs'', k1, k2⟩ := k.row i _ trivial h1
    exact ⟨cs'', k1, k2.trans h2⟩
  · obtain ⟨h1, h2⟩ := h.obj i trivial hi
    obtain ⟨us', q1, q2⟩ := h.blk i g us t trivial hi hg hh
    obtain ⟨us'', r1, r2⟩ := k.blk i g us' t trivial h1 (h2.trans hg) q1
    exact ⟨us'', r1, r2.trans q2⟩
theorem keeps_refl (m : Mem) : Keeps (fun _ => True) m m :=
  ⟨⟨Nat.le_refl _, fun b _ hb => ⟨hb, rfl⟩⟩, fun i _ hi => ⟨hi, rfl⟩, fun i ob _ hi => ⟨ob.cs, hi, rfl⟩, fun i g us t _ _ _ hh => ⟨us, hh, rfl⟩⟩
theorem good_stores {φ : Nat → Option Nat} {i g : Nat} (hg : φ i = some g) : ∀ (vs : List AV) (us : List Value) (w : World) (σ : List Ob) (o : Ob) (off : Nat), σ[i]? = some o → off + vs.length ≤ o.cs.length → us.length = vs.length →
    (∀ (j : Nat) v, vs[j]? = some v → ∃ u, us[j]? = some u ∧ u.oneCell' = true ∧ AV.rel ⟨w, φ, σ, C.ok⟩ v u) → Good C ⟨w, φ, σ, C.ok⟩ →
    ∃ w', (∀ s n, s + n = off → (storeCells ⟨g, s, none⟩ us n).run P w = .ok () w') ∧ Good C ⟨w', φ, σ.set i ⟨o.t, o.sz, setsAt o.cs off vs⟩, C.ok⟩ ∧ Keeps (fun _ => True) ⟨w, φ, σ, C.ok⟩ ⟨w', φ, σ.set i ⟨o.t, o.sz, setsAt o.cs off vs⟩, C.ok⟩
  | [], us, w, σ, o, off, hi, hl, hu, hr, hG => by
    have : us = [] := List.eq_nil_of_length_eq_zero (by simpa using hu)
    subst this
    have e : σ.set i ⟨o.t, o.sz, setsAt o.cs off []⟩ = σ := by
      obtain ⟨hlt, he⟩ := List.getElem?_eq_some_iff.1 hi
      have : (⟨o.t, o.sz, setsAt o.cs off []⟩ : Ob) = σ[i] := by rw [he]; rfl
      rw [this, List.set_getElem_self]
    rw [e]
    exact ⟨w, fun s n _ => by simp [storeCells], hG, keeps_refl _⟩
  | v :: vs, us, w, σ, o, off, hi, hl, hu, hr, hG => by
    cases us with
    | nil => simp at hu
    | cons u us =>
      simp only [List.length_cons] at hl hu
      have h0 := hr 0 v (by simp)
      simp only [List.getElem?_cons_zero, Option.some.injEq] at h0
      obtain ⟨_, rfl, ho1, hv⟩ := h0
      obtain ⟨g1, k1⟩ := good_store (off := off) hG hi hg v _ ho1 hv
      have hil : i < σ.length := (List.getElem?_eq_some_iff.1 hi).1
      obtain ⟨w', hw, g2, k2⟩ := good_stores hg vs us _ (σ.set i ⟨o.t, o.sz, o.cs.set off v⟩) ⟨o.t, o.sz, o.cs.set off v⟩ (off + 1) (by simp [hil]) (by simp; omega) (by omega)
        (fun j x hj => by
          obtain ⟨y, e1, e2, e3⟩ := hr (j + 1) x (by simpa using hj)
          exact ⟨y, by simpa using e1, e2, AV.rel_keeps k1 _ _ (AV.only_true _) e3⟩) g1
      have e : (σ.set i ⟨o.t, o.sz, o.cs.set off v⟩).set i ⟨o.t, o.sz, setsAt (o.cs.set off v) (off + 1) vs⟩ = σ.set i ⟨o.t, o.sz, setsAt o.cs off (v :: vs)⟩ := by rw [List.set_set]; rfl
      simp only [e] at g2 k2
      refine ⟨w', fun s n hsn => ?_, g2, keeps_trans k1 k2⟩
      have hob := hG.ob i o hi
      rw [show (⟨w, φ, σ, C.ok⟩ : Mem).φ i = some g from hg] at hob
      obtain ⟨cs, q1, q2, q3⟩ := hob
      have hc : w.cell? ⟨g, off, none⟩ = some cs[off] := by rw [cell_of_row _ g off cs _ _ q1]; exact Array.getElem?_eq_getElem (by omega)
      have hf : w.frozen? ⟨g, off, none⟩ = false := frozen_of_row w g off cs o.t q1
      have := hw s (n + 1) (by omega)
      simp [storeCells, Addr.add_lit, hsn, run_store P w ⟨g, off, none⟩ u .plain ho1, hc, hf, this]
theorem op_store {tt : TypeId} {x y : Operand} {i off : Nat} {o : Ob} {v : AV} [T1 P tt] (hx : ev env x = .obj i off) (hy : ev env y = v) (h1 : v.one = true) (ho : σ[i]? = some o) (hlt : off < o.cs.length)
    (hk : RunsL P C ops rest k R ⟨env, σ.set i ⟨o.t, o.sz, o.cs.set off v⟩⟩) : RunsL P C ops (⟨none, .store tt x y, ty, pos, after, none⟩ :: rest) k R ⟨env, σ⟩ :=
  RunsL.void rfl rfl (fun a w φ hG hH => by
    have h := ev_rel hH x
    rw [hx] at h
    simp only [AV.rel] at h
    obtain ⟨hi, g, hg, e⟩ := h
    have hv := ev_rel hH y
    rw [hy] at hv
    have ho1 := AV.rel_one v _ h1 hv
    obtain ⟨w', hw, g2, k2⟩ := good_stores (P := P) (C := C) hg [v] [a.eval y] w σ o off ho (by simp; omega) rfl (fun j x hj => by
      cases j with
      | zero => simp at hj; subst hj; exact ⟨_, by simp, ho1, hv⟩
      | succ j => simp at hj) hG
    have hcell : (a.eval y).cells = #[a.eval y] := by cases hh : a.eval y <;> simp_all [Value.cells, Value.oneCell']
    refine ⟨w', φ, ?_, g2, k2⟩
    simp [execOp, e, Instr.storeAt, Instr.sureAddr, storeVar, hcell, run_size1 (P := P) (t := tt), hw off 0 rfl]) hk
theorem op_storeN {tt : TypeId} {x y : Operand} {i off n : Nat} {o : Ob} {vs : List AV} [TN P tt n] (hx : ev env x = .obj i off) (hy : cells? (ev env y) = some vs) (hn : vs.length = n) (ho : σ[i]? = some o) (hlt : off + n ≤ o.cs.length)
    (hk : RunsL P C ops rest k R ⟨env, σ.set i ⟨o.t, o.sz, setsAt o.cs off vs⟩⟩) : RunsL P C ops (⟨none, .store tt x y, ty, pos, after, none⟩ :: rest) k R ⟨env, σ⟩ :=
  RunsL.void rfl rfl (fun a w φ hG hH => by
    have h := ev_rel hH x
    rw [hx] at h
    simp only [AV.rel] at h
    obtain ⟨hi, g, hg, e⟩ := h
    obtain ⟨c1, c2⟩ := cells_rel (ev_rel hH y) hy
    obtain ⟨w', hw, g2, k2⟩ := good_stores (P := P) (C := C) hg vs (a.eval y).cells.toList w σ o off ho (by omega) (by simpa using c1) (fun j x hj => by simpa using c2 j x hj) hG
    refine ⟨w', φ, ?_, g2, k2⟩
    simp [execOp, e, Instr.storeAt, Instr.sureAddr, storeVar, c1, hn, run_sizeN (P := P) (t := tt) (n := n), hw off 0 rfl]) hk
theorem RunsL.guard {dst : Nat} {op : Op} {j tj : Nat} {want b : Bool} {oj : Oper} (hj : ops[j]? = some oj) (hd : oj.dst = some tj) (hb : look env tj = .bool b) (ht : dst < C.n)
    (hy : b = want → RunsL P C ops (⟨some dst, op, ty, pos, after, none⟩ :: rest) k R ⟨env, σ⟩) (hn : b = (!want) → RunsL P C ops rest k R ⟨(dst, .ro (.c undef)) :: env, σ⟩) :
    RunsL P C ops (⟨some dst, op, ty, pos, after, some (j, want)⟩ :: rest) k R ⟨env, σ⟩ := by
  have key : ∀ (a : Act) (m : Mem), Holds m env a → yielded ops a.tmps j = some b := by
    intro a m hH
    have h := hH tj
    rw [hb] at h
    simp only [AV.rel, RV.rel, Array.getD_eq_getD_getElem?] at h
    cases he : a.tmps[tj]? with
    | none => simp [he, undef] at h
    | some v =>
      simp [he] at h
      subst h
      simp [yielded, hj, hd, he]
  by_cases hbw : b = want
  · refine RunsL.wanted (fun a m hH => ?_) (hy hbw)
    simp [Region.wanted, key a m hH, hbw]
  · refine RunsL.unwanted rfl ht (fun a m hH => ?_) (hn (by cases b <;> cases want <;> simp_all))
    simp [Region.wanted, key a m hH, hbw]
end
end Go.Proofs.Ytnecoghfhcimeaa
/- Contracts of functions over values: what goes in is read-only data, what comes out is data or rows of its own. Over any program. -/
namespace Go.Proofs.Ytnecoghfhcimeaa
set_option linter.unusedSimpArgs false
set_option linter.unusedVariables false
set_option linter.unusedSectionVars false
open Go.RowKit
open AV (Mem Keeps)
inductive RR where
  | ro (r : RV)
  | row (e : TypeId) (sz : Nat) (cs : List RV)
  | agg (rs : List RR)
  | tup (rs : List RR)
namespace RR
mutual
def rel (w : World) (ok : Nat → Prop) : RR → Value → List Nat → Prop
  | .ro r, u, bs => r.rel w ok u ∧ bs = []
  | .row e sz cs, u, bs => ∃ n xs, cs.length = n * sz ∧ 0 < sz ∧ RV.rels w ok cs xs ∧ (∀ x ∈ xs, x.oneCell' = true) ∧ w.ownsRow 0 e sz u n xs ∧ bs = u.ownBlock.toList
  | .agg rs, u, bs => ∃ us : Array Value, u = .agg us ∧ rels w ok rs us.toList bs
  | .tup rs, u, bs => ∃ us : Array Value, u = .tuple us ∧ rels w ok rs us.toList bs
def rels (w : World) (ok : Nat → Prop) : List RR → List Value → List Nat → Prop
  | [], us, bs => us = [] ∧ bs = []
  | x :: xs, us, bs => ∃ u us' b bs', us = u :: us' ∧ bs = b ++ bs' ∧ rel w ok x u b ∧ rels w ok xs us' bs'
end
end RR
def AC (P : Program) (f : FuncId) (args : List RV) (R : RR → Prop) : Prop :=
  ∀ (w : World) (ok : Nat → Prop) (us : Array Value), (∀ b, w.heap.size ≤ b → ok b) → RV.rels w ok args us.toList →
    Calls P f us w fun e w' => ∃ u rr bs, e = .returned u ∧ R rr ∧ RR.rel w' (fun b => ok b ∧ b ∉ bs) rr u bs ∧ bs.Nodup ∧ (∀ b ∈ bs, w.heap.size ≤ b ∧ b < w'.heap.size) ∧ Below w.heap.size w w'
theorem AC.mono {P : Program} {f : FuncId} {args : List RV} {R R' : RR → Prop} (h : AC P f args R) (hr : ∀ rr, R rr → R' rr) : AC P f args R' :=
  fun w ok us h0 hu => (h w ok us h0 hu).mono fun _ _ ⟨u, rr, bs, e, h1, h2⟩ => ⟨u, rr, bs, e, hr rr h1, h2⟩
abbrev ACv (P : Program) (f : FuncId) (args : List RV) (r : RV) : Prop := AC P f args fun rr => rr = .ro r
mutual
def Harv (σ : List Ob) : RR → AV → List Nat → Prop
  | .ro r, v, is => v = .ro r ∧ is = []
  | .row e sz cs, v, is => ∃ i, v = .own i ∧ σ[i]? = some ⟨e, sz, cs.map .ro⟩ ∧ is = [i]
  | .agg rs, v, is => ∃ vs, v = .agg vs ∧ Harvs σ rs vs is
  | .tup rs, v, is => ∃ vs, v = .tup vs ∧ Harvs σ rs vs is
def Harvs (σ : List Ob) : List RR → List AV → List Nat → Prop
  | [], vs, is => vs = [] ∧ is = []
  | x :: xs, vs, is => ∃ v vs' i is', vs = v :: vs' ∧ is = i ++ is' ∧ Harv σ x v i ∧ Harvs σ xs vs' is'
end
def blocks (φ : Nat → Option Nat) (is : List Nat) : List Nat := is.flatMap fun i => (φ i).toList
theorem blocks_append (φ : Nat → Option Nat) (a b : List Nat) : blocks φ (a ++ b) = blocks φ a ++ blocks φ b := by simp [blocks]
section
variable {C : Ctx} {m : Mem}
theorem rels_ro_inv {m : Mem} : ∀ (rs : List RV) (us : List Value), AV.rels m (rs.map .ro) us → RV.rels m.w m.ok rs us
  | [], us, h => by simpa [AV.rels, RV.rels] using h
  | x :: xs, us, h => by
    simp only [List.map_cons, AV.rels] at h
    obtain ⟨u, us', rfl, h1, h2⟩ := h
    simp only [RV.rels]
    exact ⟨u, us', rfl, by simpa only [AV.rel] using h1, rels_ro_inv xs us' h2⟩
theorem row_own (hG : Good C m) {i : Nat} {e : TypeId} {sz : Nat} {cs : List RV} (hi : m.σ[i]? = some ⟨e, sz, cs.map .ro⟩) {u : Value} (hu : AV.rel m (.own i) u) :
    ∃ n xs, cs.length = n * sz ∧ 0 < sz ∧ RV.rels m.w m.ok cs xs ∧ (∀ x ∈ xs, x.oneCell' = true) ∧ m.w.ownsRow 0 e sz u n xs ∧ u.ownBlock.toList = (m.φ i).toList := by
  simp only [AV.rel] at hu
  obtain ⟨ob, n, h1, h2, h3, h4⟩ := hu
  rw [hi] at h1; injection h1 with h1; subst h1
  simp only [List.length_map] at h2 h3 h4
  rcases h4 with ⟨rfl, rfl, hφ⟩ | ⟨g, cap, us, hφ, rfl, hh, c1, c2, c3⟩
  · have : cs = [] := List.eq_nil_of_length_eq_zero (by omega)
    subst this
    exact ⟨0, [], by simp, h3, by simp [RV.rels], by simp, World.ownsRow_nil _ _ _ _, by simp [Value.ownBlock, hφ]⟩
  · have hob := hG.ob i _ hi
    rw [hφ] at hob
    obtain ⟨us', q1, q2, q3⟩ := hob
    simp only at q1
    rw [hh] at q1; injection q1 with q1; injection q1 with q1; subst q1
    simp only [List.length_map] at q2 q3
    have hl : (us.toList.take (n * sz)).length = n * sz := by rw [List.length_take, Array.length_toList, c3]; exact Nat.min_eq_left (Nat.mul_le_mul_right _ c1)
    refine ⟨n, us.toList.take (n * sz), h2, h3, RV.rels_of cs _ (by omega) fun j r x e1 e2 => ?_, fun x hx => ?_, ⟨hl, .inr ⟨g, cap, us, rfl, Nat.zero_le _, hh, c1, c2, c3, rfl⟩⟩, by simp [Value.ownBlock, hφ]⟩
    · obtain ⟨y, k1, _, k3⟩ := q3 j (.ro r) (by simp [e1])
      rw [List.getElem?_take] at e2
      split at e2
      · have : x = y := by simpa [k1] using e2.symm
        subst this
        simpa only [AV.rel] using k3
      · cases e2
    · obtain ⟨j, hj, rfl⟩ := List.getElem_of_mem hx
      have hj' : j < cs.length := by omega
      obtain ⟨y, k1, k2, _⟩ := q3 j (.ro cs[j]) (by simp [hj'])
      have : (us.toList.take (n * sz))[j] = y := by
        have := Array.getElem?_eq_some_iff.1 k1
        simp [← this.2]
      rw [this]; exact k2
mutual
theorem harv_rel (hG : Good C m) : ∀ (rr : RR) (v : AV) (u : Value) (is : List Nat), Harv m.σ rr v is → AV.rel m v u → rr.rel m.w m.ok u (blocks m.φ is)
  | .ro r, v, u, is, hh, hu => by
    simp only [Harv] at hh
    obtain ⟨rfl, rfl⟩ := hh
    simp only [RR.rel]
    exact ⟨by simpa only [AV.rel] using hu, rfl⟩
  | .row e sz cs, v, u, is, hh, hu => by
    simp only [Harv] at hh
    obtain ⟨i, rfl, hi, rfl⟩ := hh
    obtain ⟨n, xs, h1, h2, h3, h4, h5, h6⟩ := row_own hG hi hu
    simp only [RR.rel]
    exact ⟨n, xs, h1, h2, h3, h4, h5, by simp [blocks, h6]⟩
  | .agg rs, v, u, is, hh, hu => by
    simp only [Harv] at hh
    obtain ⟨vs, rfl, hh⟩ := hh
    simp only [AV.rel] at hu
    obtain ⟨us, rfl, hu⟩ := hu
    simp only [RR.rel]
    exact ⟨us, rfl, harvs_rel hG rs vs _ is hh hu⟩
  | .tup rs, v, u, is, hh, hu => by
    simp only [Harv] at hh
    obtain ⟨vs, rfl, hh⟩ := hh
    simp only [AV.rel] at hu
    obtain ⟨us, rfl, hu⟩ := hu
    simp only [RR.rel]
    exact ⟨us, rfl, harvs_rel hG rs vs _ is hh hu⟩
theorem harvs_rel (hG : Good C m) : ∀ (rs : List RR) (vs : List AV) (us : List Value) (is : List Nat), Harvs m.σ rs vs is → AV.rels m vs us → RR.rels m.w m.ok rs us (blocks m.φ is)
  | [], vs, us, is, hh, hu => by
    simp only [Harvs] at hh
    obtain ⟨rfl, rfl⟩ := hh
    simp only [AV.rels] at hu
    simp [RR.rels, hu, blocks]
  | x :: xs, vs, us, is, hh, hu => by
    simp only [Harvs] at hh
    obtain ⟨v, vs', i, is', rfl, rfl, h1, h2⟩ := hh
    simp only [AV.rels] at hu
    obtain ⟨u, us', rfl, k1, k2⟩ := hu
    simp only [RR.rels]
    exact ⟨u, us', _, _, rfl, blocks_append _ _ _, harv_rel hG x v u i h1 k1, harvs_rel hG xs vs' us' is' h2 k2⟩
end
mutual
theorem harv_lt (σ : List Ob) : ∀ (rr : RR) (v : AV) (is : List Nat), Harv σ rr v is → ∀ i ∈ is, i < σ.length
  | .ro r, v, is, hh => by simp only [Harv] at hh; simp [hh.2]
  | .row e sz cs, v, is, hh => by
    simp only [Harv] at hh
    obtain ⟨i, rfl, hi, rfl⟩ := hh
    simpa using (List.getElem?_eq_some_iff.1 hi).1
  | .agg rs, v, is, hh => by simp only [Harv] at hh; obtain ⟨vs, _, hh⟩ := hh; exact harvs_lt σ rs vs is hh
  | .tup rs, v, is, hh => by simp only [Harv] at hh; obtain ⟨vs, _, hh⟩ := hh; exact harvs_lt σ rs vs is hh
theorem harvs_lt (σ : List Ob) : ∀ (rs : List RR) (vs : List AV) (is : List Nat), Harvs σ rs vs is → ∀ i ∈ is, i < σ.length
  | [], vs, is, hh => by simp only [Harvs] at hh; simp [hh.2]
  | x :: xs, vs, is, hh => by
    simp only [Harvs] at hh
    obtain ⟨v, vs', i, is', rfl, rfl, h1, h2⟩ := hh
    intro j hj
    rcases List.mem_append.1 hj with h | h
    · exact harv_lt σ x v i h1 j h
    · exact harvs_lt σ xs vs' is' h2 j h
end
mutual
theorem RR.rel_mono {w : World} {ok ok' : Nat → Prop} (h : ∀ b, ok b → ok' b) : ∀ (rr : RR) (u : Value) (bs : List Nat), rr.rel w ok u bs → rr.rel w ok' u bs
  | .ro r, u, bs, hr => by simp only [RR.rel] at hr ⊢; exact ⟨RV.rel_mono ⟨Nat.le_refl _, fun b _ hb => ⟨h b hb, rfl⟩⟩ r u hr.1, hr.2⟩
  | .row e sz cs, u, bs, hr => by
    simp only [RR.rel] at hr ⊢
    obtain ⟨n, xs, h1, h2, h3, h4⟩ := hr
    exact ⟨n, xs, h1, h2, RV.rels_mono ⟨Nat.le_refl _, fun b _ hb => ⟨h b hb, rfl⟩⟩ _ _ h3, h4⟩
  | .agg rs, u, bs, hr => by simp only [RR.rel] at hr ⊢; obtain ⟨us, e, hr⟩ := hr; exact ⟨us, e, RR.rels_mono h rs _ _ hr⟩
  | .tup rs, u, bs, hr => by simp only [RR.rel] at hr ⊢; obtain ⟨us, e, hr⟩ := hr; exact ⟨us, e, RR.rels_mono h rs _ _ hr⟩
theorem RR.rels_mono {w : World} {ok ok' : Nat → Prop} (h : ∀ b, ok b → ok' b) : ∀ (rs : List RR) (us : List Value) (bs : List Nat), RR.rels w ok rs us bs → RR.rels w ok' rs us bs
  | [], us, bs, hr => by simpa [RR.rels] using hr
  | x :: xs, us, bs, hr => by
    simp only [RR.rels] at hr ⊢
    obtain ⟨u, us', b, bs', e1, e2, h1, h2⟩ := hr
    exact ⟨u, us', b, bs', e1, e2, RR.rel_mono h x u b h1, RR.rels_mono h xs us' bs' h2⟩
end
theorem mem_blocks {φ : Nat → Option Nat} {is : List Nat} {b : Nat} : b ∈ blocks φ is ↔ ∃ i ∈ is, φ i = some b := by
  simp [blocks, Option.mem_toList]
theorem blocks_nodup (hG : Good C m) : ∀ (is : List Nat), is.Nodup → (∀ i ∈ is, i < m.σ.length) → (blocks m.φ is).Nodup
  | [], _, _ => by simp [blocks]
  | i :: is, hn, hl => by
    have e : blocks m.φ (i :: is) = (m.φ i).toList ++ blocks m.φ is := by simp [blocks]
    rw [e, List.nodup_append]
    rw [List.nodup_cons] at hn
    refine ⟨by cases m.φ i <;> simp, blocks_nodup hG is hn.2 (fun j hj => hl j (by simp [hj])), fun a ha b hb => ?_⟩
    rintro rfl
    obtain ⟨j, hj, hjb⟩ := mem_blocks.1 hb
    have hi : m.φ i = some a := by simpa [Option.mem_toList] using ha
    have := hG.inj i j a (hl i (by simp)) (hl j (by simp [hj])) hi hjb
    subst this
    exact hn.1 hj
end
def Ends (P : Program) (C : Ctx) (fn : Func) (R : RR → Prop) (a : Act) (w : World) : Prop :=
  a.defers = [] ∧ ∃ v, (results fn a.tmps).run P w = .ok v w ∧ ∃ rr bs, R rr ∧ RR.rel w (fun b => C.ok b ∧ b ∉ bs) rr v bs ∧ bs.Nodup ∧ (∀ b ∈ bs, C.w0.heap.size ≤ b ∧ b < w.heap.size) ∧ Below C.w0.heap.size C.w0 w
def startEnv : Nat → List RV → Env
  | _, [] => []
  | t, r :: rs => (t, .ro r) :: startEnv (t + 1) rs
theorem start_look : ∀ (rs : List RV) (t k : Nat), look (startEnv t rs) k = if t ≤ k then (match rs[k - t]? with | some r => .ro r | none => .junk) else .junk
  | [], t, k => by simp [startEnv, look]
  | r :: rs, t, k => by
    rw [startEnv, look_put, start_look rs (t + 1) k]
    by_cases h : t = k
    · subst h; simp
    · rw [if_neg h]
      by_cases h2 : t + 1 ≤ k
      · have e : k - t = (k - (t + 1)) + 1 := by omega
        rw [if_pos h2, if_pos (by omega : t ≤ k), e, List.getElem?_cons_succ]
      · rw [if_neg h2]
        split
        · omega
        · rfl
theorem ac_enter {P : Program} {f : FuncId} {fn : Func} {c : Code} {args : List RV} {R : RR → Prop} (hf : P.funcs[f]? = some fn) (hb : fn.body = some c) (n : Nat) (hn : fn.ntmps = n) (hl : args.length ≤ n)
    (h : ∀ C : Ctx, C.n = n → (∀ b, ¬ C.mu b) → Runs P C [.code c] (Ends P C fn R) ⟨startEnv 0 args, []⟩) : AC P f args R := by
  intro w ok us h0 hu
  have hlen := RV.rels_len args _ hu
  refine calls_of_fin hf hb ?_
  have hs : Sim ⟨w, ok, fun _ => False, n⟩ ⟨startEnv 0 args, []⟩ { tmps := us ++ Array.replicate (fn.ntmps - us.size) undef, defers := [] } w := by
    refine ⟨rfl, by simp at hlen ⊢; omega, fun _ => none, ⟨rfl, fun i j g hi => by simp at hi, fun i o hi => by simp at hi, fun i g hi => by simp at hi, ⟨rfl, rfl, rfl, Nat.le_refl _, fun _ _ _ => rfl, h0⟩⟩, fun t => ?_⟩
    rw [start_look]
    simp only [Nat.zero_le, if_true, Nat.sub_zero]
    cases hr : args[t]? with
    | none => simp [AV.rel]
    | some r =>
      obtain ⟨u, e1, e2⟩ := RV.rels_at args _ hu t r hr
      have ht : t < us.size := by have := (List.getElem?_eq_some_iff.1 e1).1; simpa using this
      simp only [AV.rel]
      have : (us ++ Array.replicate (fn.ntmps - us.size) undef).getD t undef = u := by
        rw [Array.getD_eq_getD_getElem?, Array.getElem?_append_left ht]
        have : us[t]? = some u := by simpa using e1
        simp [this]
      rw [this]
      exact RV.rel_mono ⟨Nat.le_refl _, fun b _ hb => ⟨⟨hb, fun i hi => by simp at hi⟩, rfl⟩⟩ r u e2
  have hr := (h ⟨w, ok, fun _ => False, n⟩ rfl (fun _ h => h)).run _ w hs
  intro b cs
  obtain ⟨a', w', todo, ⟨hd, v, hv, rr, bs, h1, h2, h3, h4, h5⟩, hst⟩ := hr b cs
  exact ⟨a', w', todo, ⟨hd, v, hv, v, rr, bs, rfl, h1, h2, h3, h4, h5⟩, hst⟩
section
variable {P : Program} {C : Ctx} {fn : Func} {R : RR → Prop} {S : St} {a : Act} {w : World}
theorem Frm.below0 {C : Ctx} {w : World} (h : Frm C w) (hm : ∀ b, ¬ C.mu b) : Below C.w0.heap.size C.w0 w := ⟨h.os, h.tape, h.output, h.size, fun b hb => h.block b hb (hm b)⟩
def ResV (P : Program) (S : St) : ResultVar → AV → Prop
  | .tmp t, v => v = look S.env t
  | .cell p ty, v => ∃ i off o, look S.env p = .obj i off ∧ S.σ[i]? = some o ∧ ((T1 P ty ∧ o.cs[off]? = some v) ∨ ∃ n, TN P ty n ∧ off + n ≤ o.cs.length ∧ v = .agg ((o.cs.drop off).take n))
def ResVs (P : Program) (S : St) : List ResultVar → List AV → Prop
  | [], vs => vs = []
  | x :: xs, vs => ∃ v vs', vs = v :: vs' ∧ ResV P S x v ∧ ResVs P S xs vs'
def resRun (tmps : Array Value) : ResultVar → Sem Value
  | .tmp t => pure (tmps.getD t undef)
  | .cell a t => do loadVar t (← asAddr (tmps.getD a undef))
theorem results_eq (fn : Func) (tmps : Array Value) : results fn tmps = (do let vs ← fn.results.mapM (resRun tmps); pure (if h : vs.size = 1 then vs[0] else .tuple vs)) := by
  unfold results
  congr 1
theorem resV_run {φ : Nat → Option Nat} (hG : Good C ⟨w, φ, S.σ, C.ok⟩) (hH : Holds ⟨w, φ, S.σ, C.ok⟩ S.env a) : ∀ (x : ResultVar) (v : AV), ResV P S x v → ∃ u, (resRun a.tmps x).run P w = .ok u w ∧ AV.rel ⟨w, φ, S.σ, C.ok⟩ v u
  | .tmp t, v, h => by
    simp only [ResV] at h
    subst h
    exact ⟨_, by simp [resRun], hH t⟩
  | .cell p ty, v, h => by
    simp only [ResV] at h
    obtain ⟨i, off, o, h1, h2, h3⟩ := h
    have hp := hH p
    rw [h1] at hp
    simp only [AV.rel] at hp
    obtain ⟨hi, g, hg, e⟩ := hp
    have hob := hG.ob i o h2
    rw [show (⟨w, φ, S.σ, C.ok⟩ : Mem).φ i = some g from hg] at hob
    obtain ⟨us, q1, q2, q3⟩ := hob
    have e' : (a.tmps[p]?).getD undef = Value.pointer (some ⟨g, off, none⟩) := by rw [← Array.getD_eq_getD_getElem?]; exact e
    rcases h3 with ⟨ht, hv⟩ | ⟨n, ht, hn, rfl⟩
    · obtain ⟨u, k1, k2, k3⟩ := q3 off v hv
      have hc : w.cell? ⟨g, off, none⟩ = some u := by rw [cell_of_row _ g off us _ _ q1]; exact k1
      exact ⟨u, by simp [resRun, e', asAddr, loadVar, run_isAgg1, run_load, hc], k3⟩
    · let vs : List Value := (us.toList.drop off).take n
      have hl : vs.length = n := by simp [vs]; omega
      have hu : ∀ (j : Nat) v, vs[j]? = some v → w.cell? ⟨g, off + j, none⟩ = some v := by
        intro j v hj
        rw [cell_of_row _ g (off + j) us _ _ q1]
        simp only [vs, List.getElem?_take, List.getElem?_drop] at hj
        split at hj
        · simpa using hj
        · cases hj
      have hld := run_loadCells_list (P := P) w ⟨g, off, none⟩ vs (fun j v hj => by rw [Addr.add_lit]; exact hu j v hj)
      rw [hl] at hld
      refine ⟨.agg vs.toArray, by simp [resRun, e', asAddr, loadVar, run_isAggN (P := P) (t := ty) (n := n), run_sizeN (P := P) (t := ty) (n := n), hld], ?_⟩
      simp only [AV.rel]
      refine ⟨_, rfl, AV.rels_of _ _ (by simp [vs]; omega) fun j r u k1 k2 => ?_⟩
      simp only [List.getElem?_take, List.getElem?_drop] at k1
      simp only [vs, List.getElem?_take, List.getElem?_drop] at k2
      split at k1
      · rename_i hj
        rw [if_pos hj] at k2
        obtain ⟨u', e1, _, e3⟩ := q3 _ r k1
        have : u' = u := by simpa [e1] using k2
        subst this; exact e3
      · cases k1
theorem resVs_run {φ : Nat → Option Nat} (hG : Good C ⟨w, φ, S.σ, C.ok⟩) (hH : Holds ⟨w, φ, S.σ, C.ok⟩ S.env a) : ∀ (xs : List ResultVar) (vs : List AV), ResVs P S xs vs → ∃ us, (xs.mapM (resRun a.tmps)).run P w = .ok us w ∧ AV.rels ⟨w, φ, S.σ, C.ok⟩ vs us
  | [], vs, h => by
    simp only [ResVs] at h
    subst h
    exact ⟨[], by simp, by simp [AV.rels]⟩
  | x :: xs, vs, h => by
    simp only [ResVs] at h
    obtain ⟨v, vs', rfl, h1, h2⟩ := h
    obtain ⟨u, k1, k2⟩ := resV_run hG hH x v h1
    obtain ⟨us, q1, q2⟩ := resVs_run hG hH xs vs' h2
    refine ⟨u :: us, by simp [List.mapM_cons, k1, q1], ?_⟩
    simp only [AV.rels]
    exact ⟨u, us, rfl, k2, q2⟩
theorem ends_of {φ : Nat → Option Nat} (hm : ∀ b, ¬ C.mu b) (hd : a.defers = []) (hG : Good C ⟨w, φ, S.σ, C.ok⟩) {v : AV} {u : Value} (hu : (results fn a.tmps).run P w = .ok u w) (hv : AV.rel ⟨w, φ, S.σ, C.ok⟩ v u)
    (rr : RR) (is : List Nat) (hh : Harv S.σ rr v is) (hn : is.Nodup) (hR : R rr) : Ends P C fn R a w := by
  refine ⟨hd, u, hu, rr, blocks φ is, hR, ?_, blocks_nodup hG is hn (harv_lt _ _ _ _ hh), fun b hb => ?_, hG.frm.below0 hm⟩
  · have := harv_rel hG rr _ _ is hh hv
    refine RR.rel_mono (fun b hb => ⟨hb.1, fun hm => ?_⟩) _ _ _ this
    obtain ⟨i, hi, e⟩ := mem_blocks.1 hm
    exact hb.2 i (harv_lt _ _ _ _ hh i hi) e
  · obtain ⟨i, hi, e⟩ := mem_blocks.1 hb
    have hil := harv_lt _ _ _ _ hh i hi
    refine ⟨?_, hG.lt hil e⟩
    rcases hG.mine i b hil e with h | h
    · exact absurd h (hm b)
    · exact h
theorem ends1 {x : ResultVar} (hm : ∀ b, ¬ C.mu b) (hr : fn.results = #[x]) (v : AV) (hx : ResV P S x v) (rr : RR) (is : List Nat) (hh : Harv S.σ rr v is) (hn : is.Nodup) (hR : R rr) : ∀ a w, Sim C S a w → Ends P C fn R a w := by
  intro a w ⟨h1, h2, φ, hG, hH⟩
  obtain ⟨u, k1, k2⟩ := resV_run (P := P) hG hH x v hx
  exact ends_of hm h1 hG (by rw [results_eq, hr]; simp [k1]) k2 rr is hh hn hR
theorem ends_ro {t : Nat} {r : RV} (hm : ∀ b, ¬ C.mu b) (hr : fn.results = #[.tmp t]) (hx : look S.env t = .ro r) (hR : R (.ro r)) : ∀ a w, Sim C S a w → Ends P C fn R a w :=
  ends1 hm hr _ rfl (.ro r) [] (by simp only [Harv]; exact ⟨hx, trivial⟩) List.nodup_nil hR
theorem endsN {xs : List ResultVar} (hm : ∀ b, ¬ C.mu b) (hr : fn.results = xs.toArray) (hl : xs.length ≠ 1) (vs : List AV) (hx : ResVs P S xs vs) (rs : List RR) (is : List Nat) (hh : Harvs S.σ rs vs is) (hn : is.Nodup) (hR : R (.tup rs)) : ∀ a w, Sim C S a w → Ends P C fn R a w := by
  intro a w ⟨h1, h2, φ, hG, hH⟩
  obtain ⟨us, k1, k2⟩ := resVs_run (P := P) hG hH xs vs hx
  have hlen : ∀ (xs : List ResultVar) (vs : List AV), ResVs P S xs vs → vs.length = xs.length := by
    intro xs
    induction xs with
    | nil => intro vs h; simp only [ResVs] at h; simp [h]
    | cons x xs ih => intro vs h; simp only [ResVs] at h; obtain ⟨v, vs', rfl, _, h⟩ := h; simp [ih vs' h]
  have hul : us.length ≠ 1 := by rw [AV.rels_len vs us k2, hlen xs vs hx]; exact hl
  refine ends_of (v := .tup vs) hm h1 hG (u := .tuple us.toArray) (by rw [results_eq, hr]; simp [List.mapM_toArray, k1, hul]) (by simp only [AV.rel]; exact ⟨_, rfl, k2⟩) (.tup rs) is (by simp only [Harv]; exact ⟨vs, rfl, hh⟩) hn hR
end
def Fits (v : AV) (r : RV) : Prop := ∀ (m : Mem) (u : Value), AV.rel m v u → RV.rel m.w m.ok r u
inductive FitsL : List AV → List RV → Prop
  | nil : FitsL [] []
  | cons {v : AV} {r : RV} {vs : List AV} {rs : List RV} : Fits v r → FitsL vs rs → FitsL (v :: vs) (r :: rs)
theorem Fits.ro (r : RV) : Fits (.ro r) r := fun m u h => by simpa only [AV.rel] using h
theorem Fits.nil (sz : Nat) : Fits (.ro .nil) (.seq sz []) := fun m u h => by
  simp only [AV.rel, RV.rel] at h ⊢
  subst h
  exact ⟨none, 0, 0, rfl, rfl, Nat.le_refl _, Nat.zero_le _, fun h => absurd h (by omega)⟩
theorem FitsL.rels {m : Mem} {vs : List AV} {rs : List RV} (h : FitsL vs rs) : ∀ us, AV.rels m vs us → RV.rels m.w m.ok rs us := by
  induction h with
  | nil => intro us hu; simpa [AV.rels, RV.rels] using hu
  | cons h1 _ ih =>
    intro us hu
    simp only [AV.rels] at hu
    obtain ⟨u, us', rfl, k1, k2⟩ := hu
    simp only [RV.rels]
    exact ⟨u, us', rfl, h1 m u k1, ih us' k2⟩
theorem FitsL.ros : ∀ rs : List RV, FitsL (rs.map .ro) rs
  | [] => .nil
  | r :: rs => .cons (Fits.ro r) (FitsL.ros rs)
theorem Fits.agg {vs : List AV} {rs : List RV} (h : FitsL vs rs) : Fits (.agg vs) (.agg rs) := fun m u hu => by
  simp only [AV.rel, RV.rel] at hu ⊢
  obtain ⟨us, e, hr⟩ := hu
  exact ⟨us, e, FitsL.rels h _ hr⟩
section
variable {P : Program} {C : Ctx} {ops : Array Oper} {rest : List Oper} {k : List Item} {R : Act → World → Prop} {env : Env} {σ : List Ob} {t : Nat} {ty : TypeId} {pos : String} {after : Array Edge} {gd : Option (Nat × Bool)}
theorem run_call {f : FuncId} {fn : Func} (h : FN P f fn) (args : Array Value) (w : World) : (callFunc f args).run P w = .ok (.enter f args) w := by
  have hn : ¬ fn.name = "runtime.NumGoroutine" := by simpa using h.name
  have hb := h.body
  cases hbb : fn.body with
  | none => simp [hbb] at hb
  | some c => simp [callFunc, h.h, hn, hbb]
theorem rels_eval {m : Mem} {a : Act} : ∀ (xs : List Operand), (∀ x ∈ xs, AV.rel m (ev env x) (a.eval x)) → AV.rels m (xs.map (ev env)) (xs.map a.eval)
  | [], _ => by simp [AV.rels]
  | x :: xs, h => by
    simp only [List.map_cons, AV.rels]
    exact ⟨_, _, rfl, h x (by simp), rels_eval xs fun y hy => h y (by simp [hy])⟩
theorem pu_call {f : FuncId} {fn : Func} {xs : Array Operand} {ats : Array TypeId} {args : List RV} {r : RV} [hfn : FN P f fn] (hf : ACv P f args r) (ha : FitsL (xs.toList.map (ev env)) args) :
    Pur P C ⟨some t, .call { callee := .value (.func f), args := xs, argTypes := ats }, ty, pos, after, gd⟩ env σ (.ro r) := by
  refine ⟨fun a m hG hσ hH K Q hK => ?_⟩
  have hr := FitsL.rels ha _ (rels_eval (a := a) (m := m) xs.toList fun x hx => hH x (by simp [Op.operands, Call.operands]; exact .inr (by simpa using hx)))
  unfold Oper.wp
  rw [execOp_call_go, run_call hfn]
  simp only [Oper.upon]
  refine (hf m.w m.ok _ (fun b hb => ⟨by rw [hG.ok0]; exact hG.frm.new b (Nat.le_trans hG.frm.size hb), fun i hi e => ?_⟩) (by simpa using hr)).mono ?_
  · have := hG.lt hi e; omega
  · rintro e w' ⟨u, rr, bs, rfl, rfl, h1, _, _, h4⟩
    simp only [RR.rel] at h1
    obtain ⟨h1, rfl⟩ := h1
    refine hK u w' h4 ?_
    simp only [AV.rel]
    exact RV.rel_mono ⟨Nat.le_refl _, fun b _ hb => ⟨hb.1, rfl⟩⟩ r u h1
theorem pu_callR {f : FuncId} {fn : Func} {xs : Array Operand} {ats : Array TypeId} {args : List RV} {r : RV} [hfn : FN P f fn] (hf : ACv P f args r) (ha : xs.toList.map (ev env) = args.map .ro) :
    Pur P C ⟨some t, .call { callee := .value (.func f), args := xs, argTypes := ats }, ty, pos, after, gd⟩ env σ (.ro r) := pu_call hf (ha ▸ FitsL.ros args)
end
end Go.Proofs.Ytnecoghfhcimeaa
/- Steps of a walk: tests with what they tell, guards, weakening of a frame. Over any program. -/
namespace Go.Proofs.Ytnecoghfhcimeaa
set_option linter.unusedSimpArgs false
set_option linter.unusedVariables false
set_option linter.unusedSectionVars false
open Go.RowKit
open AV (Mem Keeps)
section
variable {P : Program} {C : Ctx} {ops : Array Oper} {rest : List Oper} {k : List Item} {R : Act → World → Prop} {env : Env} {σ : List Ob} {t : Nat} {ty : TypeId} {pos : String} {after : Array Edge}
theorem Runs.again {v : AV} (h : look env t = v) (hk : Runs P C k R ⟨(t, v) :: env, σ⟩) : Runs P C k R ⟨env, σ⟩ :=
  ⟨fun a w ⟨h1, h2, φ, h3, h4⟩ => hk.run a w ⟨h1, h2, φ, h3, fun s => by
    rw [look_put]; split
    · rename_i e; subst e; rw [← h]; exact h4 t
    · exact h4 s⟩⟩
theorem RunsL.again {l : List Oper} {v : AV} (h : look env t = v) (hk : RunsL P C ops l k R ⟨(t, v) :: env, σ⟩) : RunsL P C ops l k R ⟨env, σ⟩ :=
  ⟨fun a w ⟨h1, h2, φ, h3, h4⟩ => hk.run a w ⟨h1, h2, φ, h3, fun s => by
    rw [look_put]; split
    · rename_i e; subst e; rw [← h]; exact h4 t
    · exact h4 s⟩⟩
section
variable {x y : Code}
theorem Runs.cond_t (hc : look env t = .bool true) (h : Runs P C (.code x :: k) R ⟨env, σ⟩) : Runs P C (.code (.cond (.tmp t) x y) :: k) R ⟨env, σ⟩ := Runs.cond (b := true) hc (fun _ => h) (fun h => by cases h)
theorem Runs.cond_f (hc : look env t = .bool false) (h : Runs P C (.code y :: k) R ⟨env, σ⟩) : Runs P C (.code (.cond (.tmp t) x y) :: k) R ⟨env, σ⟩ := Runs.cond (b := false) hc (fun h => by cases h) (fun _ => h)
theorem Runs.cond_dec {φ : Prop} [Decidable φ] (hc : look env t = .bool (decide φ)) (ht : φ → Runs P C (.code x :: k) R ⟨(t, .bool true) :: env, σ⟩) (hf : ¬ φ → Runs P C (.code y :: k) R ⟨(t, .bool false) :: env, σ⟩) :
    Runs P C (.code (.cond (.tmp t) x y) :: k) R ⟨env, σ⟩ :=
  Runs.cond (b := decide φ) hc (fun h => (ht (of_decide_eq_true h)).again (by rw [hc, h])) (fun h => (hf (of_decide_eq_false h)).again (by rw [hc, h]))
theorem Runs.cond_ndec {φ : Prop} [Decidable φ] (hc : look env t = .bool (!decide φ)) (ht : ¬ φ → Runs P C (.code x :: k) R ⟨(t, .bool true) :: env, σ⟩) (hf : φ → Runs P C (.code y :: k) R ⟨(t, .bool false) :: env, σ⟩) :
    Runs P C (.code (.cond (.tmp t) x y) :: k) R ⟨env, σ⟩ :=
  Runs.cond (b := !decide φ) hc (fun h => (ht (by simpa using h)).again (by rw [hc, h])) (fun h => (hf (by simpa using h)).again (by rw [hc, h]))
end
section
variable {dst : Nat} {op : Op} {j tj : Nat} {want : Bool} {oj : Oper}
theorem RunsL.guard_t (hj : ops[j]? = some oj) (hd : oj.dst = some tj) (hb : look env tj = .bool want) (hk : RunsL P C ops (⟨some dst, op, ty, pos, after, none⟩ :: rest) k R ⟨env, σ⟩) :
    RunsL P C ops (⟨some dst, op, ty, pos, after, some (j, want)⟩ :: rest) k R ⟨env, σ⟩ := by
  refine ⟨fun a w hs => ?_⟩
  by_cases ht : dst < C.n
  · exact (RunsL.guard hj hd hb ht (fun _ => hk) (fun h => by cases want <;> simp at h)).run a w hs
  · have h := hk.run a w hs
    obtain ⟨h1, h2, φ, h3, h4⟩ := hs
    have hw : Region.wanted ⟨some dst, op, ty, pos, after, some (j, want)⟩ (yielded ops a.tmps) = true := by
      have h := h4 tj
      rw [show look (⟨env, σ⟩ : St).env tj = _ from hb] at h
      simp only [AV.rel, RV.rel, Array.getD_eq_getD_getElem?] at h
      cases he : a.tmps[tj]? with
      | none => simp [he, undef] at h
      | some v =>
        simp [he] at h
        subst h
        simp [Region.wanted, yielded, hj, hd, he]
    unfold wpList at h ⊢
    rw [if_pos (by simp [Region.wanted])] at h
    rw [if_pos hw]
    exact h
theorem RunsL.guard_b {b : Bool} (hj : ops[j]? = some oj) (hd : oj.dst = some tj) (hb : look env tj = .bool b)
    (ht : b = true → RunsL P C ops (⟨some dst, op, ty, pos, after, some (j, want)⟩ :: rest) k R ⟨(tj, .bool true) :: env, σ⟩) (hf : b = false → RunsL P C ops (⟨some dst, op, ty, pos, after, some (j, want)⟩ :: rest) k R ⟨(tj, .bool false) :: env, σ⟩) :
    RunsL P C ops (⟨some dst, op, ty, pos, after, some (j, want)⟩ :: rest) k R ⟨env, σ⟩ := by
  cases b with
  | true => exact (ht rfl).again hb
  | false => exact (hf rfl).again hb
theorem RunsL.guard_dec {φ : Prop} [Decidable φ] (hj : ops[j]? = some oj) (hd : oj.dst = some tj) (hb : look env tj = .bool (decide φ))
    (ht : φ → RunsL P C ops (⟨some dst, op, ty, pos, after, some (j, want)⟩ :: rest) k R ⟨(tj, .bool true) :: env, σ⟩) (hf : ¬ φ → RunsL P C ops (⟨some dst, op, ty, pos, after, some (j, want)⟩ :: rest) k R ⟨(tj, .bool false) :: env, σ⟩) :
    RunsL P C ops (⟨some dst, op, ty, pos, after, some (j, want)⟩ :: rest) k R ⟨env, σ⟩ :=
  RunsL.guard_b hj hd hb (fun h => ht (of_decide_eq_true h)) (fun h => hf (of_decide_eq_false h))
theorem RunsL.guard_ndec {φ : Prop} [Decidable φ] (hj : ops[j]? = some oj) (hd : oj.dst = some tj) (hb : look env tj = .bool (!decide φ))
    (ht : ¬ φ → RunsL P C ops (⟨some dst, op, ty, pos, after, some (j, want)⟩ :: rest) k R ⟨(tj, .bool true) :: env, σ⟩) (hf : φ → RunsL P C ops (⟨some dst, op, ty, pos, after, some (j, want)⟩ :: rest) k R ⟨(tj, .bool false) :: env, σ⟩) :
    RunsL P C ops (⟨some dst, op, ty, pos, after, some (j, want)⟩ :: rest) k R ⟨env, σ⟩ :=
  RunsL.guard_b hj hd hb (fun h => ht (by simpa using h)) (fun h => hf (by simpa using h))
theorem RunsL.guard_nb {b : Bool} (hj : ops[j]? = some oj) (hd : oj.dst = some tj) (hb : look env tj = .bool (!b))
    (ht : b = false → RunsL P C ops (⟨some dst, op, ty, pos, after, some (j, want)⟩ :: rest) k R ⟨(tj, .bool true) :: env, σ⟩) (hf : b = true → RunsL P C ops (⟨some dst, op, ty, pos, after, some (j, want)⟩ :: rest) k R ⟨(tj, .bool false) :: env, σ⟩) :
    RunsL P C ops (⟨some dst, op, ty, pos, after, some (j, want)⟩ :: rest) k R ⟨env, σ⟩ :=
  RunsL.guard_b hj hd hb (fun h => ht (by simpa using h)) (fun h => hf (by simpa using h))
end
def Sub : Env → Env → Prop
  | [], _ => True
  | (t, v) :: e, env => look env t = v ∧ Sub e env
theorem Sub.look {e env : Env} (h : Sub e env) (t : Nat) : look e t = .junk ∨ look e t = Proofs.Ytnecoghfhcimeaa.look env t := by
  induction e with
  | nil => exact .inl rfl
  | cons p e ih =>
    obtain ⟨s, v⟩ := p
    simp only [Sub] at h
    rw [look_put]
    split
    · rename_i e; subst e; exact .inr h.1.symm
    · exact ih h.2
theorem Runs.keep (env' : Env) (h : Sub env' env) (hk : Runs P C k R ⟨env', σ⟩) : Runs P C k R ⟨env, σ⟩ :=
  ⟨fun a w ⟨h1, h2, φ, h3, h4⟩ => hk.run a w ⟨h1, h2, φ, h3, fun s => by
    rcases h.look s with e | e
    · show AV.rel _ (Proofs.Ytnecoghfhcimeaa.look env' s) _
      rw [e]; simp [AV.rel]
    · show AV.rel _ (Proofs.Ytnecoghfhcimeaa.look env' s) _
      rw [e]; exact h4 s⟩⟩
def Free (n : Nat) : Env → Prop
  | [] => True
  | (_, v) :: e => v.only (fun i => i < n) ∧ Free n e
def FreeO (n : Nat) : List Ob → Prop
  | [] => True
  | o :: os => AV.onlys (fun i => i < n) o.cs ∧ FreeO n os
theorem Free.look {n : Nat} {env : Env} (h : Free n env) (t : Nat) : (look env t).only fun i => i < n := by
  induction env with
  | nil => simp [Proofs.Ytnecoghfhcimeaa.look, AV.only]
  | cons p e ih =>
    obtain ⟨s, v⟩ := p
    simp only [Free] at h
    rw [look_put]
    split
    · exact h.1
    · exact ih h.2
theorem FreeO.at_ {n : Nat} : ∀ {os : List Ob}, FreeO n os → ∀ (i : Nat) o, os[i]? = some o → AV.onlys (fun i => i < n) o.cs
  | [], _, i, o, hi => by simp at hi
  | o :: os, h, i, o', hi => by
    simp only [FreeO] at h
    cases i with
    | zero => simp at hi; subst hi; exact h.1
    | succ i => exact FreeO.at_ h.2 i o' (by simpa using hi)
theorem onlys_mem {p : Nat → Prop} : ∀ {vs : List AV}, AV.onlys p vs → ∀ (j : Nat) v, vs[j]? = some v → v.only p
  | [], _, j, v, hj => by simp at hj
  | x :: xs, h, j, v, hj => by
    simp only [AV.onlys] at h
    cases j with
    | zero => simp at hj; subst hj; exact h.1
    | succ j => exact onlys_mem h.2 j v (by simpa using hj)
theorem Runs.drop {more : List Ob} (hf : Free σ.length env) (ho : FreeO σ.length σ) (hk : Runs P C k R ⟨env, σ⟩) : Runs P C k R ⟨env, σ ++ more⟩ := by
  refine ⟨fun a w ⟨h1, h2, φ, h3, h4⟩ => ?_⟩
  have hK : Keeps (fun i => i < σ.length) ⟨w, φ, σ ++ more, C.ok⟩ ⟨w, φ, σ, C.ok⟩ := by
    refine ⟨⟨Nat.le_refl _, fun b _ hb => ⟨⟨hb.1, fun i hi e => hb.2 i (by simp only [List.length_append]; simp only at hi; omega) e⟩, rfl⟩⟩, fun i hi _ => ⟨hi, rfl⟩, fun i ob hi ho => ⟨ob.cs, ?_, rfl⟩, fun i g us t _ _ _ hh => ⟨us, hh, rfl⟩⟩
    show σ[i]? = _
    rw [← List.getElem?_append_left hi (l₂ := more)]; exact ho
  refine hk.run a w ⟨h1, h2, φ, ⟨rfl, fun i j g hi hj => h3.inj i j g (by simp only [List.length_append]; simp only at hi; omega) (by simp only [List.length_append]; simp only at hj; omega), fun i o hi => ?_, fun i g hi hg => h3.mine i g (by simp only [List.length_append]; simp only at hi; omega) hg, h3.frm⟩, fun t => AV.rel_keeps hK _ _ (hf.look t) (h4 t)⟩
  have hil : i < σ.length := (List.getElem?_eq_some_iff.1 hi).1
  have h := h3.ob i o (by show (σ ++ more)[i]? = _; rw [List.getElem?_append_left hil]; exact hi)
  simp only at h ⊢
  cases hg : φ i with
  | none => rw [hg] at h; exact h
  | some g =>
    rw [hg] at h
    obtain ⟨us, q1, q2, q3⟩ := h
    refine ⟨us, q1, q2, fun j v hj => ?_⟩
    obtain ⟨u, e1, e2, e3⟩ := q3 j v hj
    exact ⟨u, e1, e2, AV.rel_keeps hK _ _ (onlys_mem (ho.at_ i o hi) j v hj) e3⟩
end
end Go.Proofs.Ytnecoghfhcimeaa
/- One step for the plain operations: what an operation yields is reckoned by a function. Over any program. -/
namespace Go.Proofs.Ytnecoghfhcimeaa
set_option linter.unusedSimpArgs false
set_option linter.unusedVariables false
set_option linter.unusedSectionVars false
open Go.RowKit
open AV (Mem Keeps)
def ctl : List Item → Option (List Item)
  | .code c :: k => match c with
    | .seq x y => some (.code x :: .code y :: k)
    | .skip => some k
    | .block id c => some (.code c :: .inBlock id :: k)
    | .exit id => exitTo id k
    | .label _ => some k
    | .scope c => some (.code c :: .inScope c :: k)
    | _ => none
  | .inBlock _ :: k => some k
  | .inScope _ :: k => some k
  | _ => none
def ctls : Nat → List Item → List Item
  | 0, k => k
  | n + 1, k => match ctl k with
    | some k' => ctls n k'
    | none => k
section
variable {P : Program} {C : Ctx} {k : List Item} {R : Act → World → Prop} {S : St}
theorem Runs.ctl {k' : List Item} (h : ctl k = some k') (hk : Runs P C k' R S) : Runs P C k R S := by
  unfold Proofs.Ytnecoghfhcimeaa.ctl at h
  split at h
  · rename_i c k0
    split at h
    · injection h with h; subst h; exact Runs.seq hk
    · injection h with h; subst h; exact Runs.skip hk
    · injection h with h; subst h; exact Runs.block hk
    · exact Runs.exit h hk
    · injection h with h; subst h; exact Runs.label hk
    · injection h with h; subst h; exact Runs.scope hk
    · cases h
  · injection h with h; subst h; exact Runs.inBlock hk
  · injection h with h; subst h; exact Runs.inScope hk
  · cases h
theorem Runs.ctls {k' : List Item} (n : Nat) (h : ctls n k = k') (hk : Runs P C k' R S) : Runs P C k R S := by
  induction n generalizing k with
  | zero => simp only [Proofs.Ytnecoghfhcimeaa.ctls] at h; subst h; exact hk
  | succ n ih =>
    simp only [Proofs.Ytnecoghfhcimeaa.ctls] at h
    split at h
    · rename_i k1 h1; exact Runs.ctl h1 (ih h)
    · subst h; exact hk
theorem Runs.toRegion {id : Nat} {l : List Oper} {k' : List Item} (n : Nat) (h : Proofs.Ytnecoghfhcimeaa.ctls n k = .code (.region id l.toArray false) :: k') (hk : RunsL P C l.toArray l k' R S) : Runs P C k R S :=
  Runs.ctls n h (Runs.region hk)
end
structure Tab where
  fa : List (Nat × List Nat)
  one : List Nat
  agg : List (Nat × Nat)
  sl : List Nat
  str : List Nat
  bl : List Nat
def alook {α : Type} : List (Nat × α) → Nat → Option α
  | [], _ => none
  | (k, v) :: l, t => match Nat.beq k t with
    | true => some v
    | false => alook l t
def nmem : List Nat → Nat → Bool
  | [], _ => false
  | k :: l, t => match Nat.beq k t with
    | true => true
    | false => nmem l t
theorem alook_mem {α : Type} : ∀ {l : List (Nat × α)} {t : Nat} {v : α}, alook l t = some v → (t, v) ∈ l
  | [], t, v, h => by simp [alook] at h
  | (k, u) :: l, t, v, h => by
    unfold alook at h
    split at h
    · rename_i e
      injection h with h; subst h
      have := Nat.eq_of_beq_eq_true e; subst this
      simp
    · exact List.mem_cons_of_mem _ (alook_mem h)
theorem nmem_mem : ∀ {l : List Nat} {t : Nat}, nmem l t = true → t ∈ l
  | [], t, h => by simp [nmem] at h
  | k :: l, t, h => by
    unfold nmem at h
    split at h
    · rename_i e
      have := Nat.eq_of_beq_eq_true e; subst this
      simp
    · exact List.mem_cons_of_mem _ (nmem_mem h)
def faB (P : Program) (s f off : Nat) : Bool := match P.underlying s with
  | some (.struct fs) => match fs[f]? with
    | some d => decide (d.offset = off) && (match P.info? d.type with | some i => decide (i.size ≠ 0) | none => false)
    | none => false
  | _ => false
def oneB (P : Program) (t : Nat) : Bool := match P.underlying t with
  | some (.struct _) | some (.array _ _) | none => false
  | _ => match P.info? t with | some i => decide (i.size = 1) | none => false
def aggB (P : Program) (t n : Nat) : Bool := match P.underlying t with
  | some (.struct _) | some (.array _ _) => match P.info? t with | some i => decide (i.size = n) | none => false
  | _ => false
def fasB (P : Program) (s : Nat) : Nat → List Nat → Bool
  | _, [] => true
  | f, off :: l => faB P s f off && fasB P s (f + 1) l
def slB (P : Program) (t : Nat) : Bool := match P.underlying t with | some (.slice _) => true | _ => false
def blB (P : Program) (t : Nat) : Bool := match P.underlying t with | some .bool => true | _ => false
def strB (P : Program) (t : Nat) : Bool := match P.underlying t with | some .string => true | _ => false
structure TabOk (P : Program) (T : Tab) : Prop where
  fa : (T.fa.all fun p => fasB P p.1 0 p.2) = true
  one : (T.one.all fun t => oneB P t) = true
  agg : (T.agg.all fun p => aggB P p.1 p.2) = true
  sl : (T.sl.all fun t => slB P t) = true
  str : (T.str.all fun t => strB P t) = true
  bl : (T.bl.all fun t => blB P t) = true
def Tab.field (T : Tab) (s f : Nat) : Option Nat := match alook T.fa s with
  | some offs => offs[f]?
  | none => none
theorem fasB_at {P : Program} {s : Nat} : ∀ (l : List Nat) (k f off : Nat), fasB P s k l = true → l[f]? = some off → faB P s (k + f) off = true
  | [], k, f, off, _, hf => by simp at hf
  | o :: l, k, f, off, h, hf => by
    simp only [fasB, Bool.and_eq_true] at h
    cases f with
    | zero => simp at hf; subst hf; exact h.1
    | succ f => simp at hf; have := fasB_at l (k + 1) f off h.2 hf; rwa [show k + 1 + f = k + (f + 1) by omega] at this
theorem TabOk.field {P : Program} {T : Tab} (h : TabOk P T) {s f off : Nat} (hf : T.field s f = some off) : FA P s f off := by
  unfold Tab.field at hf
  split at hf
  · rename_i offs ho
    have h1 := List.all_eq_true.1 h.fa _ (alook_mem ho)
    have := fasB_at offs 0 f off h1 hf
    rw [Nat.zero_add] at this
    exact ⟨this⟩
  · cases hf
theorem TabOk.one1 {P : Program} {T : Tab} (h : TabOk P T) {t : Nat} (ht : nmem T.one t = true) : T1 P t := ⟨List.all_eq_true.1 h.one _ (nmem_mem ht)⟩
theorem TabOk.aggN {P : Program} {T : Tab} (h : TabOk P T) {t n : Nat} (ht : alook T.agg t = some n) : TN P t n := ⟨List.all_eq_true.1 h.agg _ (alook_mem ht)⟩
theorem TabOk.slice {P : Program} {T : Tab} (h : TabOk P T) {t : Nat} (ht : nmem T.sl t = true) : ∃ e, P.underlying t = some (.slice e) := by
  have := List.all_eq_true.1 h.sl _ (nmem_mem ht)
  unfold slB at this
  split at this
  · rename_i e he; exact ⟨e, he⟩
  · cases this
theorem TabOk.string {P : Program} {T : Tab} (h : TabOk P T) {t : Nat} (ht : nmem T.str t = true) : TS P t := by
  have := List.all_eq_true.1 h.str _ (nmem_mem ht)
  unfold strB at this
  split at this
  · rename_i he; exact ⟨he⟩
  · cases this
theorem TabOk.bool {P : Program} {T : Tab} (h : TabOk P T) {t : Nat} (ht : nmem T.bl t = true) : P.underlying t = some .bool := by
  have := List.all_eq_true.1 h.bl _ (nmem_mem ht)
  unfold blB at this
  split at this
  · rename_i he; exact he
  · cases this
def force : AV → Option AV
  | .ro r => match r with
    | .c v => some (.ro (.c v))
    | .agg cs => some (.ro (.agg cs))
    | .seq sz els => some (.ro (.seq sz els))
    | .rp cs => some (.ro (.rp cs))
    | .tup vs => some (.ro (.tup vs))
    | .ifc t v => some (.ro (.ifc t v))
  | .obj i o => some (.obj i o)
  | .pin i o g => some (.pin i o g)
  | .own i => some (.own i)
  | .agg cs => some (.agg cs)
  | .tup vs => some (.tup vs)
  | .fn f a b => some (.fn f a b)
  | .junk => none
theorem force_eq {v v' : AV} (h : force v = some v') : v' = v := by
  unfold force at h
  split at h
  · split at h <;> (injection h with h; exact h.symm)
  all_goals first | (injection h with h; exact h.symm) | cases h
def allRo : List AV → Option (List RV)
  | [] => some []
  | v :: vs => match v with
    | .ro r => match allRo vs with
      | some rs => some (r :: rs)
      | none => none
    | _ => none
theorem allRo_eq : ∀ {vs : List AV} {rs : List RV}, allRo vs = some rs → vs = rs.map .ro
  | [], rs, h => by simp [allRo] at h; subst h; rfl
  | v :: vs, rs, h => by
    unfold allRo at h
    split at h
    · split at h
      · rename_i rs' h'
        injection h with h; subst h
        simp [allRo_eq h']
      · cases h
    · cases h
def aLoad (T : Tab) (σ : List Ob) (t : TypeId) : AV → Option AV
  | .obj i off => match σ[i]? with
    | some o => match nmem T.one t with
      | true => match o.cs[off]? with
        | some v => force v
        | none => none
      | false => match alook T.agg t with
        | some n => match off, allRo o.cs with
          | 0, some rs => match Nat.beq rs.length n with
            | true => some (.ro (.agg rs))
            | false => none
          | _, _ => match Nat.ble (off + n) o.cs.length with
            | true => some (.agg ((o.cs.drop off).take n))
            | false => none
        | none => none
    | none => none
  | .ro (.rp cs) => match nmem T.one t with
    | true => match cs with
      | r :: _ => force (.ro r)
      | [] => none
    | false => match alook T.agg t with
      | some n => match Nat.beq cs.length n with
        | true => some (.ro (.agg cs))
        | false => none
      | none => none
  | _ => none
def aCmp (op : BinOp) (p q : Int) : Option AV := match op with
  | .lss => some (.bool (decide (p < q)))
  | .leq => some (.bool (decide (p ≤ q)))
  | .gtr => some (.bool (decide (q < p)))
  | .geq => some (.bool (decide (q ≤ p)))
  | .eql => some (.bool (decide (p = q)))
  | .neq => some (.bool (!decide (p = q)))
  | _ => none
def aBin (T : Tab) (op : BinOp) (t : TypeId) : AV → AV → Option AV
  | .ro (.c u), .ro (.c v) => match u, v with
    | .int kd p, .int kd' q => if kd = kd' then aCmp op p q else none
    | .string p, .string q => match op with
      | .eql => some (.bool (p.toList == q.toList))
      | .neq => some (.bool (!(p.toList == q.toList)))
      | _ => none
    | .bool p, .bool q => match nmem T.bl t with
      | true => match op with
        | .eql => some (.bool (p == q))
        | .neq => some (.bool (!(p == q)))
        | _ => none
      | false => none
    | _, _ => none
  | _, _ => none
def aLen (T : Tab) (t : TypeId) : AV → Option AV
  | .ro (.seq _ els) => match nmem T.sl t with
    | true => some (.int (els.length : Int))
    | false => none
  | .ro (.c (.string s)) => match nmem T.str t with
    | true => some (.int (s.size : Int))
    | false => none
  | .ro (.c (.slice none 0 0)) => match nmem T.sl t with
    | true => some (.int 0)
    | false => none
  | _ => none
def aop (T : Tab) (env : Env) (σ : List Ob) : Op → Option AV
  | .move x => force (ev env x)
  | .assign x => force (ev env x)
  | .pick c x y => match ev env c with
    | .ro (.c (.bool b)) => match b with
      | true => force (ev env x)
      | false => force (ev env y)
    | _ => none
  | .fieldAddr s x f => match T.field s f with
    | some off => match ev env x with
      | .obj i o => some (.obj i (o + off))
      | .pin i o _ => some (.obj i (o + off))
      | .ro (.rp cs) => some (.ro (.rp (cs.drop off)))
      | _ => none
    | none => none
  | .load t x => aLoad T σ t (ev env x)
  | .binOp op t x y _ => aBin T op t (ev env x) (ev env y)
  | .unOp .not _ x => match ev env x with
    | .ro (.c (.bool b)) => some (.bool (!b))
    | _ => none
  | .extract x j => match ev env x with
    | .tup vs => match vs[j]? with
      | some v => force v
      | none => none
    | .ro (.tup vs) => match vs[j]? with
      | some r => force (.ro r)
      | none => none
    | _ => none
  | .call c => match c.callee with
    | .builtin .len => match c.args.toList, c.argTypes.toList with
      | [x], [t] => aLen T t (ev env x)
      | _, _ => none
    | _ => none
  | _ => none
section
variable {P : Program} {C : Ctx} {ops : Array Oper} {rest : List Oper} {k : List Item} {R : Act → World → Prop} {env : Env} {σ : List Ob} {t : Nat} {ty : TypeId} {pos : String} {after : Array Edge} {gd : Option (Nat × Bool)}
theorem pu_load_auto {T : Tab} (hT : TabOk P T) {tt : TypeId} {x : Operand} {v : AV} (h : aLoad T σ tt (ev env x) = some v) : Pur P C ⟨some t, .load tt x, ty, pos, after, gd⟩ env σ v := by
  generalize hx : ev env x = e at h
  unfold aLoad at h
  split at h
  · rename_i i off
    split at h
    · rename_i o ho
      split at h
      · rename_i h1
        split at h
        · rename_i v' hv
          obtain rfl := force_eq h
          have := hT.one1 h1
          exact pu_load_obj hx ho hv
        · cases h
      · split at h
        · rename_i n hn
          have := hT.aggN hn
          split at h
          · rename_i rs hrs
            split at h
            · rename_i hl
              injection h with h; subst h
              exact pu_loadN_objR hx ho (allRo_eq hrs) (Nat.eq_of_beq_eq_true hl)
            · cases h
          · split at h
            · rename_i hl
              injection h with h; subst h
              exact pu_loadN_obj hx ho (Nat.le_of_ble_eq_true hl)
            · cases h
        · cases h
    · cases h
  · rename_i cs
    split at h
    · rename_i h1
      split at h
      · obtain rfl := force_eq h
        have := hT.one1 h1
        exact pu_load_ro hx
      · cases h
    · split at h
      · rename_i n hn
        have := hT.aggN hn
        split at h
        · rename_i hl
          injection h with h; subst h
          exact pu_loadN_ro hx (Nat.eq_of_beq_eq_true hl)
        · cases h
      · cases h
  · cases h
theorem pu_bin_auto {T : Tab} (hT : TabOk P T) {op : BinOp} {xt yt : TypeId} {x y : Operand} {v : AV} (h : aBin T op xt (ev env x) (ev env y) = some v) : Pur P C ⟨some t, .binOp op xt x y yt, ty, pos, after, gd⟩ env σ v := by
  generalize hx : ev env x = e at h
  generalize hy : ev env y = e' at h
  unfold aBin at h
  split at h
  · split at h
    · split at h
      · rename_i hk
        subst hk
        unfold aCmp at h
        split at h
        · injection h with h; subst h; exact pu_lss hx hy
        · injection h with h; subst h; exact pu_leq hx hy
        · injection h with h; subst h; exact pu_gtr hx hy
        · injection h with h; subst h; exact pu_geq hx hy
        · injection h with h; subst h; exact pu_eql hx hy
        · injection h with h; subst h; exact pu_neq hx hy
        · cases h
      · cases h
    · split at h
      · injection h with h; subst h; exact pu_eqlS hx hy
      · injection h with h; subst h; exact pu_neqS hx hy
      · cases h
    · split at h
      · rename_i hb
        have hb := hT.bool hb
        split at h
        · injection h with h; subst h; exact pu_bin hx hy (fun w => by simp [eqGuard_at_bool, run_eql_bool _ _ _ _ hb])
        · injection h with h; subst h; exact pu_bin hx hy (fun w => by simp [eqGuard_at_bool, binOp, run_equal_bool _ _ _ _ hb])
        · cases h
      · cases h
    · cases h
  · cases h
theorem pu_len_auto {T : Tab} (hT : TabOk P T) {tt : TypeId} {x : Operand} {v : AV} (h : aLen T tt (ev env x) = some v) : Pur P C ⟨some t, .call { callee := .builtin .len, args := #[x], argTypes := #[tt] }, ty, pos, after, gd⟩ env σ v := by
  generalize hx : ev env x = e at h
  unfold aLen at h
  split at h
  · rename_i sz els
    split at h
    · rename_i hs
      injection h with h; subst h
      obtain ⟨el, he⟩ := hT.slice hs
      refine Pur.of fun a m hG hσ hH => ?_
      have h := hH x (by simp [Op.operands, Call.operands])
      rw [hx] at h
      simp only [AV.rel, RV.rel] at h
      obtain ⟨A, n, cp, ea, hn, h1, h2, h3⟩ := h
      exact ⟨.int .i64 (els.length : Int), by simp [execOp, resolve, invoke, builtin, ea, Builtin.len_, run_underlying he, goInt, hn], by simp [AV.rel, RV.rel]⟩
    · cases h
  · split at h
    · rename_i hs
      injection h with h; subst h
      have := hT.string hs
      exact pu_lenS hx
    · cases h
  · split at h
    · rename_i hs
      injection h with h; subst h
      obtain ⟨el, he⟩ := hT.slice hs
      exact Pur.of fun a m hG hσ hH => ⟨.int .i64 0, by simp [execOp, resolve, invoke, builtin, ev_c (hH x (by simp [Op.operands, Call.operands])) hx, Builtin.len_, run_underlying he, goInt], by simp [AV.rel, RV.rel]⟩
    · cases h
  · cases h
theorem pu_auto {T : Tab} (hT : TabOk P T) {op : Op} {v : AV} (h : aop T env σ op = some v) : Pur P C ⟨some t, op, ty, pos, after, gd⟩ env σ v := by
  unfold aop at h
  split at h
  · exact pu_move (force_eq h).symm
  · exact pu_assign (force_eq h).symm
  · rename_i c x y
    split at h
    · rename_i b hc
      split at h
      · exact pu_pick_t hc (force_eq h).symm
      · exact pu_pick_f hc (force_eq h).symm
    · cases h
  · rename_i s x f
    split at h
    · rename_i off hf
      have := hT.field hf
      split at h
      · rename_i hx
        injection h with h; subst h
        exact pu_fieldAddr_obj hx
      · rename_i hx
        injection h with h; subst h
        exact pu_fieldAddr_pin hx
      · rename_i hx
        injection h with h; subst h
        exact pu_fieldAddr_ro hx
      · cases h
    · cases h
  · exact pu_load_auto hT h
  · exact pu_bin_auto hT h
  · split at h
    · rename_i hx
      injection h with h; subst h
      exact pu_not hx
    · cases h
  · split at h
    · rename_i hx
      split at h
      · rename_i hj
        obtain rfl := force_eq h
        exact pu_extract hx hj
      · cases h
    · rename_i hx
      split at h
      · rename_i hj
        obtain rfl := force_eq h
        exact pu_extract_ro hx hj
      · cases h
    · cases h
  · rename_i c
    obtain ⟨callee, args, ats⟩ := c
    simp only at h
    split at h
    · obtain ⟨args⟩ := args
      obtain ⟨ats⟩ := ats
      simp only at h
      split at h
      · exact pu_len_auto hT h
      · cases h
    · cases h
  · cases h
theorem op_storeF {tt : TypeId} {x y : Operand} {i off : Nat} {o : Ob} {v : AV} [T1 P tt] (hx : ev env x = .obj i off) (hy : force (ev env y) = some v) (h1 : v.one = true) (ho : σ[i]? = some o) (hlt : off < o.cs.length)
    (hk : RunsL P C ops rest k R ⟨env, σ.set i ⟨o.t, o.sz, o.cs.set off v⟩⟩) : RunsL P C ops (⟨none, .store tt x y, ty, pos, after, none⟩ :: rest) k R ⟨env, σ⟩ :=
  op_store hx (force_eq hy).symm h1 ho hlt hk
def gsayE (ops : Array Oper) (E : Nat → AV) : Option (Nat × Bool) → Option Bool
  | none => some true
  | some (j, want) => match ops[j]? with
    | some oj => match oj.dst with
      | some tj => match E tj with
        | .ro (.c u) => match u with
          | .bool b => match b, want with
            | true, true => some true
            | false, false => some true
            | true, false => some false
            | false, true => some false
          | .tuple l => match l with
            | ⟨[]⟩ => some false
            | _ => none
          | _ => none
        | _ => none
      | none => none
    | none => none
abbrev gsay (ops : Array Oper) (env : Env) (g : Option (Nat × Bool)) : Option Bool := gsayE ops (look env) g
def astep (T : Tab) (ops : Array Oper) (n : Nat) (env : Env) (σ : List Ob) : List Oper → Option (List Oper × Env)
  | [] => none
  | o :: rest => match o.dst with
    | none => none
    | some t => match Nat.ble (t + 1) n with
      | false => none
      | true => match gsay ops env o.guard with
        | some true => match aop T env σ o.op with
          | some v => some (rest, (t, v) :: env)
          | none => match o.guard with
            | some _ => some (⟨o.dst, o.op, o.type, o.pos, o.after, none⟩ :: rest, env)
            | none => none
        | some false => some (rest, (t, .ro (.c undef)) :: env)
        | none => none
theorem gsay_yes {E : Nat → AV} {g : Option (Nat × Bool)} {dst : Option Tmp} {op : Op} {ty : TypeId} {pos : String} {after : Array Edge} (h : gsayE ops E g = some true) (a : Act) (m : Mem) (hH : ∀ t, AV.rel m (E t) (a.tmps.getD t undef)) : Region.wanted ⟨dst, op, ty, pos, after, g⟩ (yielded ops a.tmps) = true := by
  unfold gsayE at h
  split at h
  · simp [Region.wanted]
  · rename_i j want
    split at h
    · rename_i oj hj
      split at h
      · rename_i tj hd
        split at h
        · rename_i u hl
          have hh := hH tj
          rw [hl] at hh
          simp only [AV.rel, RV.rel, Array.getD_eq_getD_getElem?] at hh
          split at h
          · rename_i b
            cases he : a.tmps[tj]? with
            | none => simp [he, undef] at hh
            | some v =>
              simp [he] at hh; subst hh
              cases b <;> cases want <;> simp_all [Region.wanted, yielded]
          · split at h <;> cases h
          · cases h
        · cases h
      · cases h
    · cases h
theorem gsay_no {E : Nat → AV} {g : Option (Nat × Bool)} {dst : Option Tmp} {op : Op} {ty : TypeId} {pos : String} {after : Array Edge} (h : gsayE ops E g = some false) (a : Act) (m : Mem) (hH : ∀ t, AV.rel m (E t) (a.tmps.getD t undef)) : Region.wanted ⟨dst, op, ty, pos, after, g⟩ (yielded ops a.tmps) = false := by
  unfold gsayE at h
  split at h
  · cases h
  · rename_i j want
    split at h
    · rename_i oj hj
      split at h
      · rename_i tj hd
        split at h
        · rename_i u hl
          have hh := hH tj
          rw [hl] at hh
          simp only [AV.rel, RV.rel, Array.getD_eq_getD_getElem?] at hh
          split at h
          · rename_i b
            cases he : a.tmps[tj]? with
            | none => simp [he, undef] at hh
            | some v =>
              simp [he] at hh; subst hh
              cases b <;> cases want <;> simp_all [Region.wanted, yielded]
          · split at h
            · rename_i l
              cases he : a.tmps[tj]? with
              | none => simp [Region.wanted, yielded, hj, hd, he]
              | some v =>
                simp [he] at hh; subst hh
                simp [Region.wanted, yielded, hj, hd, he]
            · cases h
          · cases h
        · cases h
      · cases h
    · cases h
theorem RunsL.step {T : Tab} (hT : TabOk P T) {n : Nat} (hn : C.n = n) {l l' : List Oper} {env' : Env} (h : astep T ops n env σ l = some (l', env')) (hk : RunsL P C ops l' k R ⟨env', σ⟩) : RunsL P C ops l k R ⟨env, σ⟩ := by
  unfold astep at h
  split at h
  · cases h
  · rename_i o rest
    obtain ⟨dst, op, ty, pos, after, g⟩ := o
    simp only at h
    split at h
    · cases h
    · rename_i t
      split at h
      · cases h
      · rename_i ht
        have ht' : t < C.n := Nat.lt_of_lt_of_eq (Nat.le_of_ble_eq_true ht) hn.symm
        split at h
        · rename_i hg
          refine RunsL.wanted (fun a m hH => gsay_yes hg a m hH) ?_
          split at h
          · rename_i v hv
            injection h with h; injection h with h1 h2; subst h1; subst h2
            exact RunsL.pur (pu_auto hT hv) rfl rfl ht' hk
          · split at h
            · injection h with h; injection h with h1 h2; subst h1; subst h2
              exact hk
            · cases h
        · rename_i hg
          injection h with h; injection h with h1 h2; subst h1; subst h2
          exact RunsL.unwanted rfl ht' (fun a m hH => gsay_no hg a m hH) hk
        · cases h
end
end Go.Proofs.Ytnecoghfhcimeaa
/- Regions that draw their order, whose operations are pure: one walk in the order of the text serves every order. Over any program. -/
namespace Go.Proofs.Ytnecoghfhcimeaa
set_option linter.unusedSimpArgs false
set_option linter.unusedVariables false
set_option linter.unusedSectionVars false
open Go.RowKit
open AV (Mem Keeps)
abbrev EE := Nat → AV
def putE (E : EE) (d : Option Nat) (v : AV) : EE := match d with
  | some t => fun k => if t = k then v else E k
  | none => E
def evE (E : EE) : Operand → AV
  | .tmp t => E t
  | .const v => match v with
    | .agg cs => .ro (.agg (cs.toList.map .c))
    | v => .ro (.c v)
  | .func f => .fn (.func f) [] []
  | .global _ => .junk
theorem ev_evE (env : Env) (x : Operand) : ev env x = evE (look env) x := by cases x <;> rfl
theorem look_putE (env : Env) (t : Nat) (v : AV) : look ((t, v) :: env) = putE (look env) (some t) v := by
  funext k; rfl
theorem putE_comm {E : EE} {x y : Option Nat} {u v : AV} (h : ∀ d, x = some d → y ≠ some d) : putE (putE E x u) y v = putE (putE E y v) x u := by
  cases x <;> cases y <;> simp only [putE]
  rename_i s t
  have hst : t ≠ s := fun e => h s rfl (by rw [e])
  funext k
  by_cases h1 : t = k <;> by_cases h2 : s = k <;> simp_all
theorem evE_put {E : EE} {d : Option Nat} {v : AV} {x : Operand} (h : ∀ t, d = some t → x ≠ .tmp t) : evE (putE E d v) x = evE E x := by
  cases d with
  | none => rfl
  | some t =>
    cases x with
    | tmp s =>
      have : t ≠ s := fun e => h t rfl (by rw [e])
      simp [evE, putE, this]
    | const c => cases c <;> rfl
    | _ => rfl
def PurF (P : Program) (C : Ctx) (o : Oper) (E : EE) (σ : List Ob) (v : AV) : Prop :=
  ∀ (a : Act) (m : Mem), Good C m → m.σ = σ → (∀ x, x ∈ o.op.operands → AV.rel m (evE E x) (a.eval x)) → ∀ (K : Act → World → Prop) (Q : Exit → Act → World → Prop),
    (∀ u w', Below m.w.heap.size m.w w' → AV.rel { m with w := w' } v u → K (a.put o.dst u) w') → o.wp P a m.w K Q
section
variable {P : Program} {C : Ctx} {ops : Array Oper} {σ : List Ob} {md : Region.Mode}
theorem Pur.toF {o : Oper} {env : Env} {v : AV} (h : Pur P C o env σ v) : PurF P C o (look env) σ v :=
  fun a m hG hσ hH => h.run a m hG hσ fun x hx => by rw [ev_evE]; exact hH x hx
theorem PurF.congr {o : Oper} {E E' : EE} {v : AV} (h : PurF P C o E σ v) (he : ∀ x ∈ o.op.operands, evE E' x = evE E x) : PurF P C o E' σ v :=
  fun a m hG hσ hH => h a m hG hσ fun x hx => by rw [← he x hx]; exact hH x hx
theorem mem_looks_op {o : Oper} {d : Nat} (h : d ∉ o.looksAt ops) : ∀ x ∈ o.op.operands, x ≠ .tmp d := by
  rintro x hx rfl
  refine h ?_
  unfold Oper.looksAt
  refine List.mem_append.2 (.inl ?_)
  rw [List.mem_filterMap]
  exact ⟨.tmp d, by simpa using hx, rfl⟩
theorem gsay_put {o : Oper} {E : EE} {d : Option Nat} {v : AV} (h : ∀ t, d = some t → t ∉ o.looksAt ops) : gsayE ops (putE E d v) o.guard = gsayE ops E o.guard := by
  cases d with
  | none => rfl
  | some t =>
    have hl := h t rfl
    cases hg : o.guard with
    | none => rfl
    | some g =>
      obtain ⟨j, want⟩ := g
      unfold gsayE
      cases hj : ops[j]? with
      | none => simp [hj]
      | some oj =>
        cases hd : oj.dst with
        | none => simp [hj, hd]
        | some tj =>
          have : t ≠ tj := by
            rintro rfl
            refine hl ?_
            unfold Oper.looksAt
            refine List.mem_append.2 (.inr ?_)
            simp [hg, hj, hd]
          simp [hj, hd, putE, this]
def aOp (P : Program) (C : Ctx) (ops : Array Oper) (σ : List Ob) (i : Nat) (K : EE → Prop) (E : EE) : Prop :=
  match ops[i]? with
  | none => K E
  | some o => match gsayE ops E o.guard with
    | some true => ∃ v, PurF P C o E σ v ∧ K (putE E o.dst v)
    | some false => K (putE E o.dst (.ro (.c undef)))
    | none => False
theorem aOp_mono {i : Nat} {E : EE} {K K' : EE → Prop} (h : ∀ E, K E → K' E) (hh : aOp P C ops σ i K E) : aOp P C ops σ i K' E := by
  unfold aOp at *
  split
  · rename_i ho; simp only [ho] at hh; exact h _ hh
  · rename_i o ho
    simp only [ho] at hh
    split
    · rename_i hg; simp only [hg] at hh; obtain ⟨v, h1, h2⟩ := hh; exact ⟨v, h1, h _ h2⟩
    · rename_i hg; simp only [hg] at hh; exact h _ hh
    · rename_i hg; simp only [hg] at hh
def wpAnyE (P : Program) (C : Ctx) (md : Region.Mode) (ops : Array Oper) (σ : List Ob) (Q : EE → Prop) : Nat → Array Bool → EE → Prop
  | 0, listed, E => Region.ready md ops listed = [] ∧ Q E
  | fuel + 1, listed, E =>
    (Region.ready md ops listed = [] → Q E) ∧
    ∀ i ∈ Region.ready md ops listed, aOp P C ops σ i (wpAnyE P C md ops σ Q fuel (listed.setIfInBounds i true)) E
def Yields (P : Program) (C : Ctx) (ops : Array Oper) (σ : List Ob) (o : Oper) (v : AV) (E : EE) : Prop :=
  (gsayE ops E o.guard = some true ∧ PurF P C o E σ v) ∨ (gsayE ops E o.guard = some false ∧ v = .ro (.c undef))
theorem Yields.aOp {i : Nat} {o : Oper} {v : AV} {E : EE} (hi : ops[i]? = some o) (hy : Yields P C ops σ o v E) {K : EE → Prop} (h : K (putE E o.dst v)) : aOp P C ops σ i K E := by
  unfold Proofs.Ytnecoghfhcimeaa.aOp
  simp only [hi]
  rcases hy with ⟨hw, hv⟩ | ⟨hw, rfl⟩
  · simp only [hw]; exact ⟨v, hv, h⟩
  · simp only [hw]; exact h
theorem yields_of_aOp {i : Nat} {o : Oper} {E : EE} {K : EE → Prop} (hi : ops[i]? = some o) (h : aOp P C ops σ i K E) : ∃ v, Yields P C ops σ o v E ∧ K (putE E o.dst v) := by
  unfold aOp at h
  simp only [hi] at h
  split at h
  · rename_i hg; obtain ⟨v, h1, h2⟩ := h; exact ⟨v, .inl ⟨hg, h1⟩, h2⟩
  · rename_i hg; exact ⟨_, .inr ⟨hg, rfl⟩, h⟩
  · exact h.elim
theorem Yields.put {oi oj : Oper} {v u : AV} {E : EE} (hy : Yields P C ops σ oi v E) (h3 : ∀ d, oj.dst = some d → d ∉ oi.looksAt ops) : Yields P C ops σ oi v (putE E oj.dst u) := by
  unfold Yields at *
  rw [gsay_put h3]
  rcases hy with ⟨hw, hv⟩ | hy
  · exact .inl ⟨hw, hv.congr fun x hx => evE_put fun t ht => mem_looks_op (h3 t ht) x hx⟩
  · exact .inr hy
theorem aOp_put {j : Nat} {oi oj : Oper} {v : AV} (hj : ops[j]? = some oj) (hap : oi.apart ops oj = true) {K : EE → Prop} {E : EE} (hy : Yields P C ops σ oi v E) (h : aOp P C ops σ j K (putE E oi.dst v)) :
    aOp P C ops σ j (fun E' => Yields P C ops σ oi v E' ∧ K (putE E' oi.dst v)) E := by
  obtain ⟨h1, h2, h3⟩ := Oper.apart_spec hap
  unfold aOp at *
  simp only [hj] at *
  rw [gsay_put h1] at h
  split
  · rename_i hg
    simp only [hg] at h
    obtain ⟨u, hu, hn⟩ := h
    refine ⟨u, hu.congr fun x hx => (evE_put fun t ht => mem_looks_op (h1 t ht) x hx).symm, hy.put h3, ?_⟩
    rw [← putE_comm h2]; exact hn
  · rename_i hg
    simp only [hg] at h
    refine ⟨hy.put h3, ?_⟩
    rw [← putE_comm h2]; exact h
  · rename_i hg; simp only [hg] at h
theorem wpAnyE_first {Q : EE → Prop} {i : Nat} {oi : Oper} {v : AV} (hi : ops[i]? = some oi) :
    ∀ (fuel : Nat) (listed : Array Bool) (E : EE),
      (∀ j oj, ops[j]? = some oj → j ≠ i → listed.getD j true = false → (∀ e ∈ oj.after, Region.binds md e = true → e.on ≠ i) → oi.apart ops oj = true) →
      i ∈ Region.ready md ops listed → Yields P C ops σ oi v E →
      wpAnyE P C md ops σ Q fuel (listed.setIfInBounds i true) (putE E oi.dst v) → wpAnyE P C md ops σ Q (fuel + 1) listed E := by
  intro fuel
  induction fuel with
  | zero =>
    intro listed E _ hr hy H
    refine ⟨fun h => (by rw [h] at hr; cases hr), fun j hj => ?_⟩
    by_cases hji : j = i
    · subst hji; exact hy.aOp hi H
    · have := ready_mono hj hji
      rw [H.1] at this
      cases this
  | succ fuel ih =>
    intro listed E hfree hr hy H
    refine ⟨fun h => (by rw [h] at hr; cases hr), fun j hj => ?_⟩
    by_cases hji : j = i
    · subst hji; exact hy.aOp hi H
    · have h1 := H.2 j (ready_mono hj hji)
      obtain ⟨hjun, oj, hoj, hall⟩ := mem_ready.1 hj
      have hnot : ∀ e ∈ oj.after, Region.binds md e = true → e.on ≠ i := fun e he hb heq => by
        have h1 := hall e he hb
        have h0 := (mem_ready.1 hr).1
        rw [heq] at h1
        rcases Nat.lt_or_ge i listed.size with h' | h'
        · simp [h'] at h0 h1; rw [h0] at h1; cases h1
        · simp [Array.getElem?_eq_none h'] at h1
      have h2 := aOp_put hoj (hfree j oj hoj hji hjun hnot) hy h1
      have hfree' : ∀ k ok, ops[k]? = some ok → k ≠ i → (listed.setIfInBounds j true).getD k true = false →
          (∀ e ∈ ok.after, Region.binds md e = true → e.on ≠ i) → oi.apart ops ok = true := fun k ok hk hki hun hno => by
        refine hfree k ok hk hki ?_ hno
        by_cases hjk : j = k
        · subst hjk; exact hjun
        · rw [getD_set_ne true hjk] at hun; exact hun
      refine aOp_mono (fun a' h3 => ih (listed.setIfInBounds j true) a' hfree' (ready_mono hr (Ne.symm hji)) h3.1 ?_) h2
      rw [Array.setIfInBounds_comm _ _ hji]
      exact h3.2
def wpLexE (P : Program) (C : Ctx) (ops : Array Oper) (σ : List Ob) (Q : EE → Prop) : List Oper → EE → Prop
  | [], E => Q E
  | o :: rest, E => match gsayE ops E o.guard with
    | some true => ∃ v, PurF P C o E σ v ∧ wpLexE P C ops σ Q rest (putE E o.dst v)
    | some false => wpLexE P C ops σ Q rest (putE E o.dst (.ro (.c undef)))
    | none => False
theorem wpAnyE_lex {Q : EE → Prop} : ∀ (l : List Oper) (k : Nat) (listed : Array Bool) (E : EE), (∀ j, l[j]? = ops[k + j]?) →
    Region.lexFrom md ops l.length k listed = true → wpLexE P C ops σ Q l E → wpAnyE P C md ops σ Q l.length listed E
  | [], _, _, _, _, hB, h => ⟨by simpa [Region.lexFrom] using hB, h⟩
  | o :: l, k, listed, E, hl, hB, h => by
    have h0 : ops[k]? = some o := by simpa using (hl 0).symm
    simp only [List.length_cons, Region.lexFrom, Bool.and_eq_true] at hB
    obtain ⟨⟨hr, hf⟩, hB'⟩ := hB
    have hst : aOp P C ops σ k (wpLexE P C ops σ Q l) E := by unfold aOp; simp only [h0]; exact h
    obtain ⟨v, hy, hK⟩ := yields_of_aOp h0 hst
    exact wpAnyE_first h0 l.length listed E (Region.free_spec h0 hf) (by simpa using hr) hy
      (wpAnyE_lex l (k + 1) _ _ (fun j => by have := hl (j + 1); simpa [Nat.add_assoc, Nat.add_comm 1 j] using this) hB' hK)
def SimE (C : Ctx) (σ : List Ob) (E : EE) (a : Act) (w : World) : Prop := a.defers = [] ∧ a.tmps.size = C.n ∧ ∃ φ, Good C ⟨w, φ, σ, C.ok⟩ ∧ ∀ t, AV.rel ⟨w, φ, σ, C.ok⟩ (E t) (a.tmps.getD t undef)
theorem SimE.put {E : EE} {a : Act} {t : Option Nat} {v : AV} {u : Value} {w : World} {φ : Nat → Option Nat} (h1 : a.defers = []) (h2 : a.tmps.size = C.n) (hG : Good C ⟨w, φ, σ, C.ok⟩) (h : ∀ t, AV.rel ⟨w, φ, σ, C.ok⟩ (E t) (a.tmps.getD t undef)) (ht : ∀ s, t = some s → s < C.n)
    (hv : AV.rel ⟨w, φ, σ, C.ok⟩ v u) : SimE C σ (putE E t v) (a.put t u) w := by
  cases t with
  | none => exact ⟨h1, h2, φ, hG, h⟩
  | some t =>
    refine ⟨h1, by simp [Act.put, h2], φ, hG, fun k => ?_⟩
    rw [getD_put a t k u (by rw [h2]; exact ht t rfl)]
    simp only [putE]
    split
    · exact hv
    · exact h k
theorem wpAny_of_E {Q : EE → Prop} {Q' : Exit → Act → World → Prop} (hQ : ∀ E a w, SimE C σ E a w → Q E → Q' .normal a w) (hd : ∀ (i : Nat) o t, ops[i]? = some o → o.dst = some t → t < C.n) : ∀ (fuel : Nat) (listed : Array Bool) (E : EE) (a : Act) (w : World),
    SimE C σ E a w → wpAnyE P C md ops σ Q fuel listed E → wpAny P md ops Q' fuel listed a w
  | 0, _, _, _, _, hs, h => ⟨h.1, hQ _ _ _ hs h.2⟩
  | fuel + 1, listed, E, a, w, hs, h => by
    refine ⟨fun h0 => hQ _ _ _ hs (h.1 h0), fun i hi => ?_⟩
    have h1 := h.2 i hi
    unfold aOp at h1
    unfold wpOp
    split
    · rename_i ho
      simp only [ho] at h1
      exact wpAny_of_E hQ hd fuel _ E a w hs h1
    · rename_i o ho
      simp only [ho] at h1
      obtain ⟨s1, s2, φ, hG, hE⟩ := hs
      obtain ⟨dst, op, ty, pos, after, g⟩ := o
      split at h1
      · rename_i hg
        obtain ⟨v, hv, hK⟩ := h1
        rw [if_pos (gsay_yes hg a _ hE)]
        refine .inl (hv a ⟨w, φ, σ, C.ok⟩ hG rfl (fun x _ => by
          have := ev_rel (env := []) (m := ⟨w, φ, σ, C.ok⟩) (a := a) (fun t => by simp [look, AV.rel]) x
          cases x with
          | tmp t => exact hE t
          | const c => cases c <;> simpa [ev, evE] using this
          | func f => simpa [ev, evE] using this
          | global g => simp [evE, AV.rel]) _ _ fun u w' hb hu => ?_)
        obtain ⟨g1, g2⟩ := good_below hG hb
        exact wpAny_of_E hQ hd fuel _ _ _ w' (SimE.put s1 s2 g1 (fun t => AV.rel_keeps g2 _ _ (AV.only_true _) (hE t)) (fun s hs => hd i _ s ho hs) hu) hK
      · rename_i hg
        rw [gsay_no hg a _ hE, if_neg (by simp)]
        exact wpAny_of_E hQ hd fuel _ _ _ w (SimE.put s1 s2 hG hE (fun s hs => hd i _ s ho hs) (by simp [AV.rel, RV.rel])) h1
      · exact h1.elim
def dstOk (n : Nat) : List Oper → Bool
  | [] => true
  | o :: l => match o.dst with
    | some t => match Nat.ble (t + 1) n with
      | true => dstOk n l
      | false => false
    | none => dstOk n l
theorem dstOk_at {n : Nat} : ∀ {l : List Oper}, dstOk n l = true → ∀ (i : Nat) o t, l[i]? = some o → o.dst = some t → t < n
  | [], _, i, o, t, hi, _ => by simp at hi
  | x :: l, h, i, o, t, hi, ht => by
    unfold dstOk at h
    cases i with
    | zero =>
      simp at hi; subst hi
      rw [ht] at h
      simp only at h
      split at h
      · rename_i hb; exact Nat.le_of_ble_eq_true hb
      · cases h
    | succ i =>
      have hl : dstOk n l = true := by
        split at h
        · split at h
          · exact h
          · cases h
        · exact h
      exact dstOk_at hl i o t (by simpa using hi) ht
end
structure RunsD (P : Program) (C : Ctx) (ops : Array Oper) (l : List Oper) (k : List Item) (R : Act → World → Prop) (S : St) : Prop where
  run : wpLexE P C ops S.σ (fun E => ∀ a w, SimE C S.σ E a w → Fin P k R a w) l (look S.env)
section
variable {P : Program} {C : Ctx} {ops : Array Oper} {rest : List Oper} {k : List Item} {R : Act → World → Prop} {env : Env} {σ : List Ob} {t : Nat} {ty : TypeId} {pos : String} {after : Array Edge} {gd : Option (Nat × Bool)}
theorem Runs.draw {id : Nat} {l : List Oper} {n : Nat} (hf : P.follows .mixedOrders = true) (hn : C.n = n) (hB : Region.lexB .any l.toArray = true) (hd : dstOk n l = true) (h : RunsD P C l.toArray l k R ⟨env, σ⟩) : Runs P C (.code (.region id l.toArray true) :: k) R ⟨env, σ⟩ := by
  refine ⟨fun a w hs => Fin.of_wp (wp_region_any hf ?_)⟩
  simp only [Region.lexB, Bool.and_eq_true] at hB
  obtain ⟨s1, s2, φ, hG, hE⟩ := hs
  have hb : Below w.heap.size w { w with drawn := w.drawn + 1 } := ⟨rfl, rfl, rfl, Nat.le_refl _, fun _ _ => rfl⟩
  obtain ⟨g1, g2⟩ := good_below hG hb
  have h2 := wpAnyE_lex (P := P) (C := C) (σ := σ) (md := .any) (ops := l.toArray) l 0 (Array.replicate l.toArray.size false) (look env) (by simp) (by simpa using hB.2) h.run
  have h3 := wpAny_of_E (P := P) (Q' := nrm (Fin P k R)) (fun E a w hs hq => hq a w hs) (fun i o t hi ht => by rw [hn]; exact dstOk_at hd i o t (by simpa using hi) ht) l.length (Array.replicate l.toArray.size false) (look env) a { w with drawn := w.drawn + 1 }
    ⟨s1, s2, φ, g1, fun t => AV.rel_keeps g2 _ _ (AV.only_true _) (hE t)⟩ h2
  simpa using h3
theorem Runs.toDraw {id : Nat} {l : List Oper} {k' : List Item} {n : Nat} (m : Nat) (hf : P.follows .mixedOrders = true) (hn : C.n = n) (h : Proofs.Ytnecoghfhcimeaa.ctls m k = .code (.region id l.toArray true) :: k') (hB : Region.lexB .any l.toArray = true) (hd : dstOk n l = true) (hk : RunsD P C l.toArray l k' R ⟨env, σ⟩) : Runs P C k R ⟨env, σ⟩ :=
  Runs.ctls m h (Runs.draw hf hn hB hd hk)
theorem RunsD.nil (h : Runs P C k R ⟨env, σ⟩) : RunsD P C ops [] k R ⟨env, σ⟩ := ⟨fun a w hs => h.run a w hs⟩
theorem RunsD.pur {o : Oper} {v : AV} (h : Pur P C o env σ v) (hg : gsay ops env o.guard = some true) (hd : o.dst = some t) (hk : RunsD P C ops rest k R ⟨(t, v) :: env, σ⟩) : RunsD P C ops (o :: rest) k R ⟨env, σ⟩ := by
  refine ⟨?_⟩
  unfold wpLexE
  rw [show gsayE ops (look (⟨env, σ⟩ : St).env) o.guard = some true from hg]
  refine ⟨v, h.toF, ?_⟩
  rw [hd, show (⟨env, σ⟩ : St).env = env from rfl, ← look_putE]
  exact hk.run
theorem RunsD.again {l : List Oper} {v : AV} (h : look env t = v) (hk : RunsD P C ops l k R ⟨(t, v) :: env, σ⟩) : RunsD P C ops l k R ⟨env, σ⟩ := by
  have e : look ((t, v) :: env) = look env := by
    funext s; rw [look_put]; split
    · rename_i e; subst e; exact h.symm
    · rfl
  have := hk.run
  simp only [e] at this
  exact ⟨this⟩
theorem RunsD.step {T : Tab} (hT : TabOk P T) {n : Nat} (hn : C.n = n) {l l' : List Oper} {env' : Env} (h : astep T ops n env σ l = some (l', env')) (hl : Nat.beq (l'.length + 1) l.length = true) (hk : RunsD P C ops l' k R ⟨env', σ⟩) : RunsD P C ops l k R ⟨env, σ⟩ := by
  have hl := Nat.eq_of_beq_eq_true hl
  cases l with
  | nil => simp [astep] at h
  | cons o rest =>
    obtain ⟨dst, op, ty, pos, after, g⟩ := o
    unfold astep at h
    cases dst with
    | none => simp at h
    | some t =>
      simp only at h
      split at h
      · cases h
      · rename_i ht
        split at h
        · rename_i hg
          split at h
          · rename_i v hv
            injection h with h; injection h with h1 h2; subst h1; subst h2
            exact RunsD.pur (pu_auto hT hv) hg rfl hk
          · split at h
            · injection h with h; injection h with h1 h2; subst h1; subst h2
              simp at hl
            · cases h
        · rename_i hg
          injection h with h; injection h with h1 h2; subst h1; subst h2
          refine ⟨?_⟩
          unfold wpLexE
          rw [show gsayE ops (look (⟨env, σ⟩ : St).env) g = some false from hg]
          have := hk.run
          rwa [show (⟨(t, AV.ro (.c undef)) :: env, σ⟩ : St).env = (t, AV.ro (.c undef)) :: env from rfl, look_putE] at this
        · cases h
section
variable {dst : Nat} {op : Op} {j tj : Nat} {want : Bool} {oj : Oper}
theorem RunsD.guard_b {b : Bool} (hj : ops[j]? = some oj) (hd : oj.dst = some tj) (hb : look env tj = .bool b)
    (ht : b = true → RunsD P C ops (⟨some dst, op, ty, pos, after, some (j, want)⟩ :: rest) k R ⟨(tj, .bool true) :: env, σ⟩) (hf : b = false → RunsD P C ops (⟨some dst, op, ty, pos, after, some (j, want)⟩ :: rest) k R ⟨(tj, .bool false) :: env, σ⟩) :
    RunsD P C ops (⟨some dst, op, ty, pos, after, some (j, want)⟩ :: rest) k R ⟨env, σ⟩ := by
  cases b with
  | true => exact (ht rfl).again hb
  | false => exact (hf rfl).again hb
theorem RunsD.guard_dec {φ : Prop} [Decidable φ] (hj : ops[j]? = some oj) (hd : oj.dst = some tj) (hb : look env tj = .bool (decide φ))
    (ht : φ → RunsD P C ops (⟨some dst, op, ty, pos, after, some (j, want)⟩ :: rest) k R ⟨(tj, .bool true) :: env, σ⟩) (hf : ¬ φ → RunsD P C ops (⟨some dst, op, ty, pos, after, some (j, want)⟩ :: rest) k R ⟨(tj, .bool false) :: env, σ⟩) :
    RunsD P C ops (⟨some dst, op, ty, pos, after, some (j, want)⟩ :: rest) k R ⟨env, σ⟩ :=
  RunsD.guard_b hj hd hb (fun h => ht (of_decide_eq_true h)) (fun h => hf (of_decide_eq_false h))
theorem RunsD.guard_ndec {φ : Prop} [Decidable φ] (hj : ops[j]? = some oj) (hd : oj.dst = some tj) (hb : look env tj = .bool (!decide φ))
    (ht : ¬ φ → RunsD P C ops (⟨some dst, op, ty, pos, after, some (j, want)⟩ :: rest) k R ⟨(tj, .bool true) :: env, σ⟩) (hf : φ → RunsD P C ops (⟨some dst, op, ty, pos, after, some (j, want)⟩ :: rest) k R ⟨(tj, .bool false) :: env, σ⟩) :
    RunsD P C ops (⟨some dst, op, ty, pos, after, some (j, want)⟩ :: rest) k R ⟨env, σ⟩ :=
  RunsD.guard_b hj hd hb (fun h => ht (by simpa using h)) (fun h => hf (by simpa using h))
theorem RunsD.guard_nb {b : Bool} (hj : ops[j]? = some oj) (hd : oj.dst = some tj) (hb : look env tj = .bool (!b))
    (ht : b = false → RunsD P C ops (⟨some dst, op, ty, pos, after, some (j, want)⟩ :: rest) k R ⟨(tj, .bool true) :: env, σ⟩) (hf : b = true → RunsD P C ops (⟨some dst, op, ty, pos, after, some (j, want)⟩ :: rest) k R ⟨(tj, .bool false) :: env, σ⟩) :
    RunsD P C ops (⟨some dst, op, ty, pos, after, some (j, want)⟩ :: rest) k R ⟨env, σ⟩ :=
  RunsD.guard_b hj hd hb (fun h => ht (by simpa using h)) (fun h => hf (by simpa using h))
end
end
end Go.Proofs.Ytnecoghfhcimeaa
/- Rows of the frame's own: make, append, literals of slices, cuts; calls that make memory; function values. Over any program. -/
namespace Go.Proofs.Ytnecoghfhcimeaa
set_option linter.unusedSimpArgs false
set_option linter.unusedVariables false
set_option linter.unusedSectionVars false
open Go.RowKit
open AV (Mem Keeps)
def killEnv (i : Nat) : Env → Env
  | [] => []
  | (t, v) :: e => (t, v.kill i) :: killEnv i e
theorem look_killEnv (i : Nat) : ∀ (e : Env) (t : Nat), look (killEnv i e) t = (look e t).kill i
  | [], t => by simp [killEnv, look, AV.kill]
  | (s, v) :: e, t => by
    rw [killEnv, look_put, look_put]
    split
    · rfl
    · exact look_killEnv i e t
theorem onlys_ro (p : Nat → Prop) : ∀ rs : List RV, AV.onlys p (rs.map .ro)
  | [] => by simp [AV.onlys]
  | r :: rs => by simp only [List.map_cons, AV.onlys, AV.only]; exact ⟨trivial, onlys_ro p rs⟩
section
variable {P : Program} {C : Ctx} {w : World} {φ : Nat → Option Nat} {σ : List Ob}
theorem seq_rd {ok : Nat → Prop} {sz : Nat} {els : List (List RV)} {A : Option Addr} {n c : Nat} (h : RV.rel w ok (.seq sz els) (.slice A n c)) :
    n = els.length ∧ ∃ xs, Rd w sz A n xs ∧ (∀ x ∈ xs, x.oneCell' = true) ∧ xs.length = els.flatten.length ∧ ∀ (j : Nat) r, els.flatten[j]? = some r → ∃ u, xs[j]? = some u ∧ RV.rel w ok r u := by
  simp only [RV.rel] at h
  obtain ⟨A', n', c', e, hn, h1, h2, h3⟩ := h
  injection e with e1 e2 e3; subst e1; subst e2; subst e3
  refine ⟨hn, ?_⟩
  have hflat : ∀ (es : List (List RV)) (b o : Nat), RV.relE w ok b o sz es → es.flatten.length = es.length * sz ∧ RV.relAt w ok b o es.flatten := by
    intro es
    induction es with
    | nil => intro b o _; simp [RV.relAt]
    | cons x xs ih =>
      intro b o hE
      simp only [RV.relE] at hE
      obtain ⟨l1, l2⟩ := ih b (o + sz) hE.2.2
      refine ⟨by simp [l1, hE.1, Nat.add_mul]; omega, ?_⟩
      rw [List.flatten_cons]
      refine RV.relAt_of _ _ fun j r hj => ?_
      rcases Nat.lt_or_ge j x.length with hlt | hge
      · rw [List.getElem?_append_left hlt] at hj
        exact RV.relAt_at x o hE.2.1 j r hj
      · rw [List.getElem?_append_right hge] at hj
        have := RV.relAt_at _ _ l2 (j - x.length) r hj
        rwa [hE.1, show o + sz + (j - sz) = o + j by rw [hE.1] at hge; omega] at this
  rcases Nat.eq_zero_or_pos n with h0 | h0
  · have he : els = [] := List.eq_nil_of_length_eq_zero (by omega)
    subst h0; subst he
    exact ⟨[], Rd.nil _ _ _, by simp, by simp, by simp⟩
  · obtain ⟨b, o, rfl, hb, hok, hE⟩ := h3 h0
    obtain ⟨l1, l2⟩ := hflat els b o hE
    have hat := RV.relAt_at _ _ l2
    refine ⟨(List.range els.flatten.length).map fun j => (w.cell? ⟨b, o + j, none⟩).getD undef, ⟨by simp only [List.length_map, List.length_range, l1, hn], fun _ => ⟨b, o, rfl, fun j u hj => ?_⟩⟩, fun x hx => ?_, by simp, fun j r hj => ?_⟩
    · have hjl : j < els.flatten.length := by have := (List.getElem?_eq_some_iff.1 hj).1; simpa using this
      obtain ⟨v, e1, _⟩ := hat j _ (List.getElem?_eq_getElem hjl)
      rw [List.getElem?_map, List.getElem?_range hjl] at hj
      simp [e1] at hj
      rw [e1, hj]
    · obtain ⟨j, hj, rfl⟩ := List.mem_map.1 hx
      obtain ⟨v, e1, e2, _⟩ := hat j _ (List.getElem?_eq_getElem (List.mem_range.1 hj))
      simp [e1, e2]
    · have hjl := (List.getElem?_eq_some_iff.1 hj).1
      obtain ⟨v, e1, _, e3⟩ := hat j r hj
      exact ⟨v, by rw [List.getElem?_map, List.getElem?_range hjl]; simp [e1], e3⟩
theorem own_row (hG : Good C ⟨w, φ, σ, C.ok⟩) {i : Nat} {o : Ob} (hi : σ[i]? = some o) {u : Value} (hu : AV.rel ⟨w, φ, σ, C.ok⟩ (.own i) u) :
    ∃ A n c xs, u = .slice A n c ∧ o.cs.length = n * o.sz ∧ 0 < o.sz ∧ w.ownsRow 0 o.t o.sz u n xs ∧ u.ownBlock = φ i ∧ ∀ (j : Nat) v, o.cs[j]? = some v → ∃ x, xs[j]? = some x ∧ x.oneCell' = true ∧ AV.rel ⟨w, φ, σ, C.ok⟩ v x := by
  simp only [AV.rel] at hu
  obtain ⟨ob, n, h1, h2, h3, h4⟩ := hu
  rw [hi] at h1; injection h1 with h1; subst h1
  rcases h4 with ⟨rfl, rfl, hφ⟩ | ⟨g, cap, us, hφ, rfl, hh, c1, c2, c3⟩
  · have : o.cs = [] := List.eq_nil_of_length_eq_zero (by omega)
    exact ⟨none, 0, 0, [], rfl, h2, h3, World.ownsRow_nil _ _ _ _, by simp [Value.ownBlock, hφ], by simp [this]⟩
  · have hob := hG.ob i _ hi
    rw [show (⟨w, φ, σ, C.ok⟩ : Mem).φ i = some g from hφ] at hob
    obtain ⟨us', q1, q2, q3⟩ := hob
    simp only at q1
    rw [hh] at q1; injection q1 with q1; injection q1 with q1; subst q1
    have hl : (us.toList.take (n * o.sz)).length = n * o.sz := by rw [List.length_take, Array.length_toList, c3]; exact Nat.min_eq_left (Nat.mul_le_mul_right _ c1)
    refine ⟨some ⟨g, 0, none⟩, n, cap, us.toList.take (n * o.sz), rfl, h2, h3, ⟨hl, .inr ⟨g, cap, us, rfl, Nat.zero_le _, hh, c1, c2, c3, rfl⟩⟩, by simp [Value.ownBlock, hφ], fun j v hj => ?_⟩
    obtain ⟨y, k1, k2, k3⟩ := q3 j v hj
    have hjl := (List.getElem?_eq_some_iff.1 hj).1
    exact ⟨y, by rw [List.getElem?_take, if_pos (by omega)]; simpa using k1, k2, k3⟩
theorem good_append (hG : Good C ⟨w, φ, σ, C.ok⟩) {i : Nat} {o : Ob} {rs : List RV} (hi : σ[i]? = some o) (hcs : o.cs = rs.map .ro) (hfree : ∀ (j : Nat) ob, σ[j]? = some ob → AV.onlys (fun k => k ≠ i) ob.cs)
    {w' : World} {v' : Value} {n' : Nat} {xs' : List Value} {news : List RV} (hsz : 0 < o.sz) (hlen : (rs ++ news).length = n' * o.sz) (hown : w'.ownsRow 0 o.t o.sz v' n' xs') (hg : w.grownBy w' (φ i)) (hl : v'.ownBlock = φ i ∨ ∃ g, v'.ownBlock = some g ∧ w.heap.size ≤ g)
    (hx : ∀ (j : Nat) r, (rs ++ news)[j]? = some r → ∃ x, xs'[j]? = some x ∧ x.oneCell' = true ∧ RV.rel w (AV.Mem.ok ⟨w, φ, σ, C.ok⟩) r x) :
    Good C ⟨w', upd φ i v'.ownBlock, σ.set i ⟨o.t, o.sz, (rs ++ news).map .ro⟩, C.ok⟩ ∧ Keeps (fun k => k ≠ i) ⟨w, φ, σ, C.ok⟩ ⟨w', upd φ i v'.ownBlock, σ.set i ⟨o.t, o.sz, (rs ++ news).map .ro⟩, C.ok⟩ ∧
      AV.rel ⟨w', upd φ i v'.ownBlock, σ.set i ⟨o.t, o.sz, (rs ++ news).map .ro⟩, C.ok⟩ (.own i) v' := by
  have hil : i < σ.length := (List.getElem?_eq_some_iff.1 hi).1
  have hro : RV.Kept w (AV.Mem.ok ⟨w, φ, σ, C.ok⟩) w' (AV.Mem.ok ⟨w', upd φ i v'.ownBlock, σ.set i ⟨o.t, o.sz, (rs ++ news).map .ro⟩, C.ok⟩) := by
    refine ⟨hg.size, fun b hb hok => ⟨⟨hok.1, fun j hj he => ?_⟩, hg.block b hb fun e => hok.2 i hil e.symm⟩⟩
    simp only [List.length_set] at hj
    by_cases hji : j = i
    · subst hji
      simp only [upd_eq] at he
      rcases hl with h | ⟨g, h, hge⟩
      · exact hok.2 j hj (h.symm.trans he)
      · rw [h] at he; injection he with he; omega
    · simp only [upd_ne hji] at he
      exact hok.2 j hj he
  have hK : Keeps (fun k => k ≠ i) ⟨w, φ, σ, C.ok⟩ ⟨w', upd φ i v'.ownBlock, σ.set i ⟨o.t, o.sz, (rs ++ news).map .ro⟩, C.ok⟩ := by
    refine ⟨hro, fun j hj hjl => ⟨by simpa using hjl, upd_ne hj⟩, fun j ob hj ho => ⟨ob.cs, by simp only [List.getElem?_set_ne (Ne.symm hj)]; exact ho, rfl⟩, fun j g us t hj hjl hφ hh => ⟨us, (hg.block g (hG.lt hjl hφ) fun e => hj (hG.inj j i g hjl hil hφ e.symm)).trans hh, rfl⟩⟩
  refine ⟨⟨rfl, fun a b g ha hb e1 e2 => ?_, fun j ob hj => ?_, fun j g hj hjg => ?_, ⟨hg.os.trans hG.frm.os, hg.tape.trans hG.frm.tape, hg.output.trans hG.frm.output, Nat.le_trans hG.frm.size hg.size, fun b hb hm => ?_, hG.frm.new⟩⟩, hK, ?_⟩
  · simp only [List.length_set] at ha hb
    have key : ∀ c, c < σ.length → c ≠ i → φ c = some g → v'.ownBlock ≠ some g := by
      intro c hc hci hcg he
      rcases hl with h | ⟨g', h, hge⟩
      · exact hci (hG.inj c i g hc hil hcg (h.symm.trans he))
      · rw [h] at he; injection he with he; subst he
        have := hG.lt hc hcg; simp only at this; omega
    by_cases ha' : a = i <;> by_cases hb' : b = i
    · omega
    · subst ha'; simp only [upd_eq] at e1; simp only [upd_ne hb'] at e2; exact absurd e1 (key b hb hb' e2)
    · subst hb'; simp only [upd_eq] at e2; simp only [upd_ne ha'] at e1; exact absurd e2 (key a ha ha' e1)
    · simp only [upd_ne ha'] at e1; simp only [upd_ne hb'] at e2; exact hG.inj a b g ha hb e1 e2
  · by_cases hji : j = i
    · subst hji
      simp only [List.getElem?_set_self hil, Option.some.injEq] at hj
      subst hj
      simp only [upd_eq]
      rcases hown.2 with ⟨rfl, rfl⟩ | ⟨g, cap, cur, rfl, _, hh, c1, c2, c3, htake⟩
      · simp only [Value.ownBlock, ObRel]
        have : rs ++ news = [] := List.eq_nil_of_length_eq_zero (by omega)
        simp [this]
      · simp only [Value.ownBlock, ObRel]
        have hxl : xs'.length = n' * o.sz := hown.1
        refine ⟨cur, hh, by rw [List.length_map, hlen, c3]; exact Nat.mul_le_mul_right _ c1, fun x v hv => ?_⟩
        rw [List.getElem?_map, Option.map_eq_some_iff] at hv
        obtain ⟨r, hr, rfl⟩ := hv
        obtain ⟨y, e1, e2, e3⟩ := hx x r hr
        refine ⟨y, ?_, e2, by simp only [AV.rel]; exact RV.rel_mono hro r y e3⟩
        rw [← htake, List.getElem?_take] at e1
        split at e1
        · simpa using e1
        · cases e1
    · simp only [List.getElem?_set_ne (Ne.symm hji)] at hj
      have h := hG.ob j ob hj
      have hjl := (List.getElem?_eq_some_iff.1 hj).1
      simp only [upd_ne hji]
      simp only at h
      cases hφ : φ j with
      | none => rw [hφ] at h; exact h
      | some g =>
        rw [hφ] at h
        obtain ⟨us, q1, q2, q3⟩ := h
        refine ⟨us, (hg.block g (hG.lt hjl hφ) fun e => hji (hG.inj j i g hjl hil hφ e.symm)).trans q1, q2, fun x v hv => ?_⟩
        obtain ⟨y, e1, e2, e3⟩ := q3 x v hv
        exact ⟨y, e1, e2, AV.rel_keeps hK _ _ (onlys_mem (hfree j ob hj) x v hv) e3⟩
  · simp only [List.length_set] at hj
    by_cases hji : j = i
    · subst hji
      simp only [upd_eq] at hjg
      rcases hl with h | ⟨g', h, hge⟩
      · exact hG.mine j g hj (h.symm.trans hjg)
      · rw [h] at hjg; injection hjg with hjg; subst hjg
        exact .inr (Nat.le_trans hG.frm.size hge)
    · simp only [upd_ne hji] at hjg
      exact hG.mine j g hj hjg
  · refine (hg.block b (Nat.lt_of_lt_of_le hb hG.frm.size) fun e => ?_).trans (hG.frm.block b hb hm)
    rcases hG.mine i b hil e.symm with h | h
    · exact hm h
    · omega
  · simp only [AV.rel]
    refine ⟨_, n', List.getElem?_set_self hil, by simpa using hlen, hsz, ?_⟩
    rcases hown.2 with ⟨rfl, rfl⟩ | ⟨g, cap, cur, rfl, _, hh, c1, c2, c3, _⟩
    · exact .inl ⟨rfl, rfl, by simp [upd_eq, Value.ownBlock]⟩
    · exact .inr ⟨g, cap, cur, by simp [upd_eq, Value.ownBlock], rfl, hh, c1, c2, c3⟩
end
section
variable {P : Program} {C : Ctx} {ops : Array Oper} {rest : List Oper} {k : List Item} {R : Act → World → Prop} {env : Env} {σ : List Ob} {t : Nat} {ty : TypeId} {pos : String} {after : Array Edge} {gd : Option (Nat × Bool)}
theorem op_append {tt e : TypeId} {z : Value} {sz bytes i n : Nat} {o : Ob} {rs : List RV} {els : List (List RV)} {x y : Operand} [hs : SL P tt e z sz bytes] (hx : ev env x = .own i) (ho : σ[i]? = some o) (hc : o.cs = rs.map .ro) (hy : ev env y = .ro (.seq sz els)) (het : o.t = e) (hes : o.sz = sz) (hn : rs.length = n * sz)
    (hfree : ∀ (j : Nat) ob, σ[j]? = some ob → AV.onlys (fun k => k ≠ i) ob.cs) (b1 : n + els.length ≤ 140737488355328) (b2 : (n + els.length) * bytes ≤ 140737488355328) (ht : t < C.n)
    (hk : RunsL P C ops rest k R ⟨(t, .own i) :: killEnv i env, σ.set i ⟨e, sz, (rs ++ els.flatten).map .ro⟩⟩) :
    RunsL P C ops (⟨some t, .call { callee := .builtin .append, args := #[x, y], argTypes := #[tt, tt] }, ty, pos, after, none⟩ :: rest) k R ⟨env, σ⟩ := by
  refine ⟨fun a w ⟨h1, h2, φ, hG, hH⟩ => ?_⟩
  refine wpList_plain rfl fun K hK' => ?_
  have h := ev_rel hH x
  rw [hx] at h
  obtain ⟨A, n0, c, xs, hu, hl, hsz, hrow, hblk, hcell⟩ := own_row hG ho h
  rw [hc, List.length_map] at hl
  subst het; subst hes
  have hn0 : n0 = n := Nat.eq_of_mul_eq_mul_right hsz (hl.symm.trans hn)
  subst hn0
  have hyr := ev_rel hH y
  rw [hy] at hyr
  simp only [AV.rel] at hyr
  obtain ⟨B, m, d, hv⟩ : ∃ B m d, a.eval y = .slice B m d := by simp only [RV.rel] at hyr; obtain ⟨B, m, d, e, _⟩ := hyr; exact ⟨B, m, d, e⟩
  rw [hv] at hyr
  obtain ⟨hm, ys, hRd, hy1, hyl, hyr'⟩ := seq_rd hyr
  subst hm
  rw [hu] at hrow
  obtain ⟨A', c', w', hrun, happ⟩ := run_app (P := P) hs.el ty 0 A n0 c xs hrow B els.length d ys hRd hy1 (by unfold maxLen; omega) (by omega) (Nat.zero_le _)
  have hflat : els.flatten.length = els.length * o.sz := by rw [← hyl]; exact hRd.1
  have hxl : xs.length = rs.length := by rw [hrow.1, hn]
  rw [hu] at hblk
  have happg := happ.grown
  have hapl := happ.lies
  rw [hblk] at happg hapl
  obtain ⟨g1, g2, g3⟩ := good_append (news := els.flatten) (n' := n0 + els.length) hG ho hc hfree hsz (by rw [List.length_append, hn, hflat, Nat.add_mul]) happ.own happg hapl (fun j r hj => by
    rcases Nat.lt_or_ge j rs.length with hlt | hge
    · rw [List.getElem?_append_left hlt] at hj
      obtain ⟨x', e1, e2, e3⟩ := hcell j (.ro r) (by rw [hc, List.getElem?_map, hj]; rfl)
      exact ⟨x', by rw [List.getElem?_append_left (by omega)]; exact e1, e2, by simpa only [AV.rel] using e3⟩
    · rw [List.getElem?_append_right hge] at hj
      obtain ⟨x', e1, e3⟩ := hyr' _ r hj
      exact ⟨x', by rw [List.getElem?_append_right (by omega), hxl]; exact e1, hy1 x' (List.mem_of_getElem? e1), e3⟩)
  unfold Oper.wp execOp
  simp only [resolve, invoke, builtin, Sem.run_bind, Sem.run_pure, Result.andThen_ok, List.map_toArray, List.map_cons, List.map_nil, hu, hv, hrun, Oper.upon]
  refine hK' _ _ (hk.run _ _ ⟨h1, by simp [Act.put, h2], _, g1, Holds.put (fun s => ?_) (by rw [h2]; exact ht) g3⟩)
  rw [look_killEnv]
  exact AV.rel_keeps g2 _ _ (AV.kill_only i _) (AV.kill_rel i _ _ (hH s))
theorem op_make1 {tt e : TypeId} {z : Value} {bytes n : Nat} {x y : Operand} {kd kd' : IntKind} [hs : SL P tt e z 1 bytes] (hx : ev env x = .ro (.c (.int kd (n : Int)))) (hy : ev env y = .ro (.c (.int kd' (n : Int)))) (hz : z.cells = #[z]) (hz1 : z.oneCell' = true)
    (b2 : bytes * n ≤ 281474976710656) (b3 : n ≤ maxLen) (ht : t < C.n) (hk : RunsL P C ops rest k R ⟨(t, .own σ.length) :: env, σ ++ [⟨e, 1, (List.replicate n (RV.c z)).map .ro⟩]⟩) :
    RunsL P C ops (⟨some t, .makeSlice tt x y, ty, pos, after, none⟩ :: rest) k R ⟨env, σ⟩ :=
  RunsL.val rfl rfl ht (fun a w φ hG hH => by
    obtain ⟨i, hi, hz0, hsz, hb⟩ := hs.el.hi
    have hbb : (i.bytes : Int) * (n : Int) ≤ 281474976710656 := by
      rw [hb]
      have h : ((bytes * n : Nat) : Int) ≤ 281474976710656 := by omega
      rwa [Int.natCast_mul] at h
    have hr := run_make (P := P) w tt e i z hs.el.ht hi hz0 kd kd' n n (by omega) (Int.le_refl _) hbb (by simp [maxLen] at b3; omega)
    simp only [Int.toNat_natCast, hsz] at hr
    have hm : (madeCells z.cells (n * 1)).toList = List.replicate n z := made_one z n hz
    have hg := good_alloc hG (madeCells z.cells (n * 1)) e 1 ((List.replicate n (RV.c z)).map .ro) (by simp [size_madeCells]) (fun j v hj => by
      rw [List.getElem?_map, Option.map_eq_some_iff] at hj
      obtain ⟨r, hr', rfl⟩ := hj
      have hjn : j < n := by have := (List.getElem?_eq_some_iff.1 hr').1; simpa using this
      rw [List.getElem?_replicate, if_pos hjn] at hr'; injection hr' with hr'; subst hr'
      refine ⟨z, ?_, hz1, by simp [AV.rel, RV.rel]⟩
      rw [← Array.getElem?_toList, hm, List.getElem?_replicate, if_pos hjn])
    refine ⟨slv w.heap.size n n, _, _, by simp only [execOp, ev_c (ev_rel hH x) hx, ev_c (ev_rel hH y) hy, Sem.run_bind, hr, Result.andThen]; rfl, hg.1, hg.2, ?_⟩
    simp only [AV.rel]
    exact ⟨_, n, by simp; rfl, by simp, by simp, .inr ⟨w.heap.size, n, _, upd_eq, rfl, heap_alloc_new w _, Nat.le_refl _, b3, by simp [size_madeCells]⟩⟩) hk
end
end Go.Proofs.Ytnecoghfhcimeaa
/- Calls that make memory: their results as data, or as rows of the frame's own; calls that are lent what the frame owns. Over any program. -/
namespace Go.Proofs.Ytnecoghfhcimeaa
set_option linter.unusedSimpArgs false
set_option linter.unusedVariables false
set_option linter.unusedSectionVars false
open Go.RowKit
open AV (Mem Keeps)
mutual
def Seals : RR → RV → Prop
  | .ro r, r' => r' = r
  | .row _ sz cs, r' => ∃ els, r' = .seq sz els ∧ els.flatten = cs ∧ ∀ x ∈ els, x.length = sz
  | .agg rs, r' => ∃ rs', r' = .agg rs' ∧ SealsL rs rs'
  | .tup rs, r' => ∃ rs', r' = .tup rs' ∧ SealsL rs rs'
def SealsL : List RR → List RV → Prop
  | [], rs' => rs' = []
  | x :: xs, rs' => ∃ r rs'', rs' = r :: rs'' ∧ Seals x r ∧ SealsL xs rs''
end
theorem flatten_len {α : Type} {sz : Nat} : ∀ {els : List (List α)}, (∀ x ∈ els, x.length = sz) → els.flatten.length = els.length * sz
  | [], _ => by simp
  | x :: xs, h => by
    rw [List.flatten_cons, List.length_append, flatten_len (fun y hy => h y (by simp [hy])), h x (by simp), List.length_cons, Nat.add_mul]; omega
theorem flatten_at {α : Type} {sz : Nat} : ∀ {els : List (List α)}, (∀ x ∈ els, x.length = sz) → ∀ (k j : Nat) e, els[k]? = some e → j < sz → els.flatten[k * sz + j]? = e[j]?
  | [], _, k, j, e, hk, _ => by simp at hk
  | x :: xs, h, k, j, e, hk, hj => by
    rw [List.flatten_cons]
    have hx := h x (by simp)
    cases k with
    | zero => simp at hk; subst hk; rw [List.getElem?_append_left (by omega)]; simp
    | succ k =>
      simp at hk
      rw [List.getElem?_append_right (by rw [hx, Nat.add_mul]; omega), hx, show (k + 1) * sz + j - sz = k * sz + j by rw [Nat.add_mul]; omega]
      exact flatten_at (fun y hy => h y (by simp [hy])) k j e hk hj
section
variable {w : World} {ok ok' : Nat → Prop}
mutual
theorem seals_rel (h1 : ∀ b, ok b → ok' b) : ∀ (rr : RR) (r : RV) (u : Value) (bs : List Nat), Seals rr r → rr.rel w ok u bs → (∀ b ∈ bs, ok' b) → RV.rel w ok' r u
  | .ro r0, r, u, bs, hs, hr, hb => by
    simp only [Seals] at hs; subst hs
    simp only [RR.rel] at hr
    exact RV.rel_mono ⟨Nat.le_refl _, fun b _ ho => ⟨h1 b ho, rfl⟩⟩ _ _ hr.1
  | .row e sz cs, r, u, bs, hs, hr, hb => by
    simp only [Seals] at hs
    obtain ⟨els, rfl, hf, hl⟩ := hs
    simp only [RR.rel] at hr
    obtain ⟨n, xs, k1, k2, k3, k4, k5, rfl⟩ := hr
    have hn : n = els.length := by
      have := flatten_len hl
      rw [hf, k1] at this
      exact Nat.eq_of_mul_eq_mul_right k2 this
    simp only [RV.rel]
    rcases k5.2 with ⟨rfl, h0⟩ | ⟨g, cap, cur, rfl, _, hh, c1, c2, c3, ht⟩
    · exact ⟨none, 0, 0, rfl, by omega, Nat.le_refl _, Nat.zero_le _, fun h => absurd h (by omega)⟩
    · refine ⟨some ⟨g, 0, none⟩, n, cap, rfl, hn, c1, c2, fun hn0 => ⟨g, 0, rfl, (Array.getElem?_eq_some_iff.1 hh).1, hb g (by simp [Value.ownBlock]), ?_⟩⟩
      refine RV.relE_of _ _ _ fun k e hk => ⟨hl e (List.mem_of_getElem? hk), RV.relAt_of _ _ fun j r hj => ?_⟩
      have hjl : j < sz := by have := (List.getElem?_eq_some_iff.1 hj).1; rwa [hl e (List.mem_of_getElem? hk)] at this
      have hfl := flatten_at hl k j e hk hjl
      rw [hf, hj] at hfl
      obtain ⟨x, e1, e2⟩ := RV.rels_at cs xs k3 _ r hfl
      refine ⟨x, ?_, k4 x (List.mem_of_getElem? e1), RV.rel_mono ⟨Nat.le_refl _, fun b _ ho => ⟨h1 b ho, rfl⟩⟩ _ _ e2⟩
      rw [cell_of_row w g _ cur _ _ hh, Nat.zero_add]
      rw [← ht, List.getElem?_take] at e1
      split at e1
      · simpa using e1
      · cases e1
  | .agg rs, r, u, bs, hs, hr, hb => by
    simp only [Seals] at hs
    obtain ⟨rs', rfl, hs⟩ := hs
    simp only [RR.rel] at hr
    obtain ⟨us, rfl, hr⟩ := hr
    simp only [RV.rel]
    exact ⟨us, rfl, sealsL_rel h1 rs rs' _ bs hs hr hb⟩
  | .tup rs, r, u, bs, hs, hr, hb => by
    simp only [Seals] at hs
    obtain ⟨rs', rfl, hs⟩ := hs
    simp only [RR.rel] at hr
    obtain ⟨us, rfl, hr⟩ := hr
    simp only [RV.rel]
    exact ⟨us, rfl, sealsL_rel h1 rs rs' _ bs hs hr hb⟩
theorem sealsL_rel (h1 : ∀ b, ok b → ok' b) : ∀ (rs : List RR) (rs' : List RV) (us : List Value) (bs : List Nat), SealsL rs rs' → RR.rels w ok rs us bs → (∀ b ∈ bs, ok' b) → RV.rels w ok' rs' us
  | [], rs', us, bs, hs, hr, hb => by
    simp only [SealsL] at hs; subst hs
    simp only [RR.rels] at hr
    simp [RV.rels, hr]
  | x :: xs, rs', us, bs, hs, hr, hb => by
    simp only [SealsL] at hs
    obtain ⟨r, rs'', rfl, hs1, hs2⟩ := hs
    simp only [RR.rels] at hr
    obtain ⟨u, us', b, bs', rfl, rfl, k1, k2⟩ := hr
    simp only [RV.rels]
    exact ⟨u, us', rfl, seals_rel h1 x r u b hs1 k1 (fun c hc => hb c (List.mem_append.2 (.inl hc))), sealsL_rel h1 xs rs'' us' bs' hs2 k2 (fun c hc => hb c (List.mem_append.2 (.inr hc)))⟩
end
end
theorem seals_row1 (e : TypeId) (cs : List RV) : Seals (.row e 1 cs) (.seq 1 (cs.map fun c => [c])) := by
  simp only [Seals]
  refine ⟨_, rfl, ?_, by simp⟩
  induction cs with
  | nil => rfl
  | cons c cs ih => simp [ih]
mutual
def obs : RR → List Ob
  | .ro _ => []
  | .row e sz cs => [⟨e, sz, cs.map .ro⟩]
  | .agg rs => obsL rs
  | .tup rs => obsL rs
def obsL : List RR → List Ob
  | [] => []
  | x :: xs => obs x ++ obsL xs
end
mutual
def instA (N : Nat) : RR → AV
  | .ro r => .ro r
  | .row _ _ _ => .own N
  | .agg rs => .agg (instL N rs)
  | .tup rs => .tup (instL N rs)
def instL (N : Nat) : List RR → List AV
  | [] => []
  | x :: xs => instA N x :: instL (N + (obs x).length) xs
end
section
variable {w : World} {ok : Nat → Prop}
def Lies (m : Mem) (N : Nat) (ps : List (Option Nat)) (os : List Ob) : Prop := (∀ (j : Nat) p, ps[j]? = some p → m.φ (N + j) = p) ∧ (∀ (j : Nat) o, os[j]? = some o → m.σ[N + j]? = some o)
theorem Lies.left {m : Mem} {N : Nat} {ps qs : List (Option Nat)} {os os' : List Ob} (h : Lies m N (ps ++ qs) (os ++ os')) : Lies m N ps os :=
  ⟨fun j p hj => h.1 j p (by rw [List.getElem?_append_left (List.getElem?_eq_some_iff.1 hj).1]; exact hj), fun j o hj => h.2 j o (by rw [List.getElem?_append_left (List.getElem?_eq_some_iff.1 hj).1]; exact hj)⟩
theorem Lies.right {m : Mem} {N : Nat} {ps qs : List (Option Nat)} {os os' : List Ob} (hl : ps.length = os.length) (h : Lies m N (ps ++ qs) (os ++ os')) : Lies m (N + os.length) qs os' :=
  ⟨fun j p hj => by
    have := h.1 (ps.length + j) p (by rw [List.getElem?_append_right (by omega)]; simpa using hj)
    rwa [show N + (ps.length + j) = N + os.length + j by omega] at this,
   fun j o hj => by
    have := h.2 (os.length + j) o (by rw [List.getElem?_append_right (by omega)]; simpa using hj)
    rwa [show N + (os.length + j) = N + os.length + j by omega] at this⟩
mutual
theorem inst_rel : ∀ (rr : RR) (u : Value) (bs : List Nat), rr.rel w ok u bs → ∃ ps : List (Option Nat), ps.length = (obs rr).length ∧ bs = ps.flatMap Option.toList ∧
    ∀ (m : Mem) (N : Nat), m.w = w → (∀ b, ok b → m.ok b) → Lies m N ps (obs rr) → AV.rel m (instA N rr) u ∧ ∀ (j : Nat) o, (obs rr)[j]? = some o → ObRel m o (m.φ (N + j))
  | .ro r, u, bs, h => by
    simp only [RR.rel] at h
    refine ⟨[], rfl, by simp [h.2], fun m N hw hok _ => ⟨?_, fun j o hj => by simp [obs] at hj⟩⟩
    subst hw
    simp only [instA, AV.rel]
    exact RV.rel_mono ⟨Nat.le_refl _, fun b _ ho => ⟨hok b ho, rfl⟩⟩ _ _ h.1
  | .row e sz cs, u, bs, h => by
    simp only [RR.rel] at h
    obtain ⟨n, xs, k1, k2, k3, k4, k5, rfl⟩ := h
    refine ⟨[u.ownBlock], rfl, by simp, fun m N hw hok hL => ?_⟩
    subst hw
    have hφ : m.φ N = u.ownBlock := hL.1 0 _ rfl
    have hσ : m.σ[N]? = some ⟨e, sz, cs.map .ro⟩ := hL.2 0 _ rfl
    have hro := fun r x hx => RV.rel_mono (w := m.w) (w' := m.w) (ok := ok) (ok' := m.ok) ⟨Nat.le_refl _, fun b _ ho => ⟨hok b ho, rfl⟩⟩ r x hx
    constructor
    · simp only [instA, AV.rel]
      refine ⟨_, n, hσ, by simpa using k1, k2, ?_⟩
      rcases k5.2 with ⟨rfl, rfl⟩ | ⟨g, cap, cur, rfl, _, hh, c1, c2, c3, ht⟩
      · exact .inl ⟨rfl, rfl, by simpa [Value.ownBlock] using hφ⟩
      · exact .inr ⟨g, cap, cur, by simpa [Value.ownBlock] using hφ, rfl, hh, c1, c2, c3⟩
    · intro j o hj
      cases j with
      | succ j => simp [obs] at hj
      | zero =>
        simp [obs] at hj; subst hj
        rw [Nat.add_zero, hφ]
        rcases k5.2 with ⟨rfl, rfl⟩ | ⟨g, cap, cur, rfl, _, hh, c1, c2, c3, ht⟩
        · simp only [Value.ownBlock, ObRel]
          have : cs = [] := List.eq_nil_of_length_eq_zero (by omega)
          simp [this]
        · simp only [Value.ownBlock, ObRel]
          refine ⟨cur, hh, by rw [List.length_map, k1, c3]; exact Nat.mul_le_mul_right _ c1, fun x v hv => ?_⟩
          rw [List.getElem?_map, Option.map_eq_some_iff] at hv
          obtain ⟨r, hr, rfl⟩ := hv
          obtain ⟨y, e1, e2⟩ := RV.rels_at cs xs k3 x r hr
          refine ⟨y, ?_, k4 y (List.mem_of_getElem? e1), by simp only [AV.rel]; exact hro r y e2⟩
          rw [← ht, List.getElem?_take] at e1
          split at e1
          · simpa using e1
          · cases e1
  | .agg rs, u, bs, h => by
    simp only [RR.rel] at h
    obtain ⟨us, rfl, h⟩ := h
    obtain ⟨ps, h1, h2, h3⟩ := instL_rel rs _ bs h
    refine ⟨ps, h1, h2, fun m N hw hok hL => ?_⟩
    obtain ⟨k1, k2⟩ := h3 m N hw hok hL
    exact ⟨by simp only [instA, AV.rel]; exact ⟨us, rfl, k1⟩, k2⟩
  | .tup rs, u, bs, h => by
    simp only [RR.rel] at h
    obtain ⟨us, rfl, h⟩ := h
    obtain ⟨ps, h1, h2, h3⟩ := instL_rel rs _ bs h
    refine ⟨ps, h1, h2, fun m N hw hok hL => ?_⟩
    obtain ⟨k1, k2⟩ := h3 m N hw hok hL
    exact ⟨by simp only [instA, AV.rel]; exact ⟨us, rfl, k1⟩, k2⟩
theorem instL_rel : ∀ (rs : List RR) (us : List Value) (bs : List Nat), RR.rels w ok rs us bs → ∃ ps : List (Option Nat), ps.length = (obsL rs).length ∧ bs = ps.flatMap Option.toList ∧
    ∀ (m : Mem) (N : Nat), m.w = w → (∀ b, ok b → m.ok b) → Lies m N ps (obsL rs) → AV.rels m (instL N rs) us ∧ ∀ (j : Nat) o, (obsL rs)[j]? = some o → ObRel m o (m.φ (N + j))
  | [], us, bs, h => by
    simp only [RR.rels] at h
    obtain ⟨rfl, rfl⟩ := h
    exact ⟨[], rfl, rfl, fun m N _ _ _ => ⟨by simp [instL, AV.rels], fun j o hj => by simp [obsL] at hj⟩⟩
  | x :: xs, us, bs, h => by
    simp only [RR.rels] at h
    obtain ⟨u, us', b, bs', rfl, rfl, k1, k2⟩ := h
    obtain ⟨ps, a1, a2, a3⟩ := inst_rel x u b k1
    obtain ⟨qs, b1, b2, b3⟩ := instL_rel xs us' bs' k2
    refine ⟨ps ++ qs, by simp [obsL, a1, b1], by simp [a2, b2], fun m N hw hok hL => ?_⟩
    simp only [obsL] at hL ⊢
    obtain ⟨c1, c2⟩ := a3 m N hw hok hL.left
    obtain ⟨d1, d2⟩ := b3 m (N + (obs x).length) hw hok (hL.right a1)
    refine ⟨?_, fun j o hj => ?_⟩
    · simp only [instL, AV.rels]
      exact ⟨u, us', rfl, c1, d1⟩
    · rcases Nat.lt_or_ge j (obs x).length with hlt | hge
      · rw [List.getElem?_append_left hlt] at hj
        exact c2 j o hj
      · rw [List.getElem?_append_right hge] at hj
        have := d2 _ o hj
        rwa [show N + (obs x).length + (j - (obs x).length) = N + j by omega] at this
end
end
theorem flat_nodup_inj {ps : List (Option Nat)} (h : (ps.flatMap Option.toList).Nodup) : ∀ (i j : Nat) g, ps[i]? = some (some g) → ps[j]? = some (some g) → i = j := by
  induction ps with
  | nil => intro i j g hi; simp at hi
  | cons p ps ih =>
    intro i j g hi hj
    rw [List.flatMap_cons, List.nodup_append] at h
    have mem : ∀ (k : Nat), ps[k]? = some (some g) → g ∈ ps.flatMap Option.toList := fun k hk => List.mem_flatMap.2 ⟨some g, List.mem_of_getElem? hk, by simp⟩
    cases i with
    | zero =>
      cases j with
      | zero => rfl
      | succ j =>
        simp at hi hj; subst hi
        exact absurd rfl (h.2.2 g (by simp) g (mem j hj))
    | succ i =>
      cases j with
      | zero =>
        simp at hi hj; subst hj
        exact absurd rfl (h.2.2 g (by simp) g (mem i hi))
      | succ j =>
        simp at hi hj
        rw [ih h.2.1 i j g hi hj]
section
variable {P : Program} {C : Ctx} {ops : Array Oper} {rest : List Oper} {k : List Item} {R : Act → World → Prop} {env : Env} {σ : List Ob} {t : Nat} {ty : TypeId} {pos : String} {after : Array Edge} {gd : Option (Nat × Bool)}
theorem ok_args {m : Mem} (hG : Good C m) : ∀ b, m.w.heap.size ≤ b → m.ok b := fun b hb => ⟨by rw [hG.ok0]; exact hG.frm.new b (Nat.le_trans hG.frm.size hb), fun i hi e => by have := hG.lt hi e; omega⟩
theorem op_callO {f : FuncId} {fn : Func} {xs : Array Operand} {ats : Array TypeId} {args : List RV} {rr : RR} [hfn : FN P f fn] (hf : AC P f args fun r => r = rr) (ha : FitsL (xs.toList.map (ev env)) args) (ht : t < C.n)
    (hk : RunsL P C ops rest k R ⟨(t, instA σ.length rr) :: env, σ ++ obs rr⟩) :
    RunsL P C ops (⟨some t, .call { callee := .value (.func f), args := xs, argTypes := ats }, ty, pos, after, none⟩ :: rest) k R ⟨env, σ⟩ := by
  refine ⟨fun a w ⟨s1, s2, φ, hG, hH⟩ => ?_⟩
  refine wpList_plain rfl fun K hK' => ?_
  have hr := FitsL.rels ha _ (rels_eval (a := a) (m := ⟨w, φ, σ, C.ok⟩) xs.toList fun x hx => ev_rel hH x)
  unfold Oper.wp
  rw [execOp_call_go, run_call hfn]
  simp only [Oper.upon]
  refine (hf w _ _ (ok_args hG) (by simpa using hr)).mono ?_
  rintro e w' ⟨u, rr', bs, rfl, rfl, h1, h2, h3, h4⟩
  obtain ⟨ps, p1, p2, p3⟩ := inst_rel rr' u bs h1
  subst p2
  let φ' : Nat → Option Nat := fun i => if i < σ.length then φ i else (ps[i - σ.length]?).getD none
  have e1 : ∀ i, i < σ.length → φ' i = φ i := fun i hi => if_pos hi
  have e2 : ∀ j, φ' (σ.length + j) = (ps[j]?).getD none := fun j => by show (if σ.length + j < σ.length then _ else _) = _; rw [if_neg (by omega)]; simp
  have e3 : ∀ (j g : Nat), φ' (σ.length + j) = some g → ps[j]? = some (some g) := fun j g hg => by
    rw [e2] at hg
    cases hp : ps[j]? with
    | none => simp [hp] at hg
    | some p => simp [hp] at hg; rw [hg]
  have hnew : ∀ (j g : Nat), φ' (σ.length + j) = some g → g ∈ ps.flatMap Option.toList := fun j g hg => List.mem_flatMap.2 ⟨some g, List.mem_of_getElem? (e3 j g hg), by simp⟩
  have hLie : ∀ os, Lies ⟨w', φ', σ ++ os, C.ok⟩ σ.length ps os := fun os => ⟨fun j p hj => by show φ' (σ.length + j) = p; rw [e2, hj]; rfl, fun j o hj => by show (σ ++ os)[σ.length + j]? = _; rw [List.getElem?_append_right (by omega)]; simpa using hj⟩
  have hok : ∀ b, (AV.Mem.ok ⟨w, φ, σ, C.ok⟩ b ∧ b ∉ ps.flatMap Option.toList) → AV.Mem.ok ⟨w', φ', σ ++ obs rr', C.ok⟩ b := fun b hb => ⟨hb.1.1, fun i hi he => by
    simp only at he
    rcases Nat.lt_or_ge i σ.length with hlt | hge
    · exact hb.1.2 i hlt ((e1 i hlt).symm.trans he)
    · exact hb.2 (hnew (i - σ.length) b (by rwa [show σ.length + (i - σ.length) = i by omega]))⟩
  obtain ⟨q1, q2⟩ := p3 ⟨w', φ', σ ++ obs rr', C.ok⟩ σ.length rfl hok (hLie _)
  obtain ⟨g1, g2⟩ := good_grow (φ' := φ') (new := obs rr') hG h4 e1 (fun j hj g hg => (h3 g (hnew j g hg)).1) (fun i j g hi hj ei ej => flat_nodup_inj h2 i j g (e3 i g ei) (e3 j g ej)) q2
  exact hK' _ _ (hk.run _ _ ⟨s1, by simp [Act.put, s2], φ', g1, (hH.keeps g2).put (by rw [s2]; exact ht) q1⟩)
def Lends (C : Ctx) (σ : List Ob) (v : AV) (r : RV) : Prop := ∀ (m : Mem) (u : Value) (ok' : Nat → Prop), Good C m → m.σ = σ → (∀ b, m.ok b → ok' b) → (∀ (i g : Nat), i < σ.length → m.φ i = some g → ok' g) → AV.rel m v u → RV.rel m.w ok' r u
inductive LendsL (C : Ctx) (σ : List Ob) : List AV → List RV → Prop
  | nil : LendsL C σ [] []
  | cons {v : AV} {r : RV} {vs : List AV} {rs : List RV} : Lends C σ v r → LendsL C σ vs rs → LendsL C σ (v :: vs) (r :: rs)
theorem Lends.fits {v : AV} {r : RV} (h : Fits v r) : Lends C σ v r := fun m u _ _ _ h1 _ hu => RV.rel_mono ⟨Nat.le_refl _, fun b _ hb => ⟨h1 b hb, rfl⟩⟩ r u (h m u hu)
theorem Lends.ro {r : RV} : Lends C σ (.ro r) r := Lends.fits (Fits.ro r)
theorem Lends.nil (sz : Nat) : Lends C σ (.ro .nil) (.seq sz []) := Lends.fits (Fits.nil sz)
theorem LendsL.rels {m : Mem} {ok' : Nat → Prop} (hG : Good C m) (hσ : m.σ = σ) (k1 : ∀ b, m.ok b → ok' b) (k2 : ∀ (i g : Nat), i < σ.length → m.φ i = some g → ok' g) {vs : List AV} {rs : List RV} (h : LendsL C σ vs rs) : ∀ us, AV.rels m vs us → RV.rels m.w ok' rs us := by
  induction h with
  | nil => intro us hu; simpa [AV.rels, RV.rels] using hu
  | cons h1 _ ih =>
    intro us hu
    simp only [AV.rels] at hu
    obtain ⟨u, us', rfl, k3, k4⟩ := hu
    simp only [RV.rels]
    exact ⟨u, us', rfl, h1 m u ok' hG hσ k1 k2 k3, ih us' k4⟩
theorem Lends.agg {vs : List AV} {rs : List RV} (h : LendsL C σ vs rs) : Lends C σ (.agg vs) (.agg rs) := fun m u ok' hG hσ k1 k2 hu => by
  simp only [AV.rel, RV.rel] at hu ⊢
  obtain ⟨us, e, hr⟩ := hu
  exact ⟨us, e, h.rels hG hσ k1 k2 _ hr⟩
theorem Lends.tup {vs : List AV} {rs : List RV} (h : LendsL C σ vs rs) : Lends C σ (.tup vs) (.tup rs) := fun m u ok' hG hσ k1 k2 hu => by
  simp only [AV.rel, RV.rel] at hu ⊢
  obtain ⟨us, e, hr⟩ := hu
  exact ⟨us, e, h.rels hG hσ k1 k2 _ hr⟩
theorem LendsL.ros : ∀ rs : List RV, LendsL C σ (rs.map .ro) rs
  | [] => .nil
  | _ :: rs => .cons .ro (LendsL.ros rs)
theorem Lends.obj {i off : Nat} {o : Ob} {rs : List RV} (ho : σ[i]? = some o) (h : LendsL C σ (o.cs.drop off) rs) : Lends C σ (.obj i off) (.rp rs) := fun m u ok' hG hσ k1 k2 hu => by
  simp only [AV.rel] at hu
  obtain ⟨hi, g, hg, rfl⟩ := hu
  have hob := hG.ob i o (by rw [hσ]; exact ho)
  rw [hg] at hob
  obtain ⟨us, q1, q2, q3⟩ := hob
  simp only [RV.rel]
  refine ⟨g, off, rfl, hG.lt hi hg, k2 i g (by rw [← hσ]; exact hi) hg, ?_⟩
  have key : ∀ {vs : List AV} {rs : List RV}, LendsL C σ vs rs → ∀ (k : Nat), (∀ (j : Nat) v, vs[j]? = some v → o.cs[k + j]? = some v) → RV.relAt m.w ok' g k rs := by
    intro vs rs h
    induction h with
    | nil => intro k _; simp [RV.relAt]
    | cons h1 _ ih =>
      intro k hk
      simp only [RV.relAt]
      obtain ⟨x, e1, e2, e3⟩ := q3 k _ (hk 0 _ rfl)
      refine ⟨⟨x, by rw [cell_of_row _ g k us _ _ q1]; exact e1, e2, h1 m x ok' hG hσ k1 k2 e3⟩, ih (k + 1) fun j v hj => ?_⟩
      have := hk (j + 1) v (by simpa using hj)
      rwa [show k + (j + 1) = k + 1 + j by omega] at this
  exact key h off fun j v hj => by rwa [List.getElem?_drop] at hj
theorem Lends.own {i : Nat} {o : Ob} {els : List (List RV)} (ho : σ[i]? = some o) (h : o.cs = els.flatten.map .ro) (hl : ∀ x ∈ els, x.length = o.sz) : Lends C σ (.own i) (.seq o.sz els) := fun m u ok' hG hσ k1 k2 hu => by
  have hrow := row_own (cs := els.flatten) (e := o.t) (sz := o.sz) hG (by rw [hσ, ho]; cases o; simp_all) hu
  obtain ⟨n, xs, h1, h2, h3, h4, h5, h6⟩ := hrow
  refine seals_rel (ok := m.ok) k1 (.row o.t o.sz els.flatten) (.seq o.sz els) u u.ownBlock.toList (by simp only [Seals]; exact ⟨els, rfl, rfl, hl⟩) (by simp only [RR.rel]; exact ⟨n, xs, h1, h2, h3, h4, h5, trivial⟩) fun b hb => ?_
  rw [h6] at hb
  exact k2 i b (List.getElem?_eq_some_iff.1 ho).1 (by simpa [Option.mem_toList] using hb)
def flat : RV → Bool
  | .c _ => true
  | _ => false
end
end Go.Proofs.Ytnecoghfhcimeaa
/- Opening the arguments of a law: a byte, an integer, a slice of bytes or of integers. -/
namespace Go.Proofs.Ytnecoghfhcimeaa
set_option linter.unusedSimpArgs false
set_option linter.unusedVariables false
set_option linter.unusedSectionVars false
open Go.ChangeShapes Go.WideShapes Go.RowKit
theorem u8_of_wf {n : Int} (h : (Lit.int .u8 n).wf = true) : ∃ c : UInt8, n = (c.toNat : Int) := by
  have := bounds_u8 h
  refine ⟨UInt8.ofNat n.toNat, ?_⟩
  simp; omega
section
variable {H : Type} {enc : TypeId × Value → H} {P : Program} {w : World} {base b0 : Nat} {spare : Nat → Bool} {held : Bool} {r : Reach}
theorem addr_plain {x : Addr} {b : Value} (h : w.cell? (x.add 0) = some b) : x = ⟨x.block, x.off, none⟩ := by
  obtain ⟨bl, off, spot⟩ := x
  have : spot = none := by
    simp only [Addr.add, if_true, World.cell?] at h
    cases spot with
    | none => rfl
    | some s => split at h <;> simp at h
  subst this; rfl
theorem add_lit (b o j : Nat) : (⟨b, o, none⟩ : Addr).add j = ⟨b, o + j, none⟩ := by unfold Addr.add; split <;> simp_all
end
end Go.Proofs.Ytnecoghfhcimeaa
/- What comes in as an argument, of whatever plain type, reads as data. Over any program. -/
namespace Go.Proofs.Ytnecoghfhcimeaa
set_option linter.unusedSimpArgs false
set_option linter.unusedVariables false
set_option linter.unusedSectionVars false
open Go.RowKit Go.ChangeShapes Go.WideShapes
def tile (P : Program) : Nat → List Field → Nat → Bool
  | o, [], n => Nat.beq o n
  | o, f :: fs, n => Nat.beq f.offset o && tile P (o + P.cellsOf f.type) fs n
def typB (P : Program) (T : List Nat) (t : Nat) : Bool := match P.underlying t with
  | some (.int _) | some .bool | some .string => Nat.beq (P.cellsOf t) 1
  | some (.slice e) => nmem T e && Nat.beq (P.cellsOf t) 1 && Nat.ble 1 (P.cellsOf e)
  | some (.struct fs) => fs.toList.all (fun f => nmem T f.type) && tile P 0 fs.toList (P.cellsOf t)
  | _ => false
inductive TyC (P : Program) : TypeId → List RV → Prop
  | int {t : TypeId} {k : IntKind} {n : Int} (h : P.underlying t = some (.int k)) (wf : (Lit.int k n).wf = true) : TyC P t [.c (.int k n)]
  | bool {t : TypeId} {b : Bool} (h : P.underlying t = some .bool) : TyC P t [.bool b]
  | str {t : TypeId} {s : ByteArray} (h : P.underlying t = some .string) (hs : s.size ≤ maxLen) : TyC P t [.str s]
  | slice {t e : TypeId} {els : List (List RV)} (h : P.underlying t = some (.slice e)) (hl : els.length ≤ maxLen) (hels : ∀ el ∈ els, TyC P e el) : TyC P t [.seq (P.cellsOf e) els]
  | struct {t : TypeId} {fs : Array Field} {cells : List (List RV)} (h : P.underlying t = some (.struct fs)) (hl : cells.length = fs.size) (hc : ∀ (j : Nat) f c, fs[j]? = some f → cells[j]? = some c → TyC P f.type c) : TyC P t cells.flatten
section
variable {w : World} {ok : Nat → Prop}
theorem rels_app : ∀ {ps bs : List RV} {us vs : List Value}, RV.rels w ok ps us → RV.rels w ok bs vs → RV.rels w ok (ps ++ bs) (us ++ vs)
  | [], bs, us, vs, h1, h2 => by simp only [RV.rels] at h1; subst h1; simpa using h2
  | a :: ps, bs, us, vs, h1, h2 => by
    simp only [RV.rels] at h1
    obtain ⟨u, us', rfl, k1, k2⟩ := h1
    simp only [List.cons_append, RV.rels]
    exact ⟨u, us' ++ vs, rfl, k1, rels_app k2 h2⟩
end
theorem list_of' {α : Type} {Q : Nat → α → Prop} : ∀ n, (∀ i, i < n → ∃ x, Q i x) → ∃ l : List α, l.length = n ∧ ∀ (i : Nat) x, l[i]? = some x → Q i x := by
  intro n
  induction n with
  | zero => intro _; exact ⟨[], rfl, fun i x h => by simp at h⟩
  | succ n ih =>
    intro h
    obtain ⟨l, hl, hP⟩ := ih (fun i hi => h i (by omega))
    obtain ⟨x, hx⟩ := h n (by omega)
    refine ⟨l ++ [x], by simp [hl], fun i y hi => ?_⟩
    rcases Nat.lt_or_ge i n with hlt | hge
    · rw [List.getElem?_append_left (by omega)] at hi; exact hP i y hi
    · rw [List.getElem?_append_right (by omega), hl] at hi
      have : i - n = 0 := by have := (List.getElem?_eq_some_iff.1 hi).1; simp at this; omega
      rw [this] at hi; simp at hi; subst hi
      have : i = n := by omega
      subst this; exact hx
section
variable {H : Type} {enc : TypeId × Value → H} {P : Program} {w : World} {base b0 : Nat} {spare : Nat → Bool} {held : Bool} {r : Reach} {T : List Nat}
theorem open_fields {cs : List Value} {total : Nat} (hcs : cs.length = total) : ∀ (fs : List Field) (o : Nat), tile P o fs total = true →
    (∀ f ∈ fs, ∃ rc, TyC P f.type rc ∧ RV.Rels w rc ((cs.drop f.offset).take (P.cellsOf f.type)) ∧ ∀ u ∈ (cs.drop f.offset).take (P.cellsOf f.type), u.oneCell' = true) →
    ∃ cells : List (List RV), cells.length = fs.length ∧ (∀ (j : Nat) f c, fs[j]? = some f → cells[j]? = some c → TyC P f.type c) ∧ RV.Rels w cells.flatten (cs.drop o) ∧ ∀ u ∈ cs.drop o, u.oneCell' = true
  | [], o, ht, _ => by
    simp only [tile] at ht
    have := Nat.eq_of_beq_eq_true ht
    have e : cs.drop o = [] := List.drop_eq_nil_of_le (by omega)
    rw [e]
    exact ⟨[], rfl, fun j f c h => by simp at h, by simp [RV.rels], by simp⟩
  | f :: fs, o, ht, h => by
    simp only [tile, Bool.and_eq_true] at ht
    have ho := Nat.eq_of_beq_eq_true ht.1
    obtain ⟨rc, h1, h2, h3⟩ := h f (by simp)
    obtain ⟨cells, k1, k2, k3, k4⟩ := open_fields hcs fs _ ht.2 (fun g hg => h g (by simp [hg]))
    rw [ho] at h2 h3
    have e : cs.drop o = (cs.drop o).take (P.cellsOf f.type) ++ cs.drop (o + P.cellsOf f.type) := by
      rw [← List.drop_drop, List.take_append_drop]
    refine ⟨rc :: cells, by simp [k1], fun j g c hj hc => ?_, ?_, ?_⟩
    · cases j with
      | zero => simp at hj hc; subst hj; subst hc; exact h1
      | succ j => simp at hj hc; exact k2 j g c hj hc
    · rw [e, List.flatten_cons]; exact rels_app h2 k3
    · rw [e]
      intro u hu
      rcases List.mem_append.1 hu with h | h
      · exact h3 u h
      · exact k4 u h
theorem open_ty (hT : (T.all (typB P T)) = true) : ∀ (fuel : Nat) (t : TypeId) (cs : List Value) (x : DataW H × List MemPlace), nmem T t = true → DataW.trod enc P w base spare held fuel t cs = some x →
    ∃ rcs, TyC P t rcs ∧ RV.Rels w rcs cs ∧ ∀ u ∈ cs, u.oneCell' = true := by
  intro fuel
  induction fuel with
  | zero => intro t cs x _ h; simp [DataW.trod] at h
  | succ fuel ih =>
    intro t cs x ht h
    have hb := List.all_eq_true.1 hT _ (nmem_mem ht)
    unfold typB at hb
    split at hb
    · rename_i k hu
      obtain ⟨n, rfl, _, wf⟩ := DataW.trod_int hu h
      exact ⟨[.c (.int k n)], .int hu wf, by simp [RV.rels, RV.rel], by simp [Value.oneCell']⟩
    · rename_i hu
      obtain ⟨b, rfl, _⟩ := DataW.trod_bool hu h
      exact ⟨[.bool b], .bool hu, by simp [RV.rels, RV.rel], by simp [Value.oneCell']⟩
    · rename_i hu
      obtain ⟨s, rfl, _, hs⟩ := DataW.trod_string hu h
      exact ⟨[.str s], .str hu hs, by simp [RV.rels, RV.rel], by simp [Value.oneCell']⟩
    · rename_i e hu
      simp only [Bool.and_eq_true] at hb
      have hpos := Nat.le_of_ble_eq_true hb.2
      rcases DataW.trod_slice hu h with ⟨rfl, _⟩ | ⟨a, len, cap, elems, rest, n, hf, rfl, _, _, h1, h2, h3, h4, _⟩
      · refine ⟨[.seq (P.cellsOf e) []], .slice hu (Nat.zero_le _) (by simp), ?_, by simp [Value.oneCell']⟩
        simp only [RV.rels, RV.rel]
        exact ⟨_, _, rfl, ⟨none, 0, 0, rfl, rfl, Nat.le_refl _, Nat.zero_le _, fun h => absurd h (by omega)⟩, rfl⟩
      · have hn : n = fuel := by omega
        subst hn
        have hel : ∀ i, i < len → ∃ rc : List RV, TyC P e rc ∧ rc.length = P.cellsOf e ∧ ∀ (j : Nat) rr, rc[j]? = some rr → ∃ u, w.cell? (a.add (i * P.cellsOf e + j)) = some u ∧ u.oneCell' = true ∧ RV.Rel w rr u := by
          intro i hi
          have h5 := h4 i hi
          rw [List.getElem?_eq_getElem (by omega : i < elems.length)] at h5
          obtain ⟨cs', hc', ht'⟩ := Option.bind_eq_some_iff.1 h5
          obtain ⟨rc, r1, r2, r3⟩ := ih e cs' _ hb.1.1 ht'
          obtain ⟨_, hl', hat⟩ := World.cells?_some hc'
          have hlen := RV.rels_len rc cs' r2
          refine ⟨rc, r1, by omega, fun j rr hj => ?_⟩
          obtain ⟨u, e1, e2⟩ := RV.rels_at rc cs' r2 j rr hj
          have hjl := (List.getElem?_eq_some_iff.1 hj).1
          refine ⟨u, ?_, r3 u (List.mem_of_getElem? e1), e2⟩
          rw [← Go.Deep.add_add, hat j (by omega), e1]
        obtain ⟨els, l1, l2⟩ := list_of' len hel
        refine ⟨[.seq (P.cellsOf e) els], .slice hu (by omega) (fun el hel => ?_), ?_, by simp [Value.oneCell']⟩
        · obtain ⟨i, hi, rfl⟩ := List.getElem_of_mem hel
          exact (l2 i _ (List.getElem?_eq_getElem hi)).1
        · simp only [RV.rels, RV.rel]
          refine ⟨_, _, rfl, ⟨some a, len, cap, rfl, l1.symm, h1, h2, fun hn => ?_⟩, rfl⟩
          obtain ⟨rc0, q1, q2, q3⟩ := hel 0 hn
          obtain ⟨u0, q4, _⟩ := q3 0 rc0[0] (List.getElem?_eq_getElem (by omega))
          have hx := addr_plain (x := a) (w := w) (b := u0) (by simpa using q4)
          refine ⟨a.block, a.off, by rw [← hx], ?_, trivial, RV.relE_of _ _ _ fun k el hk => ?_⟩
          · rw [Nat.zero_mul, Nat.zero_add] at q4
            have := World.block_lt_of_cell? w _ q4
            rwa [hx, add_lit] at this
          · obtain ⟨_, z1, z2⟩ := l2 k el hk
            refine ⟨z1, RV.relAt_of _ _ fun j rr hj => ?_⟩
            obtain ⟨u, e1, e2, e3⟩ := z2 j rr hj
            rw [hx, add_lit] at e1
            exact ⟨u, by rw [Nat.add_assoc]; exact e1, e2, e3⟩
    · rename_i fs hu
      simp only [Bool.and_eq_true] at hb
      obtain ⟨xs, n, hf, _, hl, hxl, hfl⟩ := DataW.trod_struct hu h
      have hn : n = fuel := by omega
      subst hn
      obtain ⟨cells, c1, c2, c3, c4⟩ := open_fields (P := P) (w := w) hl fs.toList 0 hb.2 (fun f hfm => by
        obtain ⟨i, hi, rfl⟩ := List.getElem_of_mem hfm
        have hi' : i < fs.size := by simpa using hi
        have h5 := hfl i fs.toList[i] (by simp [hi'])
        rw [List.getElem?_eq_getElem (by omega : i < xs.length)] at h5
        exact ih _ _ _ (List.all_eq_true.1 hb.1 _ hfm) h5)
      simp only [List.drop_zero] at c3 c4
      exact ⟨_, .struct hu (by simpa using c1) (fun j f c hj hc => c2 j f c (by simpa using hj) hc), c3, c4⟩
    · cases hb
theorem open_arg (hT : (T.all (typB P T)) = true) {t : TypeId} (ht : nmem T t = true) {v : Value} {d : DataW H} {p : List MemPlace} (h : DataW.Trod enc P w base spare held t v d p) :
    ∃ rcs, TyC P t rcs ∧ RV.Rels w rcs v.cells.toList ∧ ∀ u ∈ v.cells.toList, u.oneCell' = true := by
  obtain ⟨fuel, hf⟩ := h
  exact open_ty hT fuel t _ _ ht hf
end
section
variable {P : Program} {t e : TypeId} {rcs : List RV}
theorem TyC.inv_int {k : IntKind} (h : TyC P t rcs) (hu : P.underlying t = some (.int k)) : ∃ n, rcs = [.c (.int k n)] ∧ (Lit.int k n).wf = true := by
  cases h with
  | int h wf => rw [hu] at h; injection h with h; injection h with h; subst h; exact ⟨_, rfl, wf⟩
  | bool h => rw [hu] at h; cases h
  | str h => rw [hu] at h; cases h
  | slice h => rw [hu] at h; cases h
  | struct h => rw [hu] at h; cases h
theorem TyC.inv_slice (h : TyC P t rcs) (hu : P.underlying t = some (.slice e)) : ∃ els, rcs = [.seq (P.cellsOf e) els] ∧ els.length ≤ maxLen ∧ ∀ el ∈ els, TyC P e el := by
  cases h with
  | int h wf => rw [hu] at h; cases h
  | bool h => rw [hu] at h; cases h
  | str h => rw [hu] at h; cases h
  | slice h hl hels => rw [hu] at h; injection h with h; injection h with h; subst h; exact ⟨_, rfl, hl, hels⟩
  | struct h => rw [hu] at h; cases h
theorem TyC.inv_struct {fs : Array Field} (h : TyC P t rcs) (hu : P.underlying t = some (.struct fs)) : ∃ cells : List (List RV), rcs = cells.flatten ∧ cells.length = fs.size ∧ ∀ (j : Nat) f c, fs[j]? = some f → cells[j]? = some c → TyC P f.type c := by
  cases h with
  | int h wf => rw [hu] at h; cases h
  | bool h => rw [hu] at h; cases h
  | str h => rw [hu] at h; cases h
  | slice h => rw [hu] at h; cases h
  | struct h hl hc => rw [hu] at h; injection h with h; injection h with h; subst h; exact ⟨_, rfl, hl, hc⟩
theorem els_of {α : Type} {f : α → List RV} {Q : α → Prop} : ∀ {els : List (List RV)}, (∀ el ∈ els, ∃ x, el = f x ∧ Q x) → ∃ l : List α, els = l.map f ∧ ∀ x ∈ l, Q x
  | [], _ => ⟨[], rfl, by simp⟩
  | el :: els, h => by
    obtain ⟨x, rfl, hx⟩ := h el (by simp)
    obtain ⟨l, e, hl⟩ := els_of (els := els) (fun e he => h e (List.mem_cons_of_mem _ he))
    exact ⟨x :: l, by rw [e]; rfl, by simpa using ⟨hx, hl⟩⟩
end
end Go.Proofs.Ytnecoghfhcimeaa
