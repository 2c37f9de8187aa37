/- What comes in as an argument, of whatever plain type, reads as data. Over any program. -/
import Derived.Test.YtnbjncafoahclaaDoorCal
import Derived.Test.YtnbjncafoahclaaDoorKit
import Derived.Deep.Slices
import Derived.ChangeArms
import Derived.DataReads
namespace Go.Proofs.YtnbjncafoahclaaDoor
set_option linter.unusedSimpArgs false
set_option linter.unusedVariables false
open Go.RowKit Go.ChangeShapes Go.WideShapes

def tile (P : Program) : Nat → List Field → Nat → Bool
  | o, [], n => Nat.beq o n
  | o, f :: fs, n => Nat.beq f.offset o && tile P (o + P.cellsOf f.type) fs n
def typB (P : Program) (T : List Nat) (t : Nat) : Bool := match P.underlying t with
  | some (.int _) | some .bool | some .string => Nat.beq (P.cellsOf t) 1
  | some (.slice e) => nmem T e && Nat.beq (P.cellsOf t) 1 && Nat.ble 1 (P.cellsOf e)
  | some (.struct fs) => fs.toList.all (fun f => nmem T f.type) && tile P 0 fs.toList (P.cellsOf t)
  | _ => false
/-- Data of a plain type: the cells of a value of it. -/
inductive TyC (P : Program) : TypeId → List RV → Prop
  | int {t : TypeId} {k : IntKind} {n : Int} (h : P.underlying t = some (.int k)) (wf : (Lit.int k n).wf = true) : TyC P t [.c (.int k n)]
  | bool {t : TypeId} {b : Bool} (h : P.underlying t = some .bool) : TyC P t [.bool b]
  | str {t : TypeId} {s : ByteArray} (h : P.underlying t = some .string) (hs : s.size ≤ maxLen) : TyC P t [.str s]
  | slice {t e : TypeId} {els : List (List RV)} (h : P.underlying t = some (.slice e)) (hl : els.length ≤ maxLen) (hels : ∀ el ∈ els, TyC P e el) : TyC P t [.seq (P.cellsOf e) els]
  | struct {t : TypeId} {fs : Array Field} {cells : List (List RV)} (h : P.underlying t = some (.struct fs)) (hl : cells.length = fs.size) (hc : ∀ (j : Nat) f c, fs[j]? = some f → cells[j]? = some c → TyC P f.type c) : TyC P t cells.flatten
section
variable {w : World} {ok : Nat → Prop}
theorem rels_app : ∀ {ps bs : List RV} {us vs : List Value}, RV.rels w ok ps us → RV.rels w ok bs vs → RV.rels w ok (ps ++ bs) (us ++ vs)
  | [], bs, us, vs, h1, h2 => by simp only [RV.rels] at h1; subst h1; simpa using h2
  | a :: ps, bs, us, vs, h1, h2 => by
    simp only [RV.rels] at h1
    obtain ⟨u, us', rfl, k1, k2⟩ := h1
    simp only [List.cons_append, RV.rels]
    exact ⟨u, us' ++ vs, rfl, k1, rels_app k2 h2⟩
end
theorem list_of' {α : Type} {Q : Nat → α → Prop} : ∀ n, (∀ i, i < n → ∃ x, Q i x) → ∃ l : List α, l.length = n ∧ ∀ (i : Nat) x, l[i]? = some x → Q i x := by
  intro n
  induction n with
  | zero => intro _; exact ⟨[], rfl, fun i x h => by simp at h⟩
  | succ n ih =>
    intro h
    obtain ⟨l, hl, hP⟩ := ih (fun i hi => h i (by omega))
    obtain ⟨x, hx⟩ := h n (by omega)
    refine ⟨l ++ [x], by simp [hl], fun i y hi => ?_⟩
    rcases Nat.lt_or_ge i n with hlt | hge
    · rw [List.getElem?_append_left (by omega)] at hi; exact hP i y hi
    · rw [List.getElem?_append_right (by omega), hl] at hi
      have : i - n = 0 := by have := (List.getElem?_eq_some_iff.1 hi).1; simp at this; omega
      rw [this] at hi; simp at hi; subst hi
      have : i = n := by omega
      subst this; exact hx
section
variable {H : Type} {enc : TypeId × Value → H} {P : Program} {w : World} {base b0 : Nat} {spare : Nat → Bool} {held : Bool} {r : Reach} {T : List Nat}
theorem open_fields {cs : List Value} {total : Nat} (hcs : cs.length = total) : ∀ (fs : List Field) (o : Nat), tile P o fs total = true →
    (∀ f ∈ fs, ∃ rc, TyC P f.type rc ∧ RV.Rels w rc ((cs.drop f.offset).take (P.cellsOf f.type)) ∧ ∀ u ∈ (cs.drop f.offset).take (P.cellsOf f.type), u.oneCell' = true) →
    ∃ cells : List (List RV), cells.length = fs.length ∧ (∀ (j : Nat) f c, fs[j]? = some f → cells[j]? = some c → TyC P f.type c) ∧ RV.Rels w cells.flatten (cs.drop o) ∧ ∀ u ∈ cs.drop o, u.oneCell' = true
  | [], o, ht, _ => by
    simp only [tile] at ht
    have := Nat.eq_of_beq_eq_true ht
    have e : cs.drop o = [] := List.drop_eq_nil_of_le (by omega)
    rw [e]
    exact ⟨[], rfl, fun j f c h => by simp at h, by simp [RV.rels], by simp⟩
  | f :: fs, o, ht, h => by
    simp only [tile, Bool.and_eq_true] at ht
    have ho := Nat.eq_of_beq_eq_true ht.1
    obtain ⟨rc, h1, h2, h3⟩ := h f (by simp)
    obtain ⟨cells, k1, k2, k3, k4⟩ := open_fields hcs fs _ ht.2 (fun g hg => h g (by simp [hg]))
    rw [ho] at h2 h3
    have e : cs.drop o = (cs.drop o).take (P.cellsOf f.type) ++ cs.drop (o + P.cellsOf f.type) := by
      rw [← List.drop_drop, List.take_append_drop]
    refine ⟨rc :: cells, by simp [k1], fun j g c hj hc => ?_, ?_, ?_⟩
    · cases j with
      | zero => simp at hj hc; subst hj; subst hc; exact h1
      | succ j => simp at hj hc; exact k2 j g c hj hc
    · rw [e, List.flatten_cons]; exact rels_app h2 k3
    · rw [e]
      intro u hu
      rcases List.mem_append.1 hu with h | h
      · exact h3 u h
      · exact k4 u h
theorem open_ty (hT : (T.all (typB P T)) = true) : ∀ (fuel : Nat) (t : TypeId) (cs : List Value) (x : DataW H × List MemPlace), nmem T t = true → DataW.trod enc P w base spare held fuel t cs = some x →
    ∃ rcs, TyC P t rcs ∧ RV.Rels w rcs cs ∧ ∀ u ∈ cs, u.oneCell' = true := by
  intro fuel
  induction fuel with
  | zero => intro t cs x _ h; simp [DataW.trod] at h
  | succ fuel ih =>
    intro t cs x ht h
    have hb := List.all_eq_true.1 hT _ (nmem_mem ht)
    unfold typB at hb
    split at hb
    · rename_i k hu
      obtain ⟨n, rfl, _, wf⟩ := DataW.trod_int hu h
      exact ⟨[.c (.int k n)], .int hu wf, by simp [RV.rels, RV.rel], by simp [Value.oneCell']⟩
    · rename_i hu
      obtain ⟨b, rfl, _⟩ := DataW.trod_bool hu h
      exact ⟨[.bool b], .bool hu, by simp [RV.rels, RV.rel], by simp [Value.oneCell']⟩
    · rename_i hu
      obtain ⟨s, rfl, _, hs⟩ := DataW.trod_string hu h
      exact ⟨[.str s], .str hu hs, by simp [RV.rels, RV.rel], by simp [Value.oneCell']⟩
    · rename_i e hu
      simp only [Bool.and_eq_true] at hb
      have hpos := Nat.le_of_ble_eq_true hb.2
      rcases DataW.trod_slice hu h with ⟨rfl, _⟩ | ⟨a, len, cap, elems, rest, n, hf, rfl, _, _, h1, h2, h3, h4, _⟩
      · refine ⟨[.seq (P.cellsOf e) []], .slice hu (Nat.zero_le _) (by simp), ?_, by simp [Value.oneCell']⟩
        simp only [RV.rels, RV.rel]
        exact ⟨_, _, rfl, ⟨none, 0, 0, rfl, rfl, Nat.le_refl _, Nat.zero_le _, fun h => absurd h (by omega)⟩, rfl⟩
      · have hn : n = fuel := by omega
        subst hn
        have hel : ∀ i, i < len → ∃ rc : List RV, TyC P e rc ∧ rc.length = P.cellsOf e ∧ ∀ (j : Nat) rr, rc[j]? = some rr → ∃ u, w.cell? (a.add (i * P.cellsOf e + j)) = some u ∧ u.oneCell' = true ∧ RV.Rel w rr u := by
          intro i hi
          have h5 := h4 i hi
          rw [List.getElem?_eq_getElem (by omega : i < elems.length)] at h5
          obtain ⟨cs', hc', ht'⟩ := Option.bind_eq_some_iff.1 h5
          obtain ⟨rc, r1, r2, r3⟩ := ih e cs' _ hb.1.1 ht'
          obtain ⟨_, hl', hat⟩ := World.cells?_some hc'
          have hlen := RV.rels_len rc cs' r2
          refine ⟨rc, r1, by omega, fun j rr hj => ?_⟩
          obtain ⟨u, e1, e2⟩ := RV.rels_at rc cs' r2 j rr hj
          have hjl := (List.getElem?_eq_some_iff.1 hj).1
          refine ⟨u, ?_, r3 u (List.mem_of_getElem? e1), e2⟩
          rw [← Go.Deep.add_add, hat j (by omega), e1]
        obtain ⟨els, l1, l2⟩ := list_of' len hel
        refine ⟨[.seq (P.cellsOf e) els], .slice hu (by omega) (fun el hel => ?_), ?_, by simp [Value.oneCell']⟩
        · obtain ⟨i, hi, rfl⟩ := List.getElem_of_mem hel
          exact (l2 i _ (List.getElem?_eq_getElem hi)).1
        · simp only [RV.rels, RV.rel]
          refine ⟨_, _, rfl, ⟨some a, len, cap, rfl, l1.symm, h1, h2, fun hn => ?_⟩, rfl⟩
          obtain ⟨rc0, q1, q2, q3⟩ := hel 0 hn
          obtain ⟨u0, q4, _⟩ := q3 0 rc0[0] (List.getElem?_eq_getElem (by omega))
          have hx := addr_plain (x := a) (w := w) (b := u0) (by simpa using q4)
          refine ⟨a.block, a.off, by rw [← hx], ?_, trivial, RV.relE_of _ _ _ fun k el hk => ?_⟩
          · rw [Nat.zero_mul, Nat.zero_add] at q4
            have := World.block_lt_of_cell? w _ q4
            rwa [hx, add_lit] at this
          · obtain ⟨_, z1, z2⟩ := l2 k el hk
            refine ⟨z1, RV.relAt_of _ _ fun j rr hj => ?_⟩
            obtain ⟨u, e1, e2, e3⟩ := z2 j rr hj
            rw [hx, add_lit] at e1
            exact ⟨u, by rw [Nat.add_assoc]; exact e1, e2, e3⟩
    · rename_i fs hu
      simp only [Bool.and_eq_true] at hb
      obtain ⟨xs, n, hf, _, hl, hxl, hfl⟩ := DataW.trod_struct hu h
      have hn : n = fuel := by omega
      subst hn
      obtain ⟨cells, c1, c2, c3, c4⟩ := open_fields (P := P) (w := w) hl fs.toList 0 hb.2 (fun f hfm => by
        obtain ⟨i, hi, rfl⟩ := List.getElem_of_mem hfm
        have hi' : i < fs.size := by simpa using hi
        have h5 := hfl i fs.toList[i] (by simp [hi'])
        rw [List.getElem?_eq_getElem (by omega : i < xs.length)] at h5
        exact ih _ _ _ (List.all_eq_true.1 hb.1 _ hfm) h5)
      simp only [List.drop_zero] at c3 c4
      exact ⟨_, .struct hu (by simpa using c1) (fun j f c hj hc => c2 j f c (by simpa using hj) hc), c3, c4⟩
    · cases hb
/-- A whole argument. -/
theorem open_arg (hT : (T.all (typB P T)) = true) {t : TypeId} (ht : nmem T t = true) {v : Value} {d : DataW H} {p : List MemPlace} (h : DataW.Trod enc P w base spare held t v d p) :
    ∃ rcs, TyC P t rcs ∧ RV.Rels w rcs v.cells.toList ∧ ∀ u ∈ v.cells.toList, u.oneCell' = true := by
  obtain ⟨fuel, hf⟩ := h
  exact open_ty hT fuel t _ _ ht hf
end
section
variable {P : Program} {t e : TypeId} {rcs : List RV}
theorem TyC.inv_int {k : IntKind} (h : TyC P t rcs) (hu : P.underlying t = some (.int k)) : ∃ n, rcs = [.c (.int k n)] ∧ (Lit.int k n).wf = true := by
  cases h with
  | int h wf => rw [hu] at h; injection h with h; injection h with h; subst h; exact ⟨_, rfl, wf⟩
  | bool h => rw [hu] at h; cases h
  | str h => rw [hu] at h; cases h
  | slice h => rw [hu] at h; cases h
  | struct h => rw [hu] at h; cases h
theorem TyC.inv_bool (h : TyC P t rcs) (hu : P.underlying t = some .bool) : ∃ b, rcs = [.bool b] := by
  cases h with
  | int h wf => rw [hu] at h; cases h
  | bool h => exact ⟨_, rfl⟩
  | str h => rw [hu] at h; cases h
  | slice h => rw [hu] at h; cases h
  | struct h => rw [hu] at h; cases h
theorem TyC.inv_str (h : TyC P t rcs) (hu : P.underlying t = some .string) : ∃ s, rcs = [.str s] ∧ s.size ≤ maxLen := by
  cases h with
  | int h wf => rw [hu] at h; cases h
  | bool h => rw [hu] at h; cases h
  | str h hs => exact ⟨_, rfl, hs⟩
  | slice h => rw [hu] at h; cases h
  | struct h => rw [hu] at h; cases h
theorem TyC.inv_slice (h : TyC P t rcs) (hu : P.underlying t = some (.slice e)) : ∃ els, rcs = [.seq (P.cellsOf e) els] ∧ els.length ≤ maxLen ∧ ∀ el ∈ els, TyC P e el := by
  cases h with
  | int h wf => rw [hu] at h; cases h
  | bool h => rw [hu] at h; cases h
  | str h => rw [hu] at h; cases h
  | slice h hl hels => rw [hu] at h; injection h with h; injection h with h; subst h; exact ⟨_, rfl, hl, hels⟩
  | struct h => rw [hu] at h; cases h
theorem TyC.inv_struct {fs : Array Field} (h : TyC P t rcs) (hu : P.underlying t = some (.struct fs)) : ∃ cells : List (List RV), rcs = cells.flatten ∧ cells.length = fs.size ∧ ∀ (j : Nat) f c, fs[j]? = some f → cells[j]? = some c → TyC P f.type c := by
  cases h with
  | int h wf => rw [hu] at h; cases h
  | bool h => rw [hu] at h; cases h
  | str h => rw [hu] at h; cases h
  | slice h => rw [hu] at h; cases h
  | struct h hl hc => rw [hu] at h; injection h with h; injection h with h; subst h; exact ⟨_, rfl, hl, hc⟩
/-- Elements of which each is such cells: a list. -/
theorem els_of {α : Type} {f : α → List RV} {Q : α → Prop} : ∀ {els : List (List RV)}, (∀ el ∈ els, ∃ x, el = f x ∧ Q x) → ∃ l : List α, els = l.map f ∧ ∀ x ∈ l, Q x
  | [], _ => ⟨[], rfl, by simp⟩
  | el :: els, h => by
    obtain ⟨x, rfl, hx⟩ := h el (by simp)
    obtain ⟨l, e, hl⟩ := els_of (els := els) (fun e he => h e (List.mem_cons_of_mem _ he))
    exact ⟨x :: l, by rw [e]; rfl, by simpa using ⟨hx, hl⟩⟩
end
end Go.Proofs.YtnbjncafoahclaaDoor
