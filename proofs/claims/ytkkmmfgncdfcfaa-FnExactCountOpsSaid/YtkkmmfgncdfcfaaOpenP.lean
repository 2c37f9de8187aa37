/- A program or a machine that came in as a law's argument: what it reads as. -/
import Derived.Test.YtkkmmfgncdfcfaaKindP
import Derived.Lib.SmallJoins
import Derived.Deep.Fields
import Derived.ChangeSame
namespace Go.Proofs.Ytkkmmfgncdfcfaa
open Go.RowKit Go.Joins Go.ChangeShapes Go.WideShapes Go.Deep

theorem list_of {α : Type} {P : Nat → α → Prop} : ∀ n, (∀ i, i < n → ∃ x, P i x) → ∃ l : List α, l.length = n ∧ ∀ i (h : i < l.length), P i l[i] := by
  intro n
  induction n with
  | zero => intro _; exact ⟨[], rfl, fun i h => absurd h (by simp)⟩
  | succ n ih =>
    intro h
    obtain ⟨l, hl, hP⟩ := ih (fun i hi => h i (by omega))
    obtain ⟨x, hx⟩ := h n (by omega)
    refine ⟨l ++ [x], by simp [hl], fun i hi => ?_⟩
    rcases Nat.lt_or_ge i n with hlt | hge
    · rw [List.getElem_append_left (by omega)]; exact hP i _
    · obtain rfl : i = n := by simp [hl] at hi; omega
      rw [List.getElem_append_right (by omega)]; simp [hl, hx]
section
variable {H : Type} {enc : TypeId × Value → H} {P : Program} {w : World} {base b0 : Nat} {spare : Nat → Bool} {held : Bool} {r : Reach}
/-- A slice of structs of one-cell fields: its cells, each with its reading. -/
theorem open_rows {t e : TypeId} {fs : Array Field} {fuel : Nat} {cs : List Value} {x : DataW H × List MemPlace} (ht : P.underlying t = some (.slice e)) (he : P.underlying e = some (.struct fs))
    (hone : oneCellFields P fs = true) (hC : P.cellsOf e = fs.size) (h : DataW.trod enc P w base spare held fuel t cs = some x) :
    cs = [.slice none 0 0] ∨
    ∃ (a : Addr) (len cap : Nat), cs = [.slice (some a) len cap] ∧ len ≤ cap ∧ cap ≤ maxLen ∧
      ∀ i, i < len → ∃ n, ∀ (j : Nat) (f : Field), fs[j]? = some f → ∃ (v : Value) (y : DataW H × List MemPlace), w.cell? (a.add (i * fs.size + j)) = some v ∧ DataW.trod enc P w base spare held n f.type [v] = some y := by
  rcases open_slice ht h with h0 | ⟨a, len, cap, m, n, D, Pl, hcs, hb, hl, hm, hmm, hx, hi⟩
  · exact .inl h0.1
  · refine .inr ⟨a, len, cap, hcs, hl, hm, fun i him => ?_⟩
    obtain ⟨cs', hc, ht'⟩ := hi i (by rw [hmm]; split <;> omega)
    rw [hC] at hc
    obtain ⟨ys, n', hn', hy, hlen, hyl, hf⟩ := DataW.trod_struct he ht'
    obtain ⟨_, hcl, hat⟩ := World.cells?_some hc
    refine ⟨n', fun j f hj => ?_⟩
    obtain ⟨ho, hk⟩ := hone_of hone j f hj
    have hjl : j < fs.size := (Array.getElem?_eq_some_iff.1 hj).1
    have hcell := hat j hjl
    have hv : cs'[j]? = some (cs'[j]'(by omega)) := List.getElem?_eq_getElem (by omega)
    have h1 := hf j f hj
    rw [ho, hk] at h1
    have hone' : (cs'.drop j).take 1 = [cs'[j]'(by omega)] := by
      rw [List.drop_eq_getElem_cons (by omega)]
      rfl
    rw [hone'] at h1
    have hys : ys[j]? = some (ys[j]'(by omega)) := List.getElem?_eq_getElem (by omega)
    refine ⟨_, _, ?_, h1.trans hys⟩
    rw [← Go.Deep.add_add, hcell, hv]
theorem open_int1 {t : TypeId} {n : Nat} {v : Value} {y : DataW H × List MemPlace} (ht : P.underlying t = some (.int .i64)) (h : DataW.trod enc P w base spare held n t [v] = some y) : ∃ z, v = .int .i64 z ∧ I64 z := by
  obtain ⟨a, e0, _, wa⟩ := DataW.trod_int ht h
  simp at e0
  exact ⟨a, e0, bounds_i64 wa⟩
end
theorem open_instrs {H : Type} {enc : TypeId × Value → H} {w : World} {base : Nat} {spare : Nat → Bool} {held : Bool} {fuel : Nat} {v : Value} {x : DataW H × List MemPlace}
    (h : DataW.trod enc Try.prog w base spare held fuel 42 [v] = some x) : ∃ is, RawN w v is ∧ ∀ i ∈ is, InsOk i := by
  rcases open_rows Try.underlying42 Try.underlying83 (by kernel_rfl) (by kernel_rfl) h with h0 | ⟨a, len, cap, hcs, hl, hm, hi⟩
  · simp at h0; subst h0
    exact ⟨[], ⟨_, _, _, rfl, Rd.nil _ _ _, Nat.le_refl _, Nat.zero_le _⟩, by simp⟩
  · simp at hcs; subst hcs
    have h3 : ∀ i, i < len → ∃ s : Ins, InsOk s ∧ ∀ j u, (insC s)[j]? = some u → w.cell? (a.add (i * 3 + j)) = some u := by
      intro i hlt
      obtain ⟨n, hf⟩ := hi i hlt
      obtain ⟨u0, y0, c0, t0⟩ := hf 0 _ rfl
      obtain ⟨u1, y1, c1, t1⟩ := hf 1 _ rfl
      obtain ⟨u2, y2, c2, t2⟩ := hf 2 _ rfl
      obtain ⟨z0, rfl, b0⟩ := open_int1 Try.underlying3 t0
      obtain ⟨z1, rfl, b1⟩ := open_int1 Try.underlying3 t1
      obtain ⟨z2, rfl, b2⟩ := open_int1 Try.underlying3 t2
      refine ⟨⟨z0, z1, z2⟩, ⟨b0, b1, b2⟩, fun j u hu => ?_⟩
      match j, hu with
      | 0, hu => injection hu with hu; subst hu; exact c0
      | 1, hu => injection hu with hu; subst hu; exact c1
      | 2, hu => injection hu with hu; subst hu; exact c2
    obtain ⟨is, hlen, hP⟩ := list_of len h3
    refine ⟨is, ⟨_, _, _, rfl, ⟨by rw [flat_len insC 3 (fun _ => rfl), hlen], fun hn => ?_⟩, hl, hm⟩, fun i hi => ?_⟩
    · have hx := addr_plain ((hP 0 (by omega)).2 0 _ rfl)
      refine ⟨a.block, a.off, by rw [← hx], fun j u hu => ?_⟩
      rw [← add_lit, ← hx]
      have hjl : j < len * 3 := by
        rcases Nat.lt_or_ge j (len * 3) with h | h
        · exact h
        · rw [List.getElem?_eq_none (by rw [flat_len insC 3 (fun _ => rfl), hlen]; omega)] at hu; cases hu
      have hq : j / 3 < is.length := by rw [hlen]; omega
      have he : j = j / 3 * 3 + j % 3 := by omega
      rw [he, flat_at insC 3 (fun _ => rfl) is (j / 3) (j % 3) hq (by omega)] at hu
      have := (hP (j / 3) hq).2 (j % 3) u hu
      rwa [← he] at this
    · obtain ⟨k, hk, rfl⟩ := List.getElem_of_mem hi
      exact (hP k hk).1
theorem open_ints1 {H : Type} {enc : TypeId × Value → H} {w : World} {base : Nat} {spare : Nat → Bool} {held : Bool} {fuel : Nat} {v : Value} {x : DataW H × List MemPlace}
    (h : DataW.trod enc Try.prog w base spare held fuel 34 [v] = some x) : ∃ zs, RawI w v zs ∧ ∀ z ∈ zs, I64 z := by
  rcases open_ints Try.underlying34 Try.underlying3 (by kernel_rfl) h with ⟨hcs, _⟩ | ⟨x, l, c, zs, hcs, _, hl, hm, hz, _, hcell, hwz⟩
  · simp at hcs; subst hcs
    exact ⟨[], ⟨_, _, _, rfl, Rd.nil _ _ _, Nat.le_refl _, Nat.zero_le _⟩, by simp⟩
  · simp at hcs; subst hcs
    exact ⟨zs.take l, ⟨_, _, _, rfl, rd_ints (w := w) (k := .i64) hl (by split at hz <;> simp [hz]) hcell, hl, hm⟩, fun z hz => bounds_i64 (hwz z (List.mem_of_mem_take hz))⟩
theorem open_program {H : Type} {enc : TypeId × Value → H} {w : World} {base b0 : Nat} {spare : Nat → Bool} {held : Bool} {r : Reach} {v : Value} {d : DataW H} {p : List MemPlace}
    (hv : Value.okWide Try.prog w r b0 44 v) (h : DataW.Trod enc Try.prog w base spare held 44 v d p) : ∃ q : Prg, RawP w v q ∧ WfP q := by
  obtain ⟨c0, c1, y0, y1, m, rfl, _, _, h0, h1⟩ := open_agg2 Try.underlying44 (by kernel_rfl) (by kernel_rfl) hv h
  obtain ⟨is, r0, f0⟩ := open_instrs h0
  obtain ⟨zs, r1, f1⟩ := open_ints1 h1
  exact ⟨⟨is, zs⟩, ⟨_, _, rfl, r0, r1⟩, f0, f1⟩
end Go.Proofs.Ytkkmmfgncdfcfaa
