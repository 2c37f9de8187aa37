/- The arguments of a law, opened to data; data of plain types, by its parts. Over any program. -/
import Derived.Test.YtnbjncafoahclaaDoorOwn
namespace Go.Proofs.YtnbjncafoahclaaDoor
set_option linter.unusedSimpArgs false
set_option linter.unusedVariables false
open Go.RowKit Go.ChangeShapes Go.WideShapes
section
variable {H : Type} {enc : TypeId × Value → H} {P : Program} {w : World} {base : Nat} {spare : Nat → Bool} {held : Bool} {T : List Nat} {r : Reach} {b0 : Nat} {t e : TypeId} {v : Value} {d : DataW H} {p : List MemPlace}
theorem open_cell (hT : (T.all (typB P T)) = true) (ht : nmem T t = true) (hc : v.cells.toList = [v]) (h : DataW.Trod enc P w base spare held t v d p) : ∃ r, TyC P t [r] ∧ RV.Rels w [r] [v] := by
  obtain ⟨rcs', h1, h2, _⟩ := open_arg hT ht h
  rw [hc] at h2
  match rcs', h2 with
  | [], h2 => simp [RV.Rels, RV.rels] at h2
  | [r], h2 => exact ⟨r, h1, h2⟩
  | _ :: _ :: _, h2 => simp [RV.Rels, RV.rels] at h2; obtain ⟨_, _, ⟨_, rfl⟩, _, _, _, h, _⟩ := h2; cases h
theorem open_agg {fs : Array Field} (hT : (T.all (typB P T)) = true) (ht : nmem T t = true) (hu : P.underlying t = some (.struct fs)) (hv : Value.okWide P w r b0 t v) (h : DataW.Trod enc P w base spare held t v d p) : ∃ rcs, TyC P t rcs ∧ RV.Rels w [.agg rcs] [v] := by
  obtain ⟨cs, rfl, _⟩ := okWide_struct hu hv
  obtain ⟨rcs, h1, h2, _⟩ := open_arg hT ht h
  exact ⟨rcs, h1, by simp only [RV.Rels, RV.rels]; exact ⟨_, [], rfl, by simp only [RV.rel]; exact ⟨cs, rfl, by simpa [Value.cells] using h2⟩, rfl⟩⟩
theorem open_int1 {k : IntKind} (hT : (T.all (typB P T)) = true) (ht : nmem T t = true) (hu : P.underlying t = some (.int k)) (hv : Value.okWide P w r b0 t v) (h : DataW.Trod enc P w base spare held t v d p) : ∃ n, RV.Rels w [.c (.int k n)] [v] ∧ (Lit.int k n).wf = true := by
  obtain ⟨n, rfl⟩ := okWide_int hu hv
  obtain ⟨r, h1, h2⟩ := open_cell hT ht (by rfl) h
  obtain ⟨m, e, hw⟩ := h1.inv_int hu
  injection e with e; subst e
  exact ⟨m, h2, hw⟩
theorem open_bool1 (hT : (T.all (typB P T)) = true) (ht : nmem T t = true) (hu : P.underlying t = some .bool) (hv : Value.okWide P w r b0 t v) (h : DataW.Trod enc P w base spare held t v d p) : ∃ b, RV.Rels w [.bool b] [v] := by
  obtain ⟨n, rfl⟩ := okWide_bool hu hv
  obtain ⟨r, h1, h2⟩ := open_cell hT ht (by rfl) h
  obtain ⟨m, e⟩ := h1.inv_bool hu
  injection e with e; subst e
  exact ⟨m, h2⟩
theorem open_str1 (hT : (T.all (typB P T)) = true) (ht : nmem T t = true) (hu : P.underlying t = some .string) (hv : Value.okWide P w r b0 t v) (h : DataW.Trod enc P w base spare held t v d p) : ∃ s, RV.Rels w [.str s] [v] ∧ s.size ≤ maxLen := by
  obtain ⟨n, rfl⟩ := okWide_string hu hv
  obtain ⟨r, h1, h2⟩ := open_cell hT ht (by rfl) h
  obtain ⟨m, e, hw⟩ := h1.inv_str hu
  injection e with e; subst e
  exact ⟨m, h2, hw⟩
theorem open_slice1 (hT : (T.all (typB P T)) = true) (ht : nmem T t = true) (hu : P.underlying t = some (.slice e)) (hv : Value.okWide P w r b0 t v) (h : DataW.Trod enc P w base spare held t v d p) : ∃ r, TyC P t [r] ∧ RV.Rels w [r] [v] := by
  obtain ⟨a, n, c, rfl⟩ := okWide_slice hu hv
  exact open_cell hT ht (by rfl) h
end
/-! ### Data of a plain type, by its parts. -/
section
variable {P : Program} {t e : TypeId} {rcs : List RV} {r : RV}
def TyCs (P : Program) : List TypeId → List (List RV) → Prop
  | [], cs => cs = []
  | t :: ts, cs => ∃ c cs', cs = c :: cs' ∧ TyC P t c ∧ TyCs P ts cs'
theorem TyCs.of : ∀ (fs : List Field) (cells : List (List RV)), cells.length = fs.length → (∀ (j : Nat) f c, fs[j]? = some f → cells[j]? = some c → TyC P f.type c) → TyCs P (fs.map (·.type)) cells
  | [], cells, hl, _ => by simpa [TyCs] using List.eq_nil_of_length_eq_zero hl
  | f :: fs, [], hl, _ => by simp at hl
  | f :: fs, c :: cs, hl, h => by
    simp only [List.map_cons, TyCs]
    exact ⟨c, cs, rfl, h 0 f c rfl rfl, TyCs.of fs cs (by simpa using hl) fun j f' c' e1 e2 => h (j + 1) f' c' (by simpa using e1) (by simpa using e2)⟩
theorem TyC.parts {fs : Array Field} (h : TyC P t rcs) (hu : P.underlying t = some (.struct fs)) : ∃ cells : List (List RV), rcs = cells.flatten ∧ TyCs P (fs.toList.map (·.type)) cells := by
  obtain ⟨cells, h1, h2, h3⟩ := h.inv_struct hu
  exact ⟨cells, h1, TyCs.of fs.toList cells (by simpa using h2) fun j f c e1 e2 => h3 j f c (by simpa using e1) e2⟩
theorem TyC.i64 (h : TyC P t rcs) (hu : P.underlying t = some (.int .i64)) : ∃ n, rcs = [.int n] ∧ I64 n := by
  obtain ⟨n, e, hw⟩ := h.inv_int hu
  exact ⟨n, e, bounds_i64 hw⟩
theorem TyC.byte (h : TyC P t rcs) (hu : P.underlying t = some (.int .u8)) : ∃ c : UInt8, rcs = [.u8 c] := by
  obtain ⟨n, e, hw⟩ := h.inv_int hu
  obtain ⟨c, rfl⟩ := u8_of_wf hw
  exact ⟨c, e⟩
theorem TyC.ints (h : TyC P t rcs) (hu : P.underlying t = some (.slice e)) (he : P.underlying e = some (.int .i64)) (hc : P.cellsOf e = 1) : ∃ l : List Int, rcs = [intsR l] ∧ l.length ≤ maxLen ∧ ∀ z ∈ l, I64 z := by
  obtain ⟨els, rfl, hl, hels⟩ := h.inv_slice hu
  obtain ⟨l, rfl, hq⟩ := els_of (f := fun z : Int => [RV.int z]) (Q := I64) fun el hel => (hels el hel).i64 he
  exact ⟨l, by rw [hc]; rfl, by simpa using hl, hq⟩
theorem TyC.bytes (h : TyC P t rcs) (hu : P.underlying t = some (.slice e)) (he : P.underlying e = some (.int .u8)) (hc : P.cellsOf e = 1) : ∃ l : List UInt8, rcs = [bytesR l] ∧ l.length ≤ maxLen := by
  obtain ⟨els, rfl, hl, hels⟩ := h.inv_slice hu
  obtain ⟨l, rfl, _⟩ := els_of (f := fun z : UInt8 => [RV.u8 z]) (Q := fun _ => True) fun el hel => (by obtain ⟨c, e⟩ := (hels el hel).byte he; exact ⟨c, e, trivial⟩)
  exact ⟨l, by rw [hc]; rfl, by simpa using hl⟩
theorem TyC.strs (h : TyC P t rcs) (hu : P.underlying t = some (.slice e)) (he : P.underlying e = some .string) (hc : P.cellsOf e = 1) : ∃ l : List ByteArray, rcs = [strsR l] ∧ l.length ≤ maxLen ∧ ∀ s ∈ l, s.size ≤ maxLen := by
  obtain ⟨els, rfl, hl, hels⟩ := h.inv_slice hu
  obtain ⟨l, rfl, hq⟩ := els_of (f := fun s : ByteArray => [RV.str s]) (Q := fun s => s.size ≤ maxLen) fun el hel => (hels el hel).inv_str he
  exact ⟨l, by rw [hc]; rfl, by simpa using hl, hq⟩
end
theorem cons_rels {w : World} {r : RV} {rs : List RV} {u : Value} {us : List Value} (h : RV.Rels w [r] [u]) (hs : RV.Rels w rs us) : RV.Rels w (r :: rs) (u :: us) := by
  simp only [RV.Rels, RV.rels] at h hs ⊢
  obtain ⟨u', us', e, h1, rfl⟩ := h
  injection e with e1 e2; subst e1
  exact ⟨u, us, rfl, h1, hs⟩
theorem nil_rels {w : World} : RV.Rels w [] [] := by simp [RV.Rels, RV.rels]
end Go.Proofs.YtnbjncafoahclaaDoor
