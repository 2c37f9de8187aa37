/- Gathered texts. -/
import Derived.Test.YtofefjklipglhaaDoorGat0
import Derived.Great.BuildSlice
import Derived.Test.YtofefjklipglhaaDoorChecked
import Derived.WalkSmall
import Derived.Lib.ItoaNum
import Derived.Shelf.LaysM
import Derived.Shelf.Strconv.Itoa3
import Derived.Test.YtofefjklipglhaaDoorProg
import Derived.Test.YtofefjklipglhaaDoorRows
import Derived.Stop.LaidErr
import Derived.Laws.Slices
import Derived.Laws.RangeString
import Derived.StillTail
/- Loops over values, and tests that are decided. Over any program. -/
namespace Go.Proofs.YtofefjklipglhaaDoor
set_option linter.unusedSimpArgs false
set_option linter.unusedVariables false
open Go.RowKit
section
variable {P : Program} {C : Ctx} {ops : Array Oper} {rest : List Oper} {k : List Item} {R : Act → World → Prop} {env : Env} {σ : List Ob} {t : Nat} {ty : TypeId} {pos : String} {after : Array Edge}
section
variable {x y : Code} {φ : Prop} [Decidable φ]
theorem Runs.cond_yes (hc : look env t = .bool (decide φ)) (hφ : φ) (h : Runs P C (.code x :: k) R ⟨(t, .bool true) :: env, σ⟩) : Runs P C (.code (.cond (.tmp t) x y) :: k) R ⟨env, σ⟩ := Runs.cond_dec hc (fun _ => h) (fun h => absurd hφ h)
theorem Runs.cond_no (hc : look env t = .bool (decide φ)) (hφ : ¬ φ) (h : Runs P C (.code y :: k) R ⟨(t, .bool false) :: env, σ⟩) : Runs P C (.code (.cond (.tmp t) x y) :: k) R ⟨env, σ⟩ := Runs.cond_dec hc (fun h => absurd h hφ) (fun _ => h)
theorem Runs.cond_nyes (hc : look env t = .bool (!decide φ)) (hφ : ¬ φ) (h : Runs P C (.code x :: k) R ⟨(t, .bool true) :: env, σ⟩) : Runs P C (.code (.cond (.tmp t) x y) :: k) R ⟨env, σ⟩ := Runs.cond_ndec hc (fun _ => h) (fun h => absurd h hφ)
theorem Runs.cond_nno (hc : look env t = .bool (!decide φ)) (hφ : φ) (h : Runs P C (.code y :: k) R ⟨(t, .bool false) :: env, σ⟩) : Runs P C (.code (.cond (.tmp t) x y) :: k) R ⟨env, σ⟩ := Runs.cond_ndec hc (fun h => absurd hφ h) (fun _ => h)
end
theorem tl {C : Ctx} {t m : Nat} (hn : C.n = m) (h : Nat.ble (t + 1) m = true) : t < C.n := Nat.lt_of_lt_of_eq (Nat.le_of_ble_eq_true h) hn.symm
theorem RunsL.pe {o : Oper} {m : Nat} (hn : C.n = m) (hg : o.guard = none) (hd : o.dst = some t) (ht : Nat.ble (t + 1) m = true) (h : ∃ v, Pur P C o env σ v ∧ RunsL P C ops rest k R ⟨(t, v) :: env, σ⟩) : RunsL P C ops (o :: rest) k R ⟨env, σ⟩ := by
  obtain ⟨v, h, hk⟩ := h
  exact RunsL.pur h hg hd (tl hn ht) hk
theorem RunsD.pe {o : Oper} (hg : gsay ops env o.guard = some true) (hd : o.dst = some t) (h : ∃ v, Pur P C o env σ v ∧ RunsD P C ops rest k R ⟨(t, v) :: env, σ⟩) : RunsD P C ops (o :: rest) k R ⟨env, σ⟩ := by
  obtain ⟨v, h, hk⟩ := h
  exact RunsD.pur h hg hd hk
theorem Runs.loopN (m : Nat) {c : Code} {k' : List Item} (hc : Proofs.YtofefjklipglhaaDoor.ctls m k = .code (.loop c) :: k') (E : Nat → Env) (s : Nat → List Ob) (Q : Nat → Prop) (len : Nat) (j0 : Nat) (hj0 : j0 ≤ len) (h0 : Q j0) (henv : Sub (E j0) env) (hs : s j0 = σ)
    (round : ∀ j, j ≤ len → Q j → (∀ env' σ', Sub (E (j + 1)) env' → j < len → Q (j + 1) → s (j + 1) = σ' → Runs P C (.inLoop c :: k') R ⟨env', σ'⟩) → Runs P C (.code c :: .inLoop c :: k') R ⟨E j, s j⟩) :
    Runs P C k R ⟨env, σ⟩ := by
  refine Runs.ctls m hc ?_
  subst hs
  refine Runs.keep (E j0) henv ?_
  refine Runs.loop (fun n S => ∃ j, j + n = len ∧ Q j ∧ S = ⟨E j, s j⟩) (fun n S hI ih => ?_) (len - j0) ⟨j0, by omega, h0, rfl⟩
  obtain ⟨j, hj, hQ, rfl⟩ := hI
  refine round j (by omega) hQ fun env' σ' hsub hlt hQ' hσ => ?_
  subst hσ
  exact Runs.keep _ hsub (ih (n - 1) (by omega) _ ⟨j + 1, by omega, hQ', rfl⟩)
theorem Runs.loopI (m : Nat) {c : Code} {k' : List Item} (hc : Proofs.YtofefjklipglhaaDoor.ctls m k = .code (.loop c) :: k') (I : Nat → Env → List Ob → Prop) (n : Nat) (env0 : Env) (henv : Sub env0 env) (h0 : I n env0 σ)
    (round : ∀ n E s, I n E s → (∀ n' E' env' s', n' < n → I n' E' s' → Sub E' env' → Runs P C (.inLoop c :: k') R ⟨env', s'⟩) → Runs P C (.code c :: .inLoop c :: k') R ⟨E, s⟩) :
    Runs P C k R ⟨env, σ⟩ := by
  refine Runs.ctls m hc (Runs.keep env0 henv ?_)
  refine Runs.loop (fun n S => I n S.env S.σ) (fun n S hI ih => ?_) n h0
  obtain ⟨E, s⟩ := S
  exact round n E s hI fun n' E' env' s' hn hI' hsub => Runs.keep _ hsub (ih n' hn ⟨E', s'⟩ hI')
end
theorem ends_own {P : Program} {C : Ctx} {fn : Func} {R : RR → Prop} {S : St} {t i sz : Nat} {e : TypeId} {cs : List AV} {rs : List RV} (hm : ∀ b, ¬ C.mu b) (hr : fn.results = #[.tmp t]) (hx : look S.env t = .own i) (ho : S.σ[i]? = some ⟨e, sz, cs⟩) (hc : cs = rs.map .ro) (hR : R (.row e sz rs)) : ∀ a w, Sim C S a w → Ends P C fn R a w :=
  ends1 hm hr _ rfl (.row e sz rs) [i] (by simp only [Harv]; exact ⟨i, hx, by rw [ho, hc], rfl⟩) (by simp) hR
theorem rr_bool {a b : Bool} (h : a = b) : RR.ro (.bool a) = .ro (.bool b) := by rw [h]
theorem rr_int {a b : Int} (h : a = b) : RR.ro (.int a) = .ro (.int b) := by rw [h]
theorem rr_ro {a b : RV} (h : a = b) : RR.ro a = .ro b := by rw [h]
def intsR (l : List Int) : RV := .seq 1 (l.map fun z => [.int z])
def bytesR (l : List UInt8) : RV := .seq 1 (l.map fun z => [.u8 z])
def strsR (l : List ByteArray) : RV := .seq 1 (l.map fun z => [.str z])
theorem AC.calls {P : Program} {f : FuncId} {args : List RV} {R : RR → Prop} (h : AC P f args R) (w : World) (us : Array Value) (hu : RV.Rels w args us.toList) :
    Calls P f us w fun e w' => ∃ u rr bs, e = .returned u ∧ R rr ∧ RR.rel w' (fun b => b ∉ bs) rr u bs ∧ bs.Nodup ∧ (∀ b ∈ bs, w.heap.size ≤ b ∧ b < w'.heap.size) ∧ Below w.heap.size w w' :=
  (h w (fun _ => True) us (fun _ _ => trivial) hu).mono fun _ _ ⟨u, rr, bs, e, h1, h2, h3⟩ => ⟨u, rr, bs, e, h1, RR.rel_mono (fun _ hb => hb.2) _ _ _ h2, h3⟩
theorem AC.law {P : Program} {f : FuncId} {args : List RV} (h : ACv P f args (.bool true)) (w : World) (us : Array Value) (hu : RV.Rels w args us.toList) :
    Calls P f us w fun e w' => e = .returned (.bool true) ∧ Below w.heap.size w w' :=
  (h.calls w us hu).mono fun _ _ ⟨u, rr, bs, e, h1, h2, _, _, h5⟩ => by
    subst h1
    simp only [RR.rel, RV.rel] at h2
    rw [e, h2.1]
    exact ⟨rfl, h5⟩
end Go.Proofs.YtofefjklipglhaaDoor
/- What a function built becomes data at its end; rows of wide elements. Over any program. -/
namespace Go.Proofs.YtofefjklipglhaaDoor
set_option linter.unusedSimpArgs false
set_option linter.unusedVariables false
open Go.RowKit
open AV (Mem Keeps)
theorem AC.shut {P : Program} {f : FuncId} {args : List RV} {R : RR → Prop} {r : RV} (h : AC P f args R) (hs : ∀ rr, R rr → Seals rr r) : ACv P f args r :=
  fun w ok us h0 hu => (h w ok us h0 hu).mono fun _ _ ⟨u, rr, bs, e, h1, h2, h3, h4, h5⟩ => ⟨u, .ro r, [], e, rfl, by
    simp only [RR.rel]
    exact ⟨seals_rel (fun b hb => ⟨hb.1, by simp⟩) rr r u bs (hs rr h1) h2 (fun b hb => ⟨h0 b (h4 b hb).1, by simp⟩), trivial⟩, by simp, by simp, h5⟩
section
variable {P : Program} {C : Ctx} {fn : Func} {R : RR → Prop} {S : St} {a : Act} {w : World}
theorem ends_lend {x : ResultVar} {v : AV} {r : RV} (hm : ∀ b, ¬ C.mu b) (hr : fn.results = #[x]) (hx : ResV P S x v) (hR : R (.ro r)) (hl : Lends C S.σ v r) : ∀ a w, Sim C S a w → Ends P C fn R a w := by
  intro a w ⟨h1, h2, φ, hG, hH⟩
  obtain ⟨u, k1, k2⟩ := resV_run (P := P) hG hH x v hx
  have hrel := hl ⟨w, φ, S.σ, C.ok⟩ u C.ok hG rfl (fun b hb => hb.1) (fun i g hi hg => hG.frm.new g ((hG.mine i g hi hg).resolve_left (hm g))) k2
  exact ⟨h1, u, by rw [results_eq, hr]; simp [k1], .ro r, [], hR, by simp only [RR.rel]; exact ⟨RV.rel_mono ⟨Nat.le_refl _, fun b _ hb => ⟨⟨hb, by simp⟩, rfl⟩⟩ r u hrel, trivial⟩, by simp, by simp, hG.frm.below0 hm⟩
theorem ends_cellR {p ty n i off : Nat} {o : Ob} {rs : List RV} [ht : TN P ty n] (hm : ∀ b, ¬ C.mu b) (hr : fn.results = #[.cell p ty]) (h1 : look S.env p = .obj i off) (h2 : S.σ[i]? = some o) (h3 : off + n ≤ o.cs.length) (hR : R (.ro (.agg rs))) (hc : (o.cs.drop off).take n = rs.map .ro) : ∀ a w, Sim C S a w → Ends P C fn R a w :=
  ends_lend (v := .agg ((o.cs.drop off).take n)) hm hr (by simp only [ResV]; exact ⟨i, off, o, h1, h2, .inr ⟨n, ht, h3, rfl⟩⟩) hR (hc ▸ Lends.agg (LendsL.ros rs))
end
section
variable {α : Type} (f : α → List RV) (zc : List RV) (sz : Nat)
def filled (l : List α) (j : Nat) : List RV := ((l.take j).map f).flatten ++ (List.replicate (l.length - j) zc).flatten
variable {f zc sz}
end
section
variable {P : Program} {C : Ctx} {ops : Array Oper} {rest : List Oper} {k : List Item} {R : Act → World → Prop} {env : Env} {σ : List Ob} {t : Nat} {ty : TypeId} {pos : String} {after : Array Edge} {gd : Option (Nat × Bool)}
theorem Runs.shed {E' : Env} {s' more : List Ob} (hsub : Sub E' env) (hσ : σ = s' ++ more) (hf : Free s'.length E') (ho : FreeO s'.length s') (h : Runs P C k R ⟨E', s'⟩) : Runs P C k R ⟨env, σ⟩ := by
  subst hσ
  exact Runs.keep E' hsub (Runs.drop hf ho h)
theorem Runs.loopD {more0 : List Ob} (m : Nat) {c : Code} {k' : List Item} (hc : Proofs.YtofefjklipglhaaDoor.ctls m k = .code (.loop c) :: k') (E : Nat → Env) (s : Nat → List Ob) (hf : ∀ j, Free (s j).length (E j) ∧ FreeO (s j).length (s j)) (Q : Nat → Prop) (len : Nat) (j0 : Nat) (hj0 : j0 ≤ len) (h0 : Q j0) (henv : Sub (E j0) env) (hs : s j0 ++ more0 = σ)
    (round : ∀ j, j ≤ len → Q j → (∀ env' σ' more, Sub (E (j + 1)) env' → j < len → Q (j + 1) → s (j + 1) ++ more = σ' → Runs P C (.inLoop c :: k') R ⟨env', σ'⟩) → Runs P C (.code c :: .inLoop c :: k') R ⟨E j, s j⟩) :
    Runs P C k R ⟨env, σ⟩ := by
  refine Runs.ctls m hc ?_
  refine Runs.shed henv hs.symm (hf j0).1 (hf j0).2 ?_
  refine Runs.loop (fun n S => ∃ j, j + n = len ∧ Q j ∧ S = ⟨E j, s j⟩) (fun n S hI ih => ?_) (len - j0) ⟨j0, by omega, h0, rfl⟩
  obtain ⟨j, hj, hQ, rfl⟩ := hI
  refine round j (by omega) hQ fun env' σ' more hsub hlt hQ' hσ => ?_
  exact Runs.shed hsub hσ.symm (hf _).1 (hf _).2 (ih (n - 1) (by omega) _ ⟨j + 1, by omega, hQ', rfl⟩)
def partCells (env : Env) : Nat → List (Nat × Operand) → Option (List (List AV))
  | _, [] => some []
  | n, p :: l => match Nat.beq p.1 n with
    | true => match cells? (ev env p.2) with
      | some c => match partCells env (n + 1) l with
        | some cs => some (c :: cs)
        | none => none
      | none => none
    | false => none
theorem partCells_ok {m : Mem} {a : Act} : ∀ (l : List (Nat × Operand)) (n : Nat) (css : List (List AV)), (∀ p ∈ l, AV.rel m (ev env p.2) (a.eval p.2)) → partCells env n l = some css →
    (l.map fun p => (p.1, a.eval p.2)) = ((l.map fun p => a.eval p.2).zipIdx n).map (fun x => (x.2, x.1)) ∧ css.length = l.length ∧
    ∀ (i : Nat) p c, l[i]? = some p → css[i]? = some c → (a.eval p.2).cells.size = c.length ∧ ∀ (j : Nat) x, c[j]? = some x → ∃ y, (a.eval p.2).cells[j]? = some y ∧ y.oneCell' = true ∧ AV.rel m x y
  | [], n, css, _, h => by simp only [partCells, Option.some.injEq] at h; subst h; simp
  | p :: l, n, css, hH, h => by
    unfold partCells at h
    split at h
    · rename_i hb
      split at h
      · rename_i c hc
        split at h
        · rename_i cs hcs
          injection h with h; subst h
          obtain ⟨h1, h2, h3⟩ := partCells_ok l (n + 1) cs (fun p hp => hH p (by simp [hp])) hcs
          have hn : p.1 = n := Nat.eq_of_beq_eq_true hb
          refine ⟨by simp only [List.map_cons, List.zipIdx_cons, h1, hn], by simp [h2], fun i q d e1 e2 => ?_⟩
          cases i with
          | zero => simp at e1 e2; subst e1; subst e2; exact cells_rel (hH p (by simp)) hc
          | succ i => exact h3 i q d (by simpa using e1) (by simpa using e2)
        · cases h
      · cases h
    · cases h
theorem flatMap_at {α β : Type} {sz : Nat} (f : α → List β) : ∀ (l : List α), (∀ x ∈ l, (f x).length = sz) → ∀ (i j : Nat) x, l[i]? = some x → j < sz → (l.flatMap f)[i * sz + j]? = (f x)[j]?
  | [], _, i, j, x, h, _ => by simp at h
  | y :: l, hl, i, j, x, h, hj => by
    have hy := hl y (by simp)
    rw [List.flatMap_cons]
    cases i with
    | zero => simp at h; subst h; rw [Nat.zero_mul, Nat.zero_add, List.getElem?_append_left (by omega)]
    | succ i =>
      rw [List.getElem?_append_right (by rw [Nat.succ_mul]; omega), hy, show (i + 1) * sz + j - sz = i * sz + j by rw [Nat.succ_mul]; omega]
      exact flatMap_at f l (fun x hx => hl x (by simp [hx])) i j x (by simpa using h) hj
theorem built {tt e : TypeId} {z : Value} {sz bytes len : Nat} {parts : Array (Nat × Operand)} {css : List (List AV)} [hs : SL P tt e z sz bytes] {m : Mem} {a : Act} (hH : ∀ p ∈ parts.toList, AV.rel m (ev env p.2) (a.eval p.2)) (hp : partCells env 0 parts.toList = some css)
    (hl : css.length = len) (hsz : ∀ c ∈ css, c.length = sz) (hpos : 0 < len * sz) (hsm : len * sz ≤ 16777216) :
    ∃ us : Array Value, (Instr.buildSlice tt len (parts.map fun p => (p.1, a.eval p.2))).run P m.w = .ok (slv m.w.heap.size len len) (m.w.alloc (.cells us e)) ∧ us.size = len * sz ∧
      ∀ (j : Nat) v, css.flatten[j]? = some v → ∃ u, us[j]? = some u ∧ u.oneCell' = true ∧ AV.rel m v u := by
  obtain ⟨h1, h2, h3⟩ := partCells_ok parts.toList 0 css hH hp
  obtain ⟨i, hi, hz0, hsz', hb⟩ := hs.el.hi
  have hs0 : 0 < sz := Nat.pos_of_mul_pos_left hpos
  let vs := parts.toList.map fun p => a.eval p.2
  have hvl : vs.length = len := by simp [vs, ← hl, h2]
  have hvat : ∀ (i : Nat) v, vs[i]? = some v → ∃ p c, parts.toList[i]? = some p ∧ css[i]? = some c ∧ v = a.eval p.2 := fun i v hv => by
    simp only [vs, List.getElem?_map, Option.map_eq_some_iff] at hv
    obtain ⟨p, hp', rfl⟩ := hv
    have hil : i < css.length := by rw [h2]; exact (List.getElem?_eq_some_iff.1 hp').1
    exact ⟨p, css[i], hp', List.getElem?_eq_getElem hil, rfl⟩
  have hcs : ∀ v ∈ vs, v.cells.size = sz := fun v hv => by
    obtain ⟨i, hi', rfl⟩ := List.getElem_of_mem hv
    obtain ⟨p, c, e1, e2, e3⟩ := hvat i _ (List.getElem?_eq_getElem hi')
    rw [e3, (h3 i p c e1 e2).1]
    exact hsz c (List.mem_of_getElem? e2)
  refine ⟨(vs.flatMap fun v => v.cells.toList).toArray, ?_, ?_, fun j v hj => ?_⟩
  · refine run_buildSlice m.w tt e len _ _ i z hs.el.ht hi hz0 (by rw [hsz']; omega) (by rw [hsz']; omega) ?_
    rw [Array.toList_map, h1, hsz']
    exact Great.fill_whole hs0 vs _ hcs (by simp [hvl])
  · rw [List.size_toArray, List.length_flatMap]
    have : ∀ l : List Value, (∀ v ∈ l, v.cells.size = sz) → (l.map fun v => v.cells.toList.length).sum = l.length * sz := by
      intro l hl'
      induction l with
      | nil => simp
      | cons v l ih => rw [List.map_cons, List.sum_cons, ih (fun v hv => hl' v (by simp [hv])), Array.length_toList, hl' v (by simp), List.length_cons, Nat.succ_mul, Nat.add_comm]
    rw [this vs hcs, hvl]
  · have hjl : j < css.length * sz := by rw [← flatten_len hsz]; exact (List.getElem?_eq_some_iff.1 hj).1
    have hq : j / sz < css.length := Nat.div_lt_of_lt_mul (by rwa [Nat.mul_comm])
    have hr : j % sz < sz := Nat.mod_lt _ hs0
    have hjj : j = (j / sz) * sz + j % sz := by rw [Nat.mul_comm]; exact (Nat.div_add_mod j sz).symm
    have hvq : j / sz < vs.length := by rw [hvl, ← hl]; exact hq
    obtain ⟨p, c, e1, e2, e3⟩ := hvat (j / sz) _ (List.getElem?_eq_getElem hvq)
    obtain ⟨k1, k2⟩ := h3 _ p c e1 e2
    have hcv : c[j % sz]? = some v := by
      have := flatMap_at (fun x : List AV => x) css hsz (j / sz) (j % sz) c e2 hr
      rw [← this, ← hjj, ← hj]; simp [List.flatMap]
    obtain ⟨y, y1, y2, y3⟩ := k2 _ v hcv
    refine ⟨y, ?_, y2, y3⟩
    rw [List.getElem?_toArray, hjj, flatMap_at (fun v : Value => v.cells.toList) vs (by simpa using hcs) (j / sz) (j % sz) _ (List.getElem?_eq_getElem hvq) hr, e3, Array.getElem?_toList, y1]
theorem op_build {tt e : TypeId} {z : Value} {sz bytes len : Nat} {parts : Array (Nat × Operand)} {css : List (List AV)} [hs : SL P tt e z sz bytes] (hp : partCells env 0 parts.toList = some css)
    (hl : css.length = len) (hsz : (css.all fun c => Nat.beq c.length sz) = true) (hpos : Nat.ble 1 (len * sz) = true) (hsm : Nat.ble (len * sz) 16777216 = true) (ht : t < C.n) (hk : RunsL P C ops rest k R ⟨(t, .own σ.length) :: env, σ ++ [⟨e, sz, css.flatten⟩]⟩) :
    RunsL P C ops (⟨some t, .buildSlice tt len parts, ty, pos, after, none⟩ :: rest) k R ⟨env, σ⟩ :=
  RunsL.val rfl rfl ht (fun a w φ hG hH => by
    have hsz' : ∀ c ∈ css, c.length = sz := fun c hc => Nat.eq_of_beq_eq_true (List.all_eq_true.1 hsz c hc)
    have h1 := Nat.le_of_ble_eq_true hpos
    have h2 := Nat.le_of_ble_eq_true hsm
    obtain ⟨us, k1, k2, k3⟩ := built (P := P) (tt := tt) (a := a) (m := ⟨w, φ, σ, C.ok⟩) (fun p _ => ev_rel hH p.2) hp hl hsz' h1 h2
    have hcl : css.flatten.length = len * sz := by rw [flatten_len hsz', hl]
    have hg := good_alloc hG us e sz css.flatten (by omega) k3
    have hlen : 0 < sz := Nat.pos_of_mul_pos_left h1
    refine ⟨slv w.heap.size len len, _, _, by simp only [execOp, Sem.run_bind]; rw [k1]; rfl, hg.1, hg.2, ?_⟩
    simp only [AV.rel]
    have hml : len ≤ maxLen := by have : len * 1 ≤ len * sz := Nat.mul_le_mul_left _ hlen; simp [maxLen]; omega
    exact ⟨⟨e, sz, css.flatten⟩, len, by rw [List.getElem?_append_right (Nat.le_refl _), Nat.sub_self]; rfl, hcl, hlen, .inr ⟨w.heap.size, len, _, upd_eq, rfl, heap_alloc_new w _, Nat.le_refl _, hml, k2⟩⟩) hk
def roList : List AV → Option (List RV)
  | [] => some []
  | .ro r :: l => match roList l with
    | some rs => some (r :: rs)
    | none => none
  | _ :: _ => none
theorem roList_eq : ∀ (l : List AV) (rs : List RV), roList l = some rs → l = rs.map .ro
  | [], rs, h => by simp only [roList, Option.some.injEq] at h; subst h; rfl
  | .ro r :: l, rs, h => by
    unfold roList at h
    split at h
    · rename_i rs' h'
      injection h with h; subst h
      rw [roList_eq l rs' h']; rfl
    · cases h
  | .obj _ _ :: l, rs, h => by cases h
  | .own _ :: l, rs, h => by cases h
  | .agg _ :: l, rs, h => by cases h
  | .tup _ :: l, rs, h => by cases h
  | .fn _ _ _ :: l, rs, h => by cases h
  | .junk :: l, rs, h => by cases h
def roLists : List (List AV) → Option (List (List RV))
  | [] => some []
  | l :: ls => match roList l with
    | some r => match roLists ls with
      | some rs => some (r :: rs)
      | none => none
    | none => none
theorem roLists_eq : ∀ (l : List (List AV)) (rs : List (List RV)), roLists l = some rs → l = rs.map (·.map .ro)
  | [], rs, h => by simp only [roLists, Option.some.injEq] at h; subst h; rfl
  | l :: ls, rs, h => by
    unfold roLists at h
    split at h
    · rename_i r hr
      split at h
      · rename_i rs' h'
        injection h with h; subst h
        rw [roList_eq l r hr, roLists_eq ls rs' h']; rfl
      · cases h
    · cases h
theorem pu_build {tt e : TypeId} {z : Value} {sz bytes len : Nat} {parts : Array (Nat × Operand)} {css : List (List AV)} {els : List (List RV)} [hs : SL P tt e z sz bytes] (hp : partCells env 0 parts.toList = some css) (hr : roLists css = some els)
    (hl : css.length = len) (hsz : (css.all fun c => Nat.beq c.length sz) = true) (hpos : Nat.ble 1 (len * sz) = true) (hsm : Nat.ble (len * sz) 16777216 = true) :
    Pur P C ⟨some t, .buildSlice tt len parts, ty, pos, after, gd⟩ env σ (.ro (.seq sz els)) := by
  refine ⟨fun a m hG hσ hH K Q hK => ?_⟩
  have hsz' : ∀ c ∈ css, c.length = sz := fun c hc => Nat.eq_of_beq_eq_true (List.all_eq_true.1 hsz c hc)
  have h1 := Nat.le_of_ble_eq_true hpos
  have h2 := Nat.le_of_ble_eq_true hsm
  obtain ⟨w, φ, σ', ok⟩ := m
  have hok : ok = C.ok := hG.ok0
  subst hok
  subst hσ
  have hcss := roLists_eq _ _ hr
  obtain ⟨us, k1, k2, k3⟩ := built (P := P) (tt := tt) (a := a) (m := ⟨w, φ, σ', C.ok⟩) (fun p hp' => hH p.2 (by simp only [Op.operands, List.mem_map, List.mem_toArray, Array.mem_def]; exact ⟨p, hp', rfl⟩)) hp hl hsz' h1 h2
  have he : (execOp a.eval ⟨some t, .buildSlice tt len parts, ty, pos, after, gd⟩).run P w = .ok (.value (slv w.heap.size len len)) (w.alloc (.cells us e)) := by simp only [execOp, Sem.run_bind]; rw [k1]; rfl
  have hlen : 0 < sz := Nat.pos_of_mul_pos_left h1
  have hml : len ≤ maxLen := by have : len * 1 ≤ len * sz := Nat.mul_le_mul_left _ hlen; simp [maxLen]; omega
  unfold Oper.wp
  rw [he]
  simp only [Oper.upon]
  have hbl := below_one w (.cells us e)
  have hle : els.length = len := by rw [← hl, hcss, List.length_map]
  refine hK _ _ hbl ?_
  simp only [AV.rel, RV.rel]
  refine ⟨some ⟨w.heap.size, 0, none⟩, len, len, rfl, hle.symm, Nat.le_refl _, hml, fun _ => ⟨w.heap.size, 0, rfl, (Array.getElem?_eq_some_iff.1 (heap_alloc_new w _)).1, ok_args hG _ (Nat.le_refl _), ?_⟩⟩
  have hel : ∀ x ∈ els, x.length = sz := fun x hx => by
    have := hsz' (x.map .ro) (by rw [hcss]; exact List.mem_map.2 ⟨x, hx, rfl⟩)
    simpa using this
  refine RV.relE_of _ _ _ fun k e' hk => ⟨hel e' (List.mem_of_getElem? hk), RV.relAt_of _ _ fun j r hj => ?_⟩
  have hjl : j < sz := by have := (List.getElem?_eq_some_iff.1 hj).1; rwa [hel e' (List.mem_of_getElem? hk)] at this
  have hcat := flatten_at hsz' k j (e'.map .ro) (by rw [hcss, List.getElem?_map, hk]; rfl) hjl
  rw [List.getElem?_map, hj] at hcat
  obtain ⟨u, u1, u2, u3⟩ := k3 _ _ hcat
  simp only [AV.rel] at u3
  refine ⟨u, by rw [cell_of_row _ _ _ us _ _ (heap_alloc_new w _), Nat.zero_add]; exact u1, u2, RV.rel_mono ⟨hbl.size, fun b hb ho => ⟨ho, hbl.block b hb⟩⟩ r u u3⟩
theorem agg_flat {m : Mem} : ∀ (vs : List Value) (us : List Value), RV.rels m.w m.ok (vs.map .c) us → us = vs
  | [], us, h => by simpa [RV.rels] using h
  | v :: vs, us, h => by
    simp only [List.map_cons, RV.rels] at h
    obtain ⟨u, us', rfl, h1, h2⟩ := h
    simp only [RV.rel] at h1
    rw [h1, agg_flat vs us' h2]
theorem pu_binA {op : BinOp} {xt yt : TypeId} {x y : Operand} {vx vy : List Value} {vz : Value} (hx : ev env x = .ro (.agg (vx.map .c))) (hy : ev env y = .ro (.agg (vy.map .c)))
    (hr : ∀ w, ((do eqGuard op xt x y (.agg vx.toArray) (.agg vy.toArray); binOp op xt (.agg vx.toArray) (.agg vy.toArray) : Sem Value)).run P w = .ok vz w) : Pur P C ⟨some t, .binOp op xt x y yt, ty, pos, after, gd⟩ env σ (.ro (.c vz)) :=
  Pur.of (fun a m hG hσ hH => by
    refine ⟨vz, ?_, by simp [AV.rel, RV.rel]⟩
    have key : ∀ {x : Operand} {vs : List Value}, AV.rel m (ev env x) (a.eval x) → ev env x = .ro (.agg (vs.map .c)) → a.eval x = .agg vs.toArray := by
      intro x vs h hx
      rw [hx] at h
      simp only [AV.rel, RV.rel] at h
      obtain ⟨us, e, h⟩ := h
      rw [e]
      have := agg_flat vs _ h
      rw [← this]
    have h := hr m.w
    simp only [Sem.run_bind] at h
    simp only [execOp, key (hH x (by simp [Op.operands])) hx, key (hH y (by simp [Op.operands])) hy, Sem.run_bind, Sem.run_pure]
    generalize Sem.run P (eqGuard op xt x y (.agg vx.toArray) (.agg vy.toArray)) m.w = r at h ⊢
    cases r with
    | ok a' w' => simp only [Result.andThen] at h ⊢; rw [h]
    | halt h' w' => simp [Result.andThen] at h)
end
end Go.Proofs.YtofefjklipglhaaDoor
/- The arguments of a law, opened to data; data of plain types, by its parts. Over any program. -/
namespace Go.Proofs.YtofefjklipglhaaDoor
set_option linter.unusedSimpArgs false
set_option linter.unusedVariables false
open Go.RowKit Go.ChangeShapes Go.WideShapes
section
variable {H : Type} {enc : TypeId × Value → H} {P : Program} {w : World} {base : Nat} {spare : Nat → Bool} {held : Bool} {T : List Nat} {r : Reach} {b0 : Nat} {t e : TypeId} {v : Value} {d : DataW H} {p : List MemPlace}
theorem open_cell (hT : (T.all (typB P T)) = true) (ht : nmem T t = true) (hc : v.cells.toList = [v]) (h : DataW.Trod enc P w base spare held t v d p) : ∃ r, TyC P t [r] ∧ RV.Rels w [r] [v] := by
  obtain ⟨rcs', h1, h2, _⟩ := open_arg hT ht h
  rw [hc] at h2
  match rcs', h2 with
  | [], h2 => simp [RV.Rels, RV.rels] at h2
  | [r], h2 => exact ⟨r, h1, h2⟩
  | _ :: _ :: _, h2 => simp [RV.Rels, RV.rels] at h2; obtain ⟨_, _, ⟨_, rfl⟩, _, _, _, h, _⟩ := h2; cases h
theorem open_slice1 (hT : (T.all (typB P T)) = true) (ht : nmem T t = true) (hu : P.underlying t = some (.slice e)) (hv : Value.okWide P w r b0 t v) (h : DataW.Trod enc P w base spare held t v d p) : ∃ r, TyC P t [r] ∧ RV.Rels w [r] [v] := by
  obtain ⟨a, n, c, rfl⟩ := okWide_slice hu hv
  exact open_cell hT ht (by rfl) h
end
section
variable {P : Program} {t e : TypeId} {rcs : List RV} {r : RV}
def TyCs (P : Program) : List TypeId → List (List RV) → Prop
  | [], cs => cs = []
  | t :: ts, cs => ∃ c cs', cs = c :: cs' ∧ TyC P t c ∧ TyCs P ts cs'
theorem TyCs.of : ∀ (fs : List Field) (cells : List (List RV)), cells.length = fs.length → (∀ (j : Nat) f c, fs[j]? = some f → cells[j]? = some c → TyC P f.type c) → TyCs P (fs.map (·.type)) cells
  | [], cells, hl, _ => by simpa [TyCs] using List.eq_nil_of_length_eq_zero hl
  | f :: fs, [], hl, _ => by simp at hl
  | f :: fs, c :: cs, hl, h => by
    simp only [List.map_cons, TyCs]
    exact ⟨c, cs, rfl, h 0 f c rfl rfl, TyCs.of fs cs (by simpa using hl) fun j f' c' e1 e2 => h (j + 1) f' c' (by simpa using e1) (by simpa using e2)⟩
theorem TyC.parts {fs : Array Field} (h : TyC P t rcs) (hu : P.underlying t = some (.struct fs)) : ∃ cells : List (List RV), rcs = cells.flatten ∧ TyCs P (fs.toList.map (·.type)) cells := by
  obtain ⟨cells, h1, h2, h3⟩ := h.inv_struct hu
  exact ⟨cells, h1, TyCs.of fs.toList cells (by simpa using h2) fun j f c e1 e2 => h3 j f c (by simpa using e1) e2⟩
theorem TyC.i64 (h : TyC P t rcs) (hu : P.underlying t = some (.int .i64)) : ∃ n, rcs = [.int n] ∧ I64 n := by
  obtain ⟨n, e, hw⟩ := h.inv_int hu
  exact ⟨n, e, bounds_i64 hw⟩
theorem TyC.byte (h : TyC P t rcs) (hu : P.underlying t = some (.int .u8)) : ∃ c : UInt8, rcs = [.u8 c] := by
  obtain ⟨n, e, hw⟩ := h.inv_int hu
  obtain ⟨c, rfl⟩ := u8_of_wf hw
  exact ⟨c, e⟩
theorem TyC.ints (h : TyC P t rcs) (hu : P.underlying t = some (.slice e)) (he : P.underlying e = some (.int .i64)) (hc : P.cellsOf e = 1) : ∃ l : List Int, rcs = [intsR l] ∧ l.length ≤ maxLen ∧ ∀ z ∈ l, I64 z := by
  obtain ⟨els, rfl, hl, hels⟩ := h.inv_slice hu
  obtain ⟨l, rfl, hq⟩ := els_of (f := fun z : Int => [RV.int z]) (Q := I64) fun el hel => (hels el hel).i64 he
  exact ⟨l, by rw [hc]; rfl, by simpa using hl, hq⟩
theorem TyC.bytes (h : TyC P t rcs) (hu : P.underlying t = some (.slice e)) (he : P.underlying e = some (.int .u8)) (hc : P.cellsOf e = 1) : ∃ l : List UInt8, rcs = [bytesR l] ∧ l.length ≤ maxLen := by
  obtain ⟨els, rfl, hl, hels⟩ := h.inv_slice hu
  obtain ⟨l, rfl, _⟩ := els_of (f := fun z : UInt8 => [RV.u8 z]) (Q := fun _ => True) fun el hel => (by obtain ⟨c, e⟩ := (hels el hel).byte he; exact ⟨c, e, trivial⟩)
  exact ⟨l, by rw [hc]; rfl, by simpa using hl⟩
end
theorem cons_rels {w : World} {r : RV} {rs : List RV} {u : Value} {us : List Value} (h : RV.Rels w [r] [u]) (hs : RV.Rels w rs us) : RV.Rels w (r :: rs) (u :: us) := by
  simp only [RV.Rels, RV.rels] at h hs ⊢
  obtain ⟨u', us', e, h1, rfl⟩ := h
  injection e with e1 e2; subst e1
  exact ⟨u, us, rfl, h1, hs⟩
theorem nil_rels {w : World} : RV.Rels w [] [] := by simp [RV.Rels, RV.rels]
end Go.Proofs.YtofefjklipglhaaDoor
/- What the tables of this program say, as instances. Printed by a program (tab.py). -/
namespace Go.Proofs.YtofefjklipglhaaDoor
set_option maxRecDepth 100000
instance : T1 Tryd.prog 2 := ⟨by kernel_rfl⟩
instance : TI Tryd.prog 2 .i64 := ⟨Tryd.underlying2⟩
instance : TZ Tryd.prog 2 [(.int .i64 0)] := ⟨_, _, rfl, rfl, rfl, by decide⟩
instance : T1 Tryd.prog 3 := ⟨by kernel_rfl⟩
instance : TI Tryd.prog 3 .i64 := ⟨Tryd.underlying3⟩
instance : TZ Tryd.prog 3 [(.int .i64 0)] := ⟨_, _, rfl, rfl, rfl, by decide⟩
instance : T1 Tryd.prog 4 := ⟨by kernel_rfl⟩
instance : TZ Tryd.prog 4 [(.bool false)] := ⟨_, _, rfl, rfl, rfl, by decide⟩
instance : T1 Tryd.prog 5 := ⟨by kernel_rfl⟩
instance : TI Tryd.prog 5 .u8 := ⟨Tryd.underlying5⟩
instance : TZ Tryd.prog 5 [(.int .u8 0)] := ⟨_, _, rfl, rfl, rfl, by decide⟩
instance : T1 Tryd.prog 6 := ⟨by kernel_rfl⟩
instance : TI Tryd.prog 6 .u8 := ⟨Tryd.underlying6⟩
instance : TZ Tryd.prog 6 [(.int .u8 0)] := ⟨_, _, rfl, rfl, rfl, by decide⟩
instance : FA Tryd.prog 7 0 0 := ⟨by kernel_rfl⟩
instance : FA Tryd.prog 7 1 1 := ⟨by kernel_rfl⟩
instance : FA Tryd.prog 7 2 2 := ⟨by kernel_rfl⟩
instance : FA Tryd.prog 7 3 3 := ⟨by kernel_rfl⟩
instance : TN Tryd.prog 7 4 := ⟨by kernel_rfl⟩
instance : TZ Tryd.prog 7 [(.int .i64 0), (.int .i64 0), (.bool false), (.int .u8 0)] := ⟨_, _, rfl, rfl, rfl, by decide⟩
instance : FA Tryd.prog 8 0 0 := ⟨by kernel_rfl⟩
instance : FA Tryd.prog 8 1 1 := ⟨by kernel_rfl⟩
instance : FA Tryd.prog 8 2 2 := ⟨by kernel_rfl⟩
instance : FA Tryd.prog 8 3 3 := ⟨by kernel_rfl⟩
instance : TN Tryd.prog 8 4 := ⟨by kernel_rfl⟩
instance : TZ Tryd.prog 8 [(.int .i64 0), (.int .i64 0), (.bool false), (.int .u8 0)] := ⟨_, _, rfl, rfl, rfl, by decide⟩
instance : T1 Tryd.prog 9 := ⟨by kernel_rfl⟩
instance : TS Tryd.prog 9 := ⟨Tryd.underlying9⟩
instance : TZ Tryd.prog 9 [(.string ⟨#[]⟩)] := ⟨_, _, rfl, rfl, rfl, by decide⟩
instance : T1 Tryd.prog 10 := ⟨by kernel_rfl⟩
instance : TS Tryd.prog 10 := ⟨Tryd.underlying10⟩
instance : TZ Tryd.prog 10 [(.string ⟨#[]⟩)] := ⟨_, _, rfl, rfl, rfl, by decide⟩
instance : T1 Tryd.prog 11 := ⟨by kernel_rfl⟩
instance : TS Tryd.prog 11 := ⟨Tryd.underlying11⟩
instance : TZ Tryd.prog 11 [(.string ⟨#[]⟩)] := ⟨_, _, rfl, rfl, rfl, by decide⟩
instance : T1 Tryd.prog 12 := ⟨by kernel_rfl⟩
instance : TI Tryd.prog 12 .u64 := ⟨Tryd.underlying12⟩
instance : TZ Tryd.prog 12 [(.int .u64 0)] := ⟨_, _, rfl, rfl, rfl, by decide⟩
instance : FA Tryd.prog 13 0 0 := ⟨by kernel_rfl⟩
instance : FA Tryd.prog 13 1 1 := ⟨by kernel_rfl⟩
instance : TN Tryd.prog 13 2 := ⟨by kernel_rfl⟩
instance : TZ Tryd.prog 13 [(.string ⟨#[]⟩), (.int .u64 0)] := ⟨_, _, rfl, rfl, rfl, by decide⟩
instance : FA Tryd.prog 14 0 0 := ⟨by kernel_rfl⟩
instance : FA Tryd.prog 14 1 1 := ⟨by kernel_rfl⟩
instance : TN Tryd.prog 14 2 := ⟨by kernel_rfl⟩
instance : TZ Tryd.prog 14 [(.string ⟨#[]⟩), (.int .u64 0)] := ⟨_, _, rfl, rfl, rfl, by decide⟩
instance : T1 Tryd.prog 15 := ⟨by kernel_rfl⟩
instance : TZ Tryd.prog 15 [(.pointer none)] := ⟨_, _, rfl, rfl, rfl, by decide⟩
instance : T1 Tryd.prog 16 := ⟨by kernel_rfl⟩
instance : TZ Tryd.prog 16 [(.pointer none)] := ⟨_, _, rfl, rfl, rfl, by decide⟩
instance : T1 Tryd.prog 17 := ⟨by kernel_rfl⟩
instance : TZ Tryd.prog 17 [(.pointer none)] := ⟨_, _, rfl, rfl, rfl, by decide⟩
instance : FA Tryd.prog 18 0 0 := ⟨by kernel_rfl⟩
instance : TN Tryd.prog 18 1 := ⟨by kernel_rfl⟩
instance : TZ Tryd.prog 18 [(.pointer none)] := ⟨_, _, rfl, rfl, rfl, by decide⟩
instance : FA Tryd.prog 19 0 0 := ⟨by kernel_rfl⟩
instance : TN Tryd.prog 19 1 := ⟨by kernel_rfl⟩
instance : TZ Tryd.prog 19 [(.pointer none)] := ⟨_, _, rfl, rfl, rfl, by decide⟩
instance : T1 Tryd.prog 21 := ⟨by kernel_rfl⟩
instance : TI Tryd.prog 21 .i32 := ⟨Tryd.underlying21⟩
instance : TZ Tryd.prog 21 [(.int .i32 0)] := ⟨_, _, rfl, rfl, rfl, by decide⟩
instance : T1 Tryd.prog 22 := ⟨by kernel_rfl⟩
instance : TZ Tryd.prog 22 [(.slice none 0 0)] := ⟨_, _, rfl, rfl, rfl, by decide⟩
instance : SL Tryd.prog 22 5 ((.int .u8 0)) 1 1 := ⟨Elem.mk' Tryd.underlying22 (by kernel_rfl) rfl (by decide)⟩
instance : T1 Tryd.prog 24 := ⟨by kernel_rfl⟩
instance : TZ Tryd.prog 24 [(.slice none 0 0)] := ⟨_, _, rfl, rfl, rfl, by decide⟩
instance : SL Tryd.prog 24 57 (.agg #[(.string ⟨#[]⟩), (.int .i64 0), (.int .i64 0), (.bool false), (.slice none 0 0), (.slice none 0 0), (.slice none 0 0), (.slice none 0 0)]) 8 136 := ⟨Elem.mk' Tryd.underlying24 (by kernel_rfl) rfl (by decide)⟩
instance : FA Tryd.prog 25 0 0 := ⟨by kernel_rfl⟩
instance : TN Tryd.prog 25 1 := ⟨by kernel_rfl⟩
instance : TZ Tryd.prog 25 [(.slice none 0 0)] := ⟨_, _, rfl, rfl, rfl, by decide⟩
instance : FA Tryd.prog 26 0 0 := ⟨by kernel_rfl⟩
instance : TN Tryd.prog 26 1 := ⟨by kernel_rfl⟩
instance : TZ Tryd.prog 26 [(.slice none 0 0)] := ⟨_, _, rfl, rfl, rfl, by decide⟩
instance : T1 Tryd.prog 28 := ⟨by kernel_rfl⟩
instance : TZ Tryd.prog 28 [(.slice none 0 0)] := ⟨_, _, rfl, rfl, rfl, by decide⟩
instance : SL Tryd.prog 28 38 (.agg #[(.int .i64 0), (.int .i64 0), (.int .i64 0)]) 3 24 := ⟨Elem.mk' Tryd.underlying28 (by kernel_rfl) rfl (by decide)⟩
instance : T1 Tryd.prog 29 := ⟨by kernel_rfl⟩
instance : TZ Tryd.prog 29 [(.slice none 0 0)] := ⟨_, _, rfl, rfl, rfl, by decide⟩
instance : SL Tryd.prog 29 3 ((.int .i64 0)) 1 8 := ⟨Elem.mk' Tryd.underlying29 (by kernel_rfl) rfl (by decide)⟩
instance : FA Tryd.prog 30 0 0 := ⟨by kernel_rfl⟩
instance : FA Tryd.prog 30 1 1 := ⟨by kernel_rfl⟩
instance : TN Tryd.prog 30 2 := ⟨by kernel_rfl⟩
instance : TZ Tryd.prog 30 [(.slice none 0 0), (.slice none 0 0)] := ⟨_, _, rfl, rfl, rfl, by decide⟩
instance : FA Tryd.prog 31 0 0 := ⟨by kernel_rfl⟩
instance : FA Tryd.prog 31 1 1 := ⟨by kernel_rfl⟩
instance : TN Tryd.prog 31 2 := ⟨by kernel_rfl⟩
instance : TZ Tryd.prog 31 [(.slice none 0 0), (.slice none 0 0)] := ⟨_, _, rfl, rfl, rfl, by decide⟩
instance : FA Tryd.prog 37 0 0 := ⟨by kernel_rfl⟩
instance : FA Tryd.prog 37 1 1 := ⟨by kernel_rfl⟩
instance : FA Tryd.prog 37 2 2 := ⟨by kernel_rfl⟩
instance : TN Tryd.prog 37 3 := ⟨by kernel_rfl⟩
instance : TZ Tryd.prog 37 [(.int .i64 0), (.int .i64 0), (.int .i64 0)] := ⟨_, _, rfl, rfl, rfl, by decide⟩
instance : FA Tryd.prog 38 0 0 := ⟨by kernel_rfl⟩
instance : FA Tryd.prog 38 1 1 := ⟨by kernel_rfl⟩
instance : FA Tryd.prog 38 2 2 := ⟨by kernel_rfl⟩
instance : TN Tryd.prog 38 3 := ⟨by kernel_rfl⟩
instance : TZ Tryd.prog 38 [(.int .i64 0), (.int .i64 0), (.int .i64 0)] := ⟨_, _, rfl, rfl, rfl, by decide⟩
instance : T1 Tryd.prog 42 := ⟨by kernel_rfl⟩
instance : TZ Tryd.prog 42 [(.pointer none)] := ⟨_, _, rfl, rfl, rfl, by decide⟩
instance : T1 Tryd.prog 51 := ⟨by kernel_rfl⟩
instance : TZ Tryd.prog 51 [(.pointer none)] := ⟨_, _, rfl, rfl, rfl, by decide⟩
instance : T1 Tryd.prog 52 := ⟨by kernel_rfl⟩
instance : TZ Tryd.prog 52 [(.slice none 0 0)] := ⟨_, _, rfl, rfl, rfl, by decide⟩
instance : FA Tryd.prog 53 0 0 := ⟨by kernel_rfl⟩
instance : FA Tryd.prog 53 1 1 := ⟨by kernel_rfl⟩
instance : FA Tryd.prog 53 2 2 := ⟨by kernel_rfl⟩
instance : FA Tryd.prog 53 3 3 := ⟨by kernel_rfl⟩
instance : TN Tryd.prog 53 4 := ⟨by kernel_rfl⟩
instance : TZ Tryd.prog 53 [(.slice none 0 0), (.int .i64 0), (.slice none 0 0), (.slice none 0 0)] := ⟨_, _, rfl, rfl, rfl, by decide⟩
instance : FA Tryd.prog 54 0 0 := ⟨by kernel_rfl⟩
instance : FA Tryd.prog 54 1 1 := ⟨by kernel_rfl⟩
instance : FA Tryd.prog 54 2 2 := ⟨by kernel_rfl⟩
instance : FA Tryd.prog 54 3 3 := ⟨by kernel_rfl⟩
instance : TN Tryd.prog 54 4 := ⟨by kernel_rfl⟩
instance : TZ Tryd.prog 54 [(.slice none 0 0), (.int .i64 0), (.slice none 0 0), (.slice none 0 0)] := ⟨_, _, rfl, rfl, rfl, by decide⟩
instance : T1 Tryd.prog 55 := ⟨by kernel_rfl⟩
instance : TZ Tryd.prog 55 [(.slice none 0 0)] := ⟨_, _, rfl, rfl, rfl, by decide⟩
instance : SL Tryd.prog 55 9 ((.string ⟨#[]⟩)) 1 16 := ⟨Elem.mk' Tryd.underlying55 (by kernel_rfl) rfl (by decide)⟩
instance : FA Tryd.prog 56 0 0 := ⟨by kernel_rfl⟩
instance : FA Tryd.prog 56 1 1 := ⟨by kernel_rfl⟩
instance : FA Tryd.prog 56 2 2 := ⟨by kernel_rfl⟩
instance : FA Tryd.prog 56 3 3 := ⟨by kernel_rfl⟩
instance : FA Tryd.prog 56 4 4 := ⟨by kernel_rfl⟩
instance : FA Tryd.prog 56 5 5 := ⟨by kernel_rfl⟩
instance : FA Tryd.prog 56 6 6 := ⟨by kernel_rfl⟩
instance : FA Tryd.prog 56 7 7 := ⟨by kernel_rfl⟩
instance : TN Tryd.prog 56 8 := ⟨by kernel_rfl⟩
instance : TZ Tryd.prog 56 [(.string ⟨#[]⟩), (.int .i64 0), (.int .i64 0), (.bool false), (.slice none 0 0), (.slice none 0 0), (.slice none 0 0), (.slice none 0 0)] := ⟨_, _, rfl, rfl, rfl, by decide⟩
instance : FA Tryd.prog 57 0 0 := ⟨by kernel_rfl⟩
instance : FA Tryd.prog 57 1 1 := ⟨by kernel_rfl⟩
instance : FA Tryd.prog 57 2 2 := ⟨by kernel_rfl⟩
instance : FA Tryd.prog 57 3 3 := ⟨by kernel_rfl⟩
instance : FA Tryd.prog 57 4 4 := ⟨by kernel_rfl⟩
instance : FA Tryd.prog 57 5 5 := ⟨by kernel_rfl⟩
instance : FA Tryd.prog 57 6 6 := ⟨by kernel_rfl⟩
instance : FA Tryd.prog 57 7 7 := ⟨by kernel_rfl⟩
instance : TN Tryd.prog 57 8 := ⟨by kernel_rfl⟩
instance : TZ Tryd.prog 57 [(.string ⟨#[]⟩), (.int .i64 0), (.int .i64 0), (.bool false), (.slice none 0 0), (.slice none 0 0), (.slice none 0 0), (.slice none 0 0)] := ⟨_, _, rfl, rfl, rfl, by decide⟩
instance : FA Tryd.prog 64 0 0 := ⟨by kernel_rfl⟩
instance : FA Tryd.prog 64 1 1 := ⟨by kernel_rfl⟩
instance : FA Tryd.prog 64 2 2 := ⟨by kernel_rfl⟩
instance : TN Tryd.prog 64 3 := ⟨by kernel_rfl⟩
instance : TZ Tryd.prog 64 [(.slice none 0 0), (.int .i64 0), (.int .i64 0)] := ⟨_, _, rfl, rfl, rfl, by decide⟩
instance : FA Tryd.prog 65 0 0 := ⟨by kernel_rfl⟩
instance : FA Tryd.prog 65 1 1 := ⟨by kernel_rfl⟩
instance : FA Tryd.prog 65 2 2 := ⟨by kernel_rfl⟩
instance : TN Tryd.prog 65 3 := ⟨by kernel_rfl⟩
instance : TZ Tryd.prog 65 [(.slice none 0 0), (.int .i64 0), (.int .i64 0)] := ⟨_, _, rfl, rfl, rfl, by decide⟩
instance : T1 Tryd.prog 83 := ⟨by kernel_rfl⟩
instance : TI Tryd.prog 83 .u64 := ⟨Tryd.underlying83⟩
instance : TZ Tryd.prog 83 [(.int .u64 0)] := ⟨_, _, rfl, rfl, rfl, by decide⟩
instance : TN Tryd.prog 89 24 := ⟨by kernel_rfl⟩
instance : AR Tryd.prog 89 24 1 := ⟨by kernel_rfl⟩
instance : T1 Tryd.prog 90 := ⟨by kernel_rfl⟩
instance : TI Tryd.prog 90 .u64 := ⟨Tryd.underlying90⟩
instance : TZ Tryd.prog 90 [(.int .u64 0)] := ⟨_, _, rfl, rfl, rfl, by decide⟩
instance : TN Tryd.prog 96 20 := ⟨by kernel_rfl⟩
instance : AR Tryd.prog 96 20 1 := ⟨by kernel_rfl⟩
instance : T1 Tryd.prog 97 := ⟨by kernel_rfl⟩
instance : TI Tryd.prog 97 .u32 := ⟨Tryd.underlying97⟩
instance : TZ Tryd.prog 97 [(.int .u32 0)] := ⟨_, _, rfl, rfl, rfl, by decide⟩
instance : TN Tryd.prog 98 65 := ⟨by kernel_rfl⟩
instance : AR Tryd.prog 98 65 1 := ⟨by kernel_rfl⟩
instance : TN Tryd.prog 101 32 := ⟨by kernel_rfl⟩
instance : AR Tryd.prog 101 32 1 := ⟨by kernel_rfl⟩
instance : TN Tryd.prog 102 64 := ⟨by kernel_rfl⟩
instance : AR Tryd.prog 102 64 1 := ⟨by kernel_rfl⟩
instance : FA Tryd.prog 104 0 0 := ⟨by kernel_rfl⟩
instance : FA Tryd.prog 104 1 1 := ⟨by kernel_rfl⟩
instance : FA Tryd.prog 104 2 2 := ⟨by kernel_rfl⟩
instance : FA Tryd.prog 104 3 3 := ⟨by kernel_rfl⟩
instance : TN Tryd.prog 104 4 := ⟨by kernel_rfl⟩
instance : TZ Tryd.prog 104 [(.pointer none), (.pointer none), (.pointer none), (.string ⟨#[]⟩)] := ⟨_, _, rfl, rfl, rfl, by decide⟩
instance : FA Tryd.prog 105 0 0 := ⟨by kernel_rfl⟩
instance : FA Tryd.prog 105 1 1 := ⟨by kernel_rfl⟩
instance : FA Tryd.prog 105 2 2 := ⟨by kernel_rfl⟩
instance : FA Tryd.prog 105 3 3 := ⟨by kernel_rfl⟩
instance : TN Tryd.prog 105 4 := ⟨by kernel_rfl⟩
instance : TZ Tryd.prog 105 [(.pointer none), (.pointer none), (.pointer none), (.string ⟨#[]⟩)] := ⟨_, _, rfl, rfl, rfl, by decide⟩
instance : TN Tryd.prog 106 0 := ⟨by kernel_rfl⟩
instance : AR Tryd.prog 106 0 1 := ⟨by kernel_rfl⟩
instance : T1 Tryd.prog 109 := ⟨by kernel_rfl⟩
instance : TI Tryd.prog 109 .u8 := ⟨Tryd.underlying109⟩
instance : TZ Tryd.prog 109 [(.int .u8 0)] := ⟨_, _, rfl, rfl, rfl, by decide⟩
instance : T1 Tryd.prog 110 := ⟨by kernel_rfl⟩
instance : TI Tryd.prog 110 .u8 := ⟨Tryd.underlying110⟩
instance : TZ Tryd.prog 110 [(.int .u8 0)] := ⟨_, _, rfl, rfl, rfl, by decide⟩
instance : T1 Tryd.prog 112 := ⟨by kernel_rfl⟩
instance : TZ Tryd.prog 112 [(.pointer none)] := ⟨_, _, rfl, rfl, rfl, by decide⟩
instance : T1 Tryd.prog 113 := ⟨by kernel_rfl⟩
instance : TI Tryd.prog 113 .i32 := ⟨Tryd.underlying113⟩
instance : TZ Tryd.prog 113 [(.int .i32 0)] := ⟨_, _, rfl, rfl, rfl, by decide⟩
instance : T1 Tryd.prog 114 := ⟨by kernel_rfl⟩
instance : TI Tryd.prog 114 .i32 := ⟨Tryd.underlying114⟩
instance : TZ Tryd.prog 114 [(.int .i32 0)] := ⟨_, _, rfl, rfl, rfl, by decide⟩
instance : FA Tryd.prog 115 0 0 := ⟨by kernel_rfl⟩
instance : FA Tryd.prog 115 1 1 := ⟨by kernel_rfl⟩
instance : FA Tryd.prog 115 2 2 := ⟨by kernel_rfl⟩
instance : FA Tryd.prog 115 3 3 := ⟨by kernel_rfl⟩
instance : FA Tryd.prog 115 4 4 := ⟨by kernel_rfl⟩
instance : FA Tryd.prog 115 5 5 := ⟨by kernel_rfl⟩
instance : FA Tryd.prog 115 6 6 := ⟨by kernel_rfl⟩
instance : FA Tryd.prog 115 8 8 := ⟨by kernel_rfl⟩
instance : FA Tryd.prog 115 9 9 := ⟨by kernel_rfl⟩
instance : FA Tryd.prog 115 10 10 := ⟨by kernel_rfl⟩
instance : TN Tryd.prog 115 11 := ⟨by kernel_rfl⟩
instance : TZ Tryd.prog 115 [(.int .u64 0), (.int .u64 0), (.int .u32 0), (.int .u8 0), (.int .u8 0), (.int .u8 0), (.int .u8 0), .nilFunc, (.pointer none), (.int .i32 0), (.int .i32 0)] := ⟨_, _, rfl, rfl, rfl, by decide⟩
instance : FA Tryd.prog 116 0 0 := ⟨by kernel_rfl⟩
instance : FA Tryd.prog 116 1 1 := ⟨by kernel_rfl⟩
instance : FA Tryd.prog 116 2 2 := ⟨by kernel_rfl⟩
instance : FA Tryd.prog 116 3 3 := ⟨by kernel_rfl⟩
instance : FA Tryd.prog 116 4 4 := ⟨by kernel_rfl⟩
instance : FA Tryd.prog 116 5 5 := ⟨by kernel_rfl⟩
instance : FA Tryd.prog 116 6 6 := ⟨by kernel_rfl⟩
instance : FA Tryd.prog 116 8 8 := ⟨by kernel_rfl⟩
instance : FA Tryd.prog 116 9 9 := ⟨by kernel_rfl⟩
instance : FA Tryd.prog 116 10 10 := ⟨by kernel_rfl⟩
instance : TN Tryd.prog 116 11 := ⟨by kernel_rfl⟩
instance : TZ Tryd.prog 116 [(.int .u64 0), (.int .u64 0), (.int .u32 0), (.int .u8 0), (.int .u8 0), (.int .u8 0), (.int .u8 0), .nilFunc, (.pointer none), (.int .i32 0), (.int .i32 0)] := ⟨_, _, rfl, rfl, rfl, by decide⟩
instance : FN Tryd.prog 3 Tryd.f3 := ⟨Tryd.func3, by kernel_rfl, by kernel_rfl⟩
instance : FN Tryd.prog 4 Tryd.f4 := ⟨Tryd.func4, by kernel_rfl, by kernel_rfl⟩
instance : FN Tryd.prog 5 Tryd.f5 := ⟨Tryd.func5, by kernel_rfl, by kernel_rfl⟩
instance : FN Tryd.prog 6 Tryd.f6 := ⟨Tryd.func6, by kernel_rfl, by kernel_rfl⟩
instance : FN Tryd.prog 7 Tryd.f7 := ⟨Tryd.func7, by kernel_rfl, by kernel_rfl⟩
instance : FN Tryd.prog 8 Tryd.f8 := ⟨Tryd.func8, by kernel_rfl, by kernel_rfl⟩
instance : FN Tryd.prog 9 Tryd.f9 := ⟨Tryd.func9, by kernel_rfl, by kernel_rfl⟩
instance : FN Tryd.prog 10 Tryd.f10 := ⟨Tryd.func10, by kernel_rfl, by kernel_rfl⟩
instance : FN Tryd.prog 11 Tryd.f11 := ⟨Tryd.func11, by kernel_rfl, by kernel_rfl⟩
instance : FN Tryd.prog 12 Tryd.f12 := ⟨Tryd.func12, by kernel_rfl, by kernel_rfl⟩
instance : FN Tryd.prog 13 Tryd.f13 := ⟨Tryd.func13, by kernel_rfl, by kernel_rfl⟩
instance : FN Tryd.prog 14 Tryd.f14 := ⟨Tryd.func14, by kernel_rfl, by kernel_rfl⟩
instance : FN Tryd.prog 15 Tryd.f15 := ⟨Tryd.func15, by kernel_rfl, by kernel_rfl⟩
instance : FN Tryd.prog 16 Tryd.f16 := ⟨Tryd.func16, by kernel_rfl, by kernel_rfl⟩
instance : FN Tryd.prog 17 Tryd.f17 := ⟨Tryd.func17, by kernel_rfl, by kernel_rfl⟩
instance : FN Tryd.prog 18 Tryd.f18 := ⟨Tryd.func18, by kernel_rfl, by kernel_rfl⟩
instance : FN Tryd.prog 19 Tryd.f19 := ⟨Tryd.func19, by kernel_rfl, by kernel_rfl⟩
instance : FN Tryd.prog 20 Tryd.f20 := ⟨Tryd.func20, by kernel_rfl, by kernel_rfl⟩
instance : FN Tryd.prog 21 Tryd.f21 := ⟨Tryd.func21, by kernel_rfl, by kernel_rfl⟩
instance : FN Tryd.prog 22 Tryd.f22 := ⟨Tryd.func22, by kernel_rfl, by kernel_rfl⟩
instance : FN Tryd.prog 23 Tryd.f23 := ⟨Tryd.func23, by kernel_rfl, by kernel_rfl⟩
instance : FN Tryd.prog 24 Tryd.f24 := ⟨Tryd.func24, by kernel_rfl, by kernel_rfl⟩
instance : FN Tryd.prog 25 Tryd.f25 := ⟨Tryd.func25, by kernel_rfl, by kernel_rfl⟩
instance : FN Tryd.prog 26 Tryd.f26 := ⟨Tryd.func26, by kernel_rfl, by kernel_rfl⟩
instance : FN Tryd.prog 27 Tryd.f27 := ⟨Tryd.func27, by kernel_rfl, by kernel_rfl⟩
instance : FN Tryd.prog 28 Tryd.f28 := ⟨Tryd.func28, by kernel_rfl, by kernel_rfl⟩
instance : FN Tryd.prog 29 Tryd.f29 := ⟨Tryd.func29, by kernel_rfl, by kernel_rfl⟩
instance : FN Tryd.prog 30 Tryd.f30 := ⟨Tryd.func30, by kernel_rfl, by kernel_rfl⟩
instance : FN Tryd.prog 31 Tryd.f31 := ⟨Tryd.func31, by kernel_rfl, by kernel_rfl⟩
instance : FN Tryd.prog 32 Tryd.f32 := ⟨Tryd.func32, by kernel_rfl, by kernel_rfl⟩
instance : FN Tryd.prog 33 Tryd.f33 := ⟨Tryd.func33, by kernel_rfl, by kernel_rfl⟩
instance : FN Tryd.prog 34 Tryd.f34 := ⟨Tryd.func34, by kernel_rfl, by kernel_rfl⟩
instance : FN Tryd.prog 35 Tryd.f35 := ⟨Tryd.func35, by kernel_rfl, by kernel_rfl⟩
instance : FN Tryd.prog 36 Tryd.f36 := ⟨Tryd.func36, by kernel_rfl, by kernel_rfl⟩
instance : FN Tryd.prog 37 Tryd.f37 := ⟨Tryd.func37, by kernel_rfl, by kernel_rfl⟩
instance : FN Tryd.prog 38 Tryd.f38 := ⟨Tryd.func38, by kernel_rfl, by kernel_rfl⟩
instance : FN Tryd.prog 39 Tryd.f39 := ⟨Tryd.func39, by kernel_rfl, by kernel_rfl⟩
instance : FN Tryd.prog 40 Tryd.f40 := ⟨Tryd.func40, by kernel_rfl, by kernel_rfl⟩
instance : FN Tryd.prog 41 Tryd.f41 := ⟨Tryd.func41, by kernel_rfl, by kernel_rfl⟩
instance : FN Tryd.prog 42 Tryd.f42 := ⟨Tryd.func42, by kernel_rfl, by kernel_rfl⟩
instance : FN Tryd.prog 43 Tryd.f43 := ⟨Tryd.func43, by kernel_rfl, by kernel_rfl⟩
instance : FN Tryd.prog 44 Tryd.f44 := ⟨Tryd.func44, by kernel_rfl, by kernel_rfl⟩
instance : FN Tryd.prog 45 Tryd.f45 := ⟨Tryd.func45, by kernel_rfl, by kernel_rfl⟩
instance : FN Tryd.prog 46 Tryd.f46 := ⟨Tryd.func46, by kernel_rfl, by kernel_rfl⟩
instance : FN Tryd.prog 47 Tryd.f47 := ⟨Tryd.func47, by kernel_rfl, by kernel_rfl⟩
instance : FN Tryd.prog 48 Tryd.f48 := ⟨Tryd.func48, by kernel_rfl, by kernel_rfl⟩
instance : FN Tryd.prog 49 Tryd.f49 := ⟨Tryd.func49, by kernel_rfl, by kernel_rfl⟩
instance : FN Tryd.prog 50 Tryd.f50 := ⟨Tryd.func50, by kernel_rfl, by kernel_rfl⟩
instance : FN Tryd.prog 51 Tryd.f51 := ⟨Tryd.func51, by kernel_rfl, by kernel_rfl⟩
instance : FN Tryd.prog 52 Tryd.f52 := ⟨Tryd.func52, by kernel_rfl, by kernel_rfl⟩
instance : FN Tryd.prog 53 Tryd.f53 := ⟨Tryd.func53, by kernel_rfl, by kernel_rfl⟩
instance : FN Tryd.prog 54 Tryd.f54 := ⟨Tryd.func54, by kernel_rfl, by kernel_rfl⟩
instance : FN Tryd.prog 55 Tryd.f55 := ⟨Tryd.func55, by kernel_rfl, by kernel_rfl⟩
instance : FN Tryd.prog 56 Tryd.f56 := ⟨Tryd.func56, by kernel_rfl, by kernel_rfl⟩
instance : FN Tryd.prog 58 Tryd.f58 := ⟨Tryd.func58, by kernel_rfl, by kernel_rfl⟩
instance : FN Tryd.prog 59 Tryd.f59 := ⟨Tryd.func59, by kernel_rfl, by kernel_rfl⟩
instance : FN Tryd.prog 60 Tryd.f60 := ⟨Tryd.func60, by kernel_rfl, by kernel_rfl⟩
instance : FN Tryd.prog 61 Tryd.f61 := ⟨Tryd.func61, by kernel_rfl, by kernel_rfl⟩
instance : FN Tryd.prog 62 Tryd.f62 := ⟨Tryd.func62, by kernel_rfl, by kernel_rfl⟩
instance : FN Tryd.prog 63 Tryd.f63 := ⟨Tryd.func63, by kernel_rfl, by kernel_rfl⟩
instance : FN Tryd.prog 64 Tryd.f64 := ⟨Tryd.func64, by kernel_rfl, by kernel_rfl⟩
instance : FN Tryd.prog 65 Tryd.f65 := ⟨Tryd.func65, by kernel_rfl, by kernel_rfl⟩
instance : FN Tryd.prog 66 Tryd.f66 := ⟨Tryd.func66, by kernel_rfl, by kernel_rfl⟩
instance : FN Tryd.prog 67 Tryd.f67 := ⟨Tryd.func67, by kernel_rfl, by kernel_rfl⟩
instance : FN Tryd.prog 68 Tryd.f68 := ⟨Tryd.func68, by kernel_rfl, by kernel_rfl⟩
instance : FN Tryd.prog 70 Tryd.f70 := ⟨Tryd.func70, by kernel_rfl, by kernel_rfl⟩
instance : FN Tryd.prog 71 Tryd.f71 := ⟨Tryd.func71, by kernel_rfl, by kernel_rfl⟩
instance : FN Tryd.prog 72 Tryd.f72 := ⟨Tryd.func72, by kernel_rfl, by kernel_rfl⟩
instance : FN Tryd.prog 73 Tryd.f73 := ⟨Tryd.func73, by kernel_rfl, by kernel_rfl⟩
instance : FN Tryd.prog 75 Tryd.f75 := ⟨Tryd.func75, by kernel_rfl, by kernel_rfl⟩
def tab : Tab := ⟨[(26, [0]), (31, [0, 1]), (38, [0, 1, 2]), (54, [0, 1, 2, 3]), (57, [0, 1, 2, 3, 4, 5, 6, 7]), (65, [0, 1, 2])], [2, 3, 4, 5, 9, 21, 22, 24, 28, 29, 42, 51, 52, 55, 83, 90, 97, 112], [(26, 1), (31, 2), (38, 3), (54, 4), (57, 8), (65, 3), (89, 24), (96, 20), (98, 65), (101, 32), (102, 64), (106, 0)], [22, 24, 28, 29, 52, 55], [9], [4]⟩
theorem tabOk : TabOk Tryd.prog tab := ⟨by kernel_rfl, by kernel_rfl, by kernel_rfl, by kernel_rfl, by kernel_rfl, by kernel_rfl⟩
theorem mixed : Tryd.prog.follows .mixedOrders = true := by kernel_rfl
def plains : List Nat := [2, 3, 4, 5, 6, 7, 9, 12, 13, 21, 22, 24, 25, 26, 28, 29, 30, 31, 37, 38, 53, 54, 55, 56, 57, 64, 65, 83, 90, 97]
theorem plainsOk : (plains.all (typB Tryd.prog plains)) = true := by kernel_rfl
end Go.Proofs.YtofefjklipglhaaDoor
/- Functions that want a fact of the world, such as a table that lies in a variable. Over any program. -/
namespace Go.Proofs.YtofefjklipglhaaDoor
set_option linter.unusedSimpArgs false
set_option linter.unusedVariables false
open Go.RowKit
open AV (Mem Keeps)
structure Lasts (T : World → Prop) : Prop where
  keep : ∀ w w', T w → Below w.heap.size w w' → T w'
def ACt (T : World → Prop) (P : Program) (f : FuncId) (args : List RV) (R : RR → Prop) : Prop :=
  ∀ (w : World) (ok : Nat → Prop) (us : Array Value), T w → (∀ b, w.heap.size ≤ b → ok b) → RV.rels w ok args us.toList →
    Calls P f us w fun e w' => ∃ u rr bs, e = .returned u ∧ R rr ∧ RR.rel w' (fun b => ok b ∧ b ∉ bs) rr u bs ∧ bs.Nodup ∧ (∀ b ∈ bs, w.heap.size ≤ b ∧ b < w'.heap.size) ∧ Below w.heap.size w w'
abbrev ACtv (T : World → Prop) (P : Program) (f : FuncId) (args : List RV) (r : RV) : Prop := ACt T P f args fun rr => rr = .ro r
def Bears (T : World → Prop) (C : Ctx) : Prop := ∀ m, Good C m → T m.w
section
variable {T : World → Prop} {P : Program} {f : FuncId} {fn : Func} {args : List RV}
theorem act_enter {c : Code} {R : RR → Prop} (hT : Lasts T) (hf : P.funcs[f]? = some fn) (hb : fn.body = some c) (n : Nat) (hn : fn.ntmps = n) (hl : args.length ≤ n)
    (h : ∀ C : Ctx, C.n = n → (∀ b, ¬ C.mu b) → Bears T C → Runs P C [.code c] (Ends P C fn R) ⟨startEnv 0 args, []⟩) : ACt T P f args R := by
  intro w ok us hw h0 hu
  have hlen := RV.rels_len args _ hu
  refine calls_of_fin hf hb ?_
  have hs : Sim ⟨w, ok, fun _ => False, n⟩ ⟨startEnv 0 args, []⟩ { tmps := us ++ Array.replicate (fn.ntmps - us.size) undef, defers := [] } w := by
    refine ⟨rfl, by simp at hlen ⊢; omega, fun _ => none, ⟨rfl, fun i j g hi => by simp at hi, fun i o hi => by simp at hi, fun i g hi => by simp at hi, ⟨rfl, rfl, rfl, Nat.le_refl _, fun _ _ _ => rfl, h0⟩⟩, fun t => ?_⟩
    rw [start_look]
    simp only [Nat.zero_le, if_true, Nat.sub_zero]
    cases hr : args[t]? with
    | none => simp [AV.rel]
    | some r =>
      obtain ⟨u, e1, e2⟩ := RV.rels_at args _ hu t r hr
      have ht : t < us.size := by have := (List.getElem?_eq_some_iff.1 e1).1; simpa using this
      simp only [AV.rel]
      have : (us ++ Array.replicate (fn.ntmps - us.size) undef).getD t undef = u := by
        rw [Array.getD_eq_getD_getElem?, Array.getElem?_append_left ht]
        have : us[t]? = some u := by simpa using e1
        simp [this]
      rw [this]
      exact RV.rel_mono ⟨Nat.le_refl _, fun b _ hb => ⟨⟨hb, fun i hi => by simp at hi⟩, rfl⟩⟩ r u e2
  have hr := (h ⟨w, ok, fun _ => False, n⟩ rfl (fun _ h => h) (fun m hG => hT.keep w m.w hw (hG.frm.below0 fun _ h => h))).run _ w hs
  intro b cs
  obtain ⟨a', w', todo, ⟨hd, v, hv, rr, bs, h1, h2, h3, h4, h5⟩, hst⟩ := hr b cs
  exact ⟨a', w', todo, ⟨hd, v, hv, v, rr, bs, rfl, h1, h2, h3, h4, h5⟩, hst⟩
theorem ACt.law (h : ACtv T P f args (.bool true)) (w : World) (hw : T w) (us : Array Value) (hu : RV.Rels w args us.toList) :
    Calls P f us w fun e w' => e = .returned (.bool true) ∧ Below w.heap.size w w' :=
  (h w (fun _ => True) us hw (fun _ _ => trivial) hu).mono fun _ _ ⟨u, rr, bs, e, h1, h2, _, _, h5⟩ => by
    subst h1
    simp only [RR.rel, RV.rel] at h2
    rw [e, h2.1]
    exact ⟨rfl, h5⟩
end
section
variable {T : World → Prop} {P : Program} {C : Ctx} {env : Env} {σ : List Ob} {t : Nat} {ty : TypeId} {pos : String} {after : Array Edge} {gd : Option (Nat × Bool)}
theorem pu_callW {f : FuncId} {fn : Func} {xs : Array Operand} {ats : Array TypeId} {args : List RV} {r : RV} [hfn : FN P f fn] (hb : Bears T C) (hf : ACtv T P f args r) (ha : xs.toList.map (ev env) = args.map .ro) :
    Pur P C ⟨some t, .call { callee := .value (.func f), args := xs, argTypes := ats }, ty, pos, after, gd⟩ env σ (.ro r) := by
  refine ⟨fun a m hG hσ hH K Q hK => ?_⟩
  have hr := FitsL.rels (ha ▸ FitsL.ros args) _ (rels_eval (a := a) (m := m) xs.toList fun x hx => hH x (by simp [Op.operands, Call.operands]; exact .inr (by simpa using hx)))
  unfold Oper.wp
  rw [execOp_call_go, run_call hfn]
  simp only [Oper.upon]
  refine (hf m.w m.ok _ (hb m hG) (fun b hb => ⟨by rw [hG.ok0]; exact hG.frm.new b (Nat.le_trans hG.frm.size hb), fun i hi e => ?_⟩) (by simpa using hr)).mono ?_
  · have := hG.lt hi e; omega
  · rintro e w' ⟨u, rr, bs, rfl, rfl, h1, _, _, h4⟩
    simp only [RR.rel] at h1
    obtain ⟨h1, rfl⟩ := h1
    refine hK u w' h4 ?_
    simp only [AV.rel]
    exact RV.rel_mono ⟨Nat.le_refl _, fun b _ hb => ⟨hb.1, rfl⟩⟩ r u h1
end
theorem lasts_var {P : Program} {n : String} {cs : Array Value} {g : Nat} (hg : P.globalNamed n = some g) : Lasts fun w => w.var? P n = some cs := ⟨fun w w' h hb => by
  refine var?_below hb hg ?_ h
  unfold World.var? at h
  rw [hg] at h
  simp only [Option.bind_some] at h
  split at h
  · rename_i hh; exact (Array.getElem?_eq_some_iff.1 hh).1
  · cases h⟩
end Go.Proofs.YtofefjklipglhaaDoor
/- The decimal digits of a number, one by one from the right: plain laws. -/
namespace Go.Proofs.YtofefjklipglhaaDoor
set_option linter.unusedSimpArgs false
set_option linter.unusedVariables false
def digPre (x : Int) : List UInt8 := if x = 0 then [] else Lib.decDigits x.natAbs
theorem tdiv_abs (x : Int) : (x.tdiv 10).natAbs = x.natAbs / 10 := by
  rw [Int.natAbs_tdiv]; rfl
theorem tmod_abs (x : Int) : (x.tmod 10).natAbs = x.natAbs % 10 := by
  rw [Int.natAbs_tmod]; rfl
theorem digPre_step (x : Int) (hx : x ≠ 0) : digPre x = digPre (x.tdiv 10) ++ [UInt8.ofNat (48 + x.natAbs % 10)] := by
  have h1 := tdiv_abs x
  have hn : x.natAbs ≠ 0 := by omega
  unfold digPre
  rw [if_neg hx, Lib.decDigits]
  by_cases h : x.natAbs < 10
  · have h0 : x.tdiv 10 = 0 := by
      have : (x.tdiv 10).natAbs = 0 := by rw [h1]; omega
      omega
    rw [dif_pos h, if_pos h0, Nat.mod_eq_of_lt h]; rfl
  · have h0 : x.tdiv 10 ≠ 0 := by
      intro e
      rw [e] at h1
      simp only [Int.natAbs_zero] at h1
      omega
    rw [dif_neg h, if_neg h0, h1]
theorem itoa_zero : Lib.itoa 0 = [48] := by
  unfold Lib.itoa
  rw [if_neg (by decide), Lib.decDigits, dif_pos (by decide)]; rfl
theorem itoa_neg (n : Int) (h : n < 0) : Lib.itoa n = 45 :: digPre n := by
  unfold Lib.itoa digPre
  rw [if_pos h, if_neg (by omega)]
theorem itoa_pos (n : Int) (h : 0 < n) : Lib.itoa n = digPre n := by
  unfold Lib.itoa digPre
  rw [if_neg (by omega), if_neg (by omega), show n.toNat = n.natAbs by omega]
theorem digs_len : ∀ (k u : Nat), u < 10 ^ (k + 1) → (Lib.decDigits u).length ≤ k + 1
  | 0, u, h => by rw [Lib.decDigits, dif_pos (by simpa using h)]; simp
  | k + 1, u, h => by
    rw [Lib.decDigits]
    split
    · simp
    · rw [List.length_append]
      have := digs_len k (u / 10) (by rw [Nat.pow_succ] at h; omega)
      simp only [List.length_cons, List.length_nil]; omega
theorem itoa_len (n : Int) (h1 : -9223372036854775808 ≤ n) (h2 : n ≤ 9223372036854775807) : (Lib.itoa n).length ≤ 20 := by
  unfold Lib.itoa
  split
  · have := digs_len 18 n.natAbs (by omega)
    simp only [List.length_cons]; omega
  · have := digs_len 18 n.toNat (by omega)
    omega
end Go.Proofs.YtofefjklipglhaaDoor
/- The shelf's contract of strconv.Itoa, laid at this program (by the kit's lay-shelf and lay-plain). -/
namespace Go.Proofs.YtofefjklipglhaaDoor
set_option linter.unusedSimpArgs false
set_option linter.unusedVariables false
open Go.Shelf
def laysM171_ren : Go.Shelf.Ren := ⟨fun | 171 => 57 | 243 => 69 | 246 => 74 | 283 => 76 | 284 => 77 | 285 => 78 | 286 => 79 | 129 => 81 | 317 => 80 | 318 => 82 | 319 => 83 | 320 => 84 | 337 => 85 | 338 => 86 | n => n, fun | 3 => 3 | 9 => 9 | 2 => 2 | 4 => 4 | 171 => 89 | 0 => 0 | 53 => 90 | 37 => 22 | 5 => 5 | 173 => 93 | 212 => 96 | 51 => 97 | 20 => 20 | 213 => 98 | 46 => 83 | 232 => 101 | 233 => 102 | n => n, fun | 17 => 0 | 18 => 1 | 19 => 2 | n => n⟩
theorem laysM171 : Go.Proofs.LaysM.n171 Tryd.prog laysM171_ren := {
  mixed := by kernel_rfl
  f129 := Tryd.func81.trans (congrArg some (by kernel_rfl))
  f171 := Tryd.func57.trans (congrArg some (by kernel_rfl))
  f243 := Tryd.func69.trans (congrArg some (by kernel_rfl))
  f246 := Tryd.func74.trans (congrArg some (by kernel_rfl))
  f283 := Tryd.func76.trans (congrArg some (by kernel_rfl))
  f284 := Tryd.func77.trans (congrArg some (by kernel_rfl))
  f285 := Tryd.func78.trans (congrArg some (by kernel_rfl))
  f286 := Tryd.func79.trans (congrArg some (by kernel_rfl))
  f317 := Tryd.func80.trans (congrArg some (by kernel_rfl))
  f318 := Tryd.func82.trans (congrArg some (by kernel_rfl))
  f319 := Tryd.func83.trans (congrArg some (by kernel_rfl))
  f320 := Tryd.func84.trans (congrArg some (by kernel_rfl))
  f337 := Tryd.func85.trans (congrArg some (by kernel_rfl))
  f338 := Tryd.func86.trans (congrArg some (by kernel_rfl))
  t0 := Tryd.underlying0
  a0 := Tryd.isAgg0
  z0 := Tryd.sizeOf0
  v0 := Tryd.zeroValue0
  t2 := Tryd.underlying2
  a2 := Tryd.isAgg2
  z2 := Tryd.sizeOf2
  v2 := Tryd.zeroValue2
  t3 := Tryd.underlying3
  a3 := Tryd.isAgg3
  z3 := Tryd.sizeOf3
  v3 := Tryd.zeroValue3
  t4 := Tryd.underlying4
  a4 := Tryd.isAgg4
  z4 := Tryd.sizeOf4
  v4 := Tryd.zeroValue4
  t5 := Tryd.underlying5
  a5 := Tryd.isAgg5
  z5 := Tryd.sizeOf5
  v5 := Tryd.zeroValue5
  t9 := Tryd.underlying9
  a9 := Tryd.isAgg9
  z9 := Tryd.sizeOf9
  v9 := Tryd.zeroValue9
  t20 := Tryd.underlying20
  a20 := Tryd.isAgg20
  z20 := Tryd.sizeOf20
  v20 := Tryd.zeroValue20
  t37 := Tryd.underlying22
  a37 := Tryd.isAgg22
  z37 := Tryd.sizeOf22
  v37 := Tryd.zeroValue22
  t46 := Tryd.underlying83
  a46 := Tryd.isAgg83
  z46 := Tryd.sizeOf83
  v46 := Tryd.zeroValue83
  t51 := Tryd.underlying97
  a51 := Tryd.isAgg97
  z51 := Tryd.sizeOf97
  v51 := Tryd.zeroValue97
  t53 := Tryd.underlying90
  a53 := Tryd.isAgg90
  z53 := Tryd.sizeOf90
  v53 := Tryd.zeroValue90
  t171 := Tryd.underlying89
  a171 := Tryd.isAgg89
  z171 := Tryd.sizeOf89
  v171 := Tryd.zeroValue89
  t173 := Tryd.underlying93
  a173 := Tryd.isAgg93
  z173 := Tryd.sizeOf93
  v173 := Tryd.zeroValue93
  t212 := Tryd.underlying96
  a212 := Tryd.isAgg96
  z212 := Tryd.sizeOf96
  v212 := Tryd.zeroValue96
  t213 := Tryd.underlying98
  a213 := Tryd.isAgg98
  z213 := Tryd.sizeOf98
  t232 := Tryd.underlying101
  a232 := Tryd.isAgg101
  z232 := Tryd.sizeOf101
  v232 := Tryd.zeroValue101
  t233 := Tryd.underlying102
  a233 := Tryd.isAgg102
  z233 := Tryd.sizeOf102
  v233 := Tryd.zeroValue102
  g17 := by kernel_rfl
  g18 := by kernel_rfl
  g19 := by kernel_rfl
  i0 := by kernel_rfl
  i2 := by kernel_rfl
  i3 := by kernel_rfl
  i4 := by kernel_rfl
  i5 := by kernel_rfl
  i9 := by kernel_rfl
  i20 := by kernel_rfl
  i37 := by kernel_rfl
  i46 := by kernel_rfl
  i51 := by kernel_rfl
  i53 := by kernel_rfl
  i171 := by kernel_rfl
  i173 := by kernel_rfl
  i212 := by kernel_rfl
  i232 := by kernel_rfl
  i233 := by kernel_rfl
  m17 := by kernel_rfl
  m18 := by kernel_rfl
  m19 := by kernel_rfl }
end Go.Proofs.YtofefjklipglhaaDoor
/- strconv.Itoa as a contract over values; it reads a table of the library. -/
namespace Go.Proofs.YtofefjklipglhaaDoor
set_option linter.unusedSimpArgs false
set_option linter.unusedVariables false
open Go.RowKit
open AV (Mem Keeps)
abbrev seatLaid : List (String × DataW Unit) := Rows.fnCodeRow.laid
abbrev tabName : String := (seatLaid.map (·.1)).getD 2 ""
def TabT (w : World) : Prop := w.var? Tryd.prog tabName = some (Lib.pow10Tab.map fun z => Value.int .u64 z).toArray
theorem tabG : Tryd.prog.globalNamed tabName = some 0 := by kernel_rfl
theorem tabT_lasts : Lasts TabT := lasts_var tabG
theorem tabT_of {W : World} {d : DataW Unit} (hd : d = Lib.tabData .u64 Lib.pow10Tab) (h : laidMet Tryd.prog [(tabName, d)] W) : TabT W := by
  subst hd
  exact Lib.tabIs_of_head tabG (t := 96) (e := 90) (n := 20) (by kernel_rfl) Tryd.underlying96 Tryd.underlying90 (by kernel_rfl) (by kernel_rfl) h
instance : FN Tryd.prog 57 Tryd.f57 := ⟨Tryd.func57, by kernel_rfl, by kernel_rfl⟩
theorem itoa_act (n : Int) (hn : I64 n) : ACtv TabT Tryd.prog 57 [.int n] (.str ⟨(Lib.itoa n).toArray⟩) := by
  intro w ok us hw h0 hu
  obtain ⟨us⟩ := us
  simp only [RV.rels, RV.rel] at hu
  obtain ⟨u, us', rfl, rfl, rfl⟩ := hu
  refine (Any.strconv_Itoa laysM171 n hn.1 hn.2 w hw).mono ?_
  rintro e w' ⟨rfl, k, os, rfl⟩
  refine ⟨_, .ro (.str ⟨(Lib.itoa n).toArray⟩), [], rfl, rfl, by simp [RR.rel, RV.rel], by simp, by simp, ?_⟩
  refine ⟨rfl, rfl, rfl, by simp, fun b hb => ?_⟩
  exact Sort.heap_grow_old (w.drewN k) os hb
end Go.Proofs.YtofefjklipglhaaDoor
/- Slice expressions on data. Over any program. -/
namespace Go.Proofs.YtofefjklipglhaaDoor
set_option linter.unusedSimpArgs false
set_option linter.unusedVariables false
open Go.RowKit
open AV (Mem Keeps)
theorem rel_sliced {w : World} {ok : Nat → Prop} {A : Option Addr} {n c sz l h : Nat} {els : List (List RV)} (hr : RV.rel w ok (.seq sz els) (.slice A n c)) (hl : l ≤ h) (hh : h ≤ els.length) : RV.rel w ok (.seq sz ((els.take h).drop l)) (sliced A l h c sz) := by
  simp only [RV.rel] at hr ⊢
  obtain ⟨A', n', c', e, hn, h1, h2, h3⟩ := hr
  injection e with e1 e2 e3; subst e1; subst e2; subst e3
  refine ⟨_, h - l, c - l, rfl, by rw [List.length_drop, List.length_take]; omega, by omega, by omega, fun h0 => ?_⟩
  obtain ⟨b, o, rfl, hb, hok, hE⟩ := h3 (by omega)
  rw [if_neg (by omega)]
  refine ⟨b, o + l * sz, by simp [Addr.add_lit], hb, hok, RV.relE_of _ _ _ fun k e hk => ?_⟩
  rw [List.getElem?_drop, List.getElem?_take] at hk
  split at hk
  · have := RV.relE_at _ o sz hE (l + k) e hk
    rwa [Nat.add_mul, ← Nat.add_assoc] at this
  · cases hk
section
variable {P : Program} {C : Ctx} {env : Env} {σ : List Ob} {t : Nat} {ty : TypeId} {pos : String} {after : Array Edge} {gd : Option (Nat × Bool)}
variable {tt e : TypeId} {z : Value} {sz bytes : Nat} {x y y' : Operand} {kd kd' : IntKind} {p q : Int} {els : List (List RV)} {α : Type} {l : List α} {f : α → List RV}
theorem SL.under [hs : SL P tt e z sz bytes] : P.underlying tt = some (.slice (P.elem tt)) := by
  have h := hs.el.ht
  have : P.elem tt = e := by simp [Program.elem, h]
  rw [this]; exact h
theorem SL.size [hs : SL P tt e z sz bytes] (w : World) : (sizeOf (P.elem tt)).run P w = .ok sz w := by
  have h := hs.el.ht
  have he : P.elem tt = e := by simp [Program.elem, h]
  obtain ⟨i, i1, i2, i3, i4⟩ := hs.el.hi
  simp [he, sizeOf, typeInfo, i1, i3]
theorem pu_slice_h [hs : SL P tt e z sz bytes] (hx : ev env x = .ro (.seq sz els)) (hy : ev env y = .ro (.c (.int kd p))) (h0 : 0 ≤ p) (h1 : p ≤ els.length) : Pur P C ⟨some t, .slice tt x none (some y) none, ty, pos, after, gd⟩ env σ (.ro (.seq sz (els.take p.toNat))) :=
  Pur.of (fun a m hG hσ hH => by
    have h := hH x (by simp [Op.operands])
    rw [hx] at h
    simp only [AV.rel] at h
    have h' := h
    simp only [RV.rel] at h'
    obtain ⟨A, n, c, ea, hn, k1, k2, _⟩ := h'
    rw [ea] at h
    have hr := rel_sliced h (Nat.zero_le p.toNat) (by omega)
    refine ⟨sliced A 0 p.toNat c sz, ?_, by simpa only [AV.rel, List.drop_zero] using hr⟩
    simp only [execOp, Option.map_some, Option.map_none, ev_c (hH _ (by simp [Op.operands])) hy, ea, Sem.run_bind, run_sliceAt_slice m.w tt _ _ _ _ SL.under, run_slice_h m.w tt A n c SL.under kd p h0 (by omega), SL.size, Result.andThen_ok]
    rfl)
theorem pu_slice_hM [hs : SL P tt e z sz bytes] (hx : ev env x = .ro (.seq sz (l.map f))) (hy : ev env y = .ro (.c (.int kd p))) (h0 : 0 ≤ p) (h1 : p ≤ l.length) : Pur P C ⟨some t, .slice tt x none (some y) none, ty, pos, after, gd⟩ env σ (.ro (.seq sz ((l.take p.toNat).map f))) := by
  have h := pu_slice_h (P := P) (tt := tt) (C := C) (σ := σ) (t := t) (ty := ty) (pos := pos) (after := after) (gd := gd) hx hy h0 (by simpa using h1)
  rwa [← List.map_take] at h
end
end Go.Proofs.YtofefjklipglhaaDoor
/- The context of a walk may change under way: rebasing; loops over changing contexts; iteration over a string. Over any program. -/
namespace Go.Proofs.YtofefjklipglhaaDoor
set_option linter.unusedSimpArgs false
set_option linter.unusedVariables false
open Go.RowKit
open AV (Mem Keeps)
section
variable {P : Program} {k : List Item} {R : Act → World → Prop}
def mine (φ : Nat → Option Nat) (n : Nat) (b : Nat) : Prop := ∃ i, i < n ∧ φ i = some b
theorem Runs.loopV {c : Code} (I : Nat → Ctx → St → Prop)
    (h : ∀ n C S, I n C S → (∀ m, m < n → ∀ C' S', I m C' S' → Runs P C' (.inLoop c :: k) R S') → Runs P C (.code c :: .inLoop c :: k) R S) (n : Nat) (C : Ctx) (S : St) (h0 : I n C S) : Runs P C (.code (.loop c) :: k) R S := by
  have key : ∀ n C S, I n C S → Runs P C (.code c :: .inLoop c :: k) R S := by
    intro n
    induction n using Nat.strongRecOn with
    | _ n ih => exact fun C S hS => h n C S hS fun m hm C' S' hS' => ⟨fun a w hs => ((ih m hm C' S' hS').run a w hs).step fun _ _ => step_inLoop⟩
  exact ⟨fun a w hs => ((key n C S h0).run a w hs).step fun _ _ => step_loop⟩
def cst : AV → Bool
  | .ro (.c _) | .junk => true
  | .ro (.tup vs) => vs.all fun r => match r with | .c _ => true | _ => false
  | _ => false
def CEnv : Env → Prop
  | [] => True
  | (_, v) :: e => cst v = true ∧ CEnv e
theorem rels_cst {w w' : World} {ok ok' : Nat → Prop} : ∀ (vs : List RV) (us : List Value), (vs.all fun r => match r with | .c _ => true | _ => false) = true → RV.rels w ok vs us → RV.rels w' ok' vs us
  | [], us, _, h => by simpa [RV.rels] using h
  | r :: vs, us, hc, h => by
    rw [List.all_cons, Bool.and_eq_true] at hc
    simp only [RV.rels] at h ⊢
    obtain ⟨u, us', e, h1, h2⟩ := h
    refine ⟨u, us', e, ?_, rels_cst vs us' hc.2 h2⟩
    cases r <;> simp at hc
    simpa only [RV.rel] using h1
theorem cst_rel {m m' : Mem} {v : AV} {u : Value} (hc : cst v = true) (h : AV.rel m v u) : AV.rel m' v u := by
  cases v with
  | ro r =>
    cases r <;> simp only [cst, Bool.false_eq_true] at hc <;> simp only [AV.rel, RV.rel] at h ⊢
    · exact h
    · obtain ⟨us, e, h1⟩ := h
      exact ⟨us, e, rels_cst _ _ hc h1⟩
  | junk => simp [AV.rel]
  | _ => simp [cst] at hc
theorem CEnv.look {env : Env} (h : CEnv env) (t : Nat) : cst (look env t) = true := by
  induction env with
  | nil => rfl
  | cons p e ih =>
    obtain ⟨s, v⟩ := p
    simp only [CEnv] at h
    rw [look_put]
    split
    · exact h.1
    · exact ih h.2
theorem CEnv.holds {m m' : Mem} {env : Env} {a : Act} (h : CEnv env) (hH : Holds m env a) : Holds m' env a := fun t => cst_rel (h.look t) (hH t)
theorem decode_high (s : ByteArray) (i : Nat) (h : i < s.size) (hc : 128 ≤ (s[i]'h).toNat) : 128 ≤ (Utf8.decode s i).1 := by
  have e : s.get! (i + 0) = s[i]'h := by
    show s.get! i = _
    simp [ByteArray.get!, getElem!_pos, h]
    rfl
  unfold Utf8.decode
  simp only [e]
  rw [if_neg (by omega)]
  split
  · split
    · assumption
    · decide
  · split
    · split
      · rename_i h1; simp only [Bool.and_eq_true, decide_eq_true_eq] at h1; simp only; omega
      · decide
    · split
      · split
        · rename_i h1; simp only [Bool.and_eq_true, decide_eq_true_eq] at h1; simp only; omega
        · decide
      · decide
section
variable {C : Ctx} {ops : Array Oper} {rest : List Oper} {env : Env} {t : Nat} {ty : TypeId} {pos : String} {after : Array Edge} {x : Operand} {s : ByteArray}
theorem op_rangeS {tt : TypeId} [hs : TS P tt] (hx : ev env x = .str s) (ht : t < C.n) (hce : CEnv env) (hm : ∀ b, ¬ C.mu b)
    (hk : ∀ (C' : Ctx) (g : Nat), C'.n = C.n → (∀ b, ¬ C'.mu b) → C'.w0.heap[g]? = some (.stringIter s 0) → C.w0.heap.size ≤ g → Below C.w0.heap.size C.w0 C'.w0 → RunsL P C' ops rest k R ⟨(t, .ro (.c (.pointer (some ⟨g, 0, none⟩)))) :: env, []⟩) :
    RunsL P C ops (⟨some t, .range tt x, ty, pos, after, none⟩ :: rest) k R ⟨env, []⟩ := by
  refine ⟨fun a w hsim => ?_⟩
  obtain ⟨h1, h2, φ, hG, hH⟩ := hsim
  have hxx := ev_c (ev_rel hH x) hx
  refine wpList_plain rfl fun K hK' => ?_
  unfold Oper.wp
  have hrun : (execOp a.eval ⟨some t, .range tt x, ty, pos, after, none⟩).run P w = .ok (.value (.pointer (some ⟨w.heap.size, 0, none⟩))) (w.iter s 0) := by
    simp [execOp, hxx, run_range_string w tt s hs.h]
  rw [hrun]
  simp only [Oper.upon]
  have hb : Below w.heap.size w (w.iter s 0) := below_one w _
  have hb0 : Below C.w0.heap.size C.w0 (w.iter s 0) := (hG.frm.below0 hm).trans (hb.mono hG.frm.size)
  refine hK' _ _ ((hk ⟨w.iter s 0, C.ok, fun _ => False, C.n⟩ w.heap.size rfl (fun _ h => h) (World.iter_heap w s 0) hG.frm.size hb0).run _ _ ?_)
  refine ⟨h1, by simp [Act.put, h2], φ, ⟨rfl, fun i j g hi => by simp at hi, fun i o hi => by simp at hi, fun i g hi => by simp at hi, ⟨rfl, rfl, rfl, Nat.le_refl _, fun _ _ _ => rfl, fun b hbb => hG.frm.new b (Nat.le_trans hG.frm.size (Nat.le_trans hb.size hbb))⟩⟩, ?_⟩
  exact (hce.holds hH).put (by rw [h2]; exact ht) (by simp [AV.rel, RV.rel])
theorem iter_world {w w' : World} {g : Nat} {o : Obj} (hg : w.heap[g]? = some o) (o' : Obj) (hw : w' = { w with heap := w.heap.setIfInBounds g o' }) : Below g w w' ∧ w'.heap[g]? = some o' ∧ w'.heap.size = w.heap.size := by
  subst hw
  have hlt : g < w.heap.size := (Array.getElem?_eq_some_iff.1 hg).1
  refine ⟨⟨rfl, rfl, rfl, by simp, fun b hb => ?_⟩, ?_, by simp⟩
  · show (w.heap.setIfInBounds g o')[b]? = _
    rw [Array.getElem?_setIfInBounds_ne (by omega)]
  · show (w.heap.setIfInBounds g o')[g]? = _
    rw [Array.getElem?_setIfInBounds_self_of_lt hlt]
theorem op_nextS {g p : Nat} (hx : ev env x = .ro (.c (.pointer (some ⟨g, 0, none⟩)))) (hg : C.w0.heap[g]? = some (.stringIter s p)) (hp : p < s.size) (ht : t < C.n) (hce : CEnv env) (hm : ∀ b, ¬ C.mu b)
    (hk : ∀ (C' : Ctx), C'.n = C.n → (∀ b, ¬ C'.mu b) → C'.w0.heap[g]? = some (.stringIter s (p + (Utf8.decode s p).2)) → Below g C.w0 C'.w0 → RunsL P C' ops rest k R ⟨(t, .ro (.tup [.bool true, .int (p : Int), .c (.int .i32 ((Utf8.decode s p).1 : Int))])) :: env, []⟩) :
    RunsL P C ops (⟨some t, .next x true, ty, pos, after, none⟩ :: rest) k R ⟨env, []⟩ := by
  refine ⟨fun a w hsim => ?_⟩
  obtain ⟨h1, h2, φ, hG, hH⟩ := hsim
  have hxx := ev_c (ev_rel hH x) hx
  have hlt : g < C.w0.heap.size := (Array.getElem?_eq_some_iff.1 hg).1
  have hb0 := hG.frm.below0 hm
  have hgw : w.heap[g]? = some (.stringIter s p) := (hb0.block g hlt).trans hg
  refine wpList_plain rfl fun K hK' => ?_
  unfold Oper.wp
  obtain ⟨k1, k2, k3⟩ := iter_world hgw (.stringIter s (p + (Utf8.decode s p).2)) rfl
  have hrun : (execOp a.eval ⟨some t, .next x true, ty, pos, after, none⟩).run P w = .ok (.value (.tuple #[.bool true, .int .i64 p, .int .i32 ((Utf8.decode s p).1 : Int)])) { w with heap := w.heap.setIfInBounds g (.stringIter s (p + (Utf8.decode s p).2)) } := by
    simp [execOp, hxx, Instr.next, getObj, setObj, Sem.run, Result.andThen, hgw, hp, goInt]
  rw [hrun]
  simp only [Oper.upon]
  have hb1 : Below g C.w0 { w with heap := w.heap.setIfInBounds g (.stringIter s (p + (Utf8.decode s p).2)) } := (hb0.mono (Nat.le_of_lt hlt)).trans k1
  refine hK' _ _ ((hk ⟨_, C.ok, fun _ => False, C.n⟩ rfl (fun _ h => h) k2 hb1).run _ _ ?_)
  refine ⟨h1, by simp [Act.put, h2], φ, ⟨rfl, fun i j g hi => by simp at hi, fun i o hi => by simp at hi, fun i g hi => by simp at hi, ⟨rfl, rfl, rfl, Nat.le_refl _, fun _ _ _ => rfl, fun b hbb => hG.frm.new b (Nat.le_trans hb1.size hbb)⟩⟩, ?_⟩
  exact (hce.holds hH).put (by rw [h2]; exact ht) (by simp [AV.rel, RV.rel, RV.rels])
theorem op_nextEnd {g p : Nat} (hx : ev env x = .ro (.c (.pointer (some ⟨g, 0, none⟩)))) (hg : C.w0.heap[g]? = some (.stringIter s p)) (hp : ¬ p < s.size) (ht : t < C.n) (hm : ∀ b, ¬ C.mu b)
    (hk : RunsL P C ops rest k R ⟨(t, .ro (.tup [.bool false])) :: env, []⟩) :
    RunsL P C ops (⟨some t, .next x true, ty, pos, after, none⟩ :: rest) k R ⟨env, []⟩ := by
  refine ⟨fun a w hsim => ?_⟩
  obtain ⟨h1, h2, φ, hG, hH⟩ := hsim
  have hxx := ev_c (ev_rel hH x) hx
  have hlt : g < C.w0.heap.size := (Array.getElem?_eq_some_iff.1 hg).1
  have hgw : w.heap[g]? = some (.stringIter s p) := ((hG.frm.below0 hm).block g hlt).trans hg
  refine wpList_plain rfl fun K hK' => ?_
  unfold Oper.wp
  have hrun : (execOp a.eval ⟨some t, .next x true, ty, pos, after, none⟩).run P w = .ok (.value (.tuple #[.bool false])) w := by
    simp [execOp, hxx, Instr.next, getObj, Sem.run, Result.andThen, hgw, hp]
  rw [hrun]
  simp only [Oper.upon]
  exact hK' _ _ (hk.run _ _ ⟨h1, by simp [Act.put, h2], φ, hG, hH.put (by rw [h2]; exact ht) (by simp [AV.rel, RV.rel, RV.rels])⟩)
end
theorem endsB {C C' : Ctx} {fn : Func} {R0 : RR → Prop} {S : St} {t : Nat} {v : Value} (hB : Below C.w0.heap.size C.w0 C'.w0) (hm : ∀ b, ¬ C'.mu b) (hr : fn.results = #[.tmp t]) (hx : look S.env t = .ro (.c v)) (hR : R0 (.ro (.c v))) : ∀ a w, Sim C' S a w → Ends P C fn R0 a w := by
  intro a w hs
  obtain ⟨h1, v', h2, rr, bs, rfl, h4, h5, h6, h7⟩ := ends_ro (R := fun r => r = .ro (.c v)) hm hr hx rfl a w hs
  simp only [RR.rel, RV.rel] at h4
  obtain ⟨rfl, rfl⟩ := h4
  exact ⟨h1, v', h2, .ro (.c v'), [], hR, by simp [RR.rel, RV.rel], by simp, by simp, hB.trans (h7.mono hB.size)⟩
end
end Go.Proofs.YtofefjklipglhaaDoor
/- Arrays of truth values in a frame. Over any program. -/
namespace Go.Proofs.YtofefjklipglhaaDoor
set_option linter.unusedSimpArgs false
set_option linter.unusedVariables false
open Go.RowKit
open AV (Mem Keeps)
def bools (n : Nat) (u : Nat → Bool) : List AV := (List.range n).map fun j => .bool (u j)
def boolsR (n : Nat) (u : Nat → Bool) : List RV := (List.range n).map fun j => .bool (u j)
attribute [irreducible] bools boolsR
section
variable {P : Program} {C : Ctx} {ops : Array Oper} {rest : List Oper} {k : List Item} {R : Act → World → Prop} {env : Env} {σ : List Ob} {t : Nat} {ty : TypeId} {pos : String} {after : Array Edge} {gd : Option (Nat × Bool)}
end
end Go.Proofs.YtofefjklipglhaaDoor
/- An empty literal of a slice is a row of the frame's own. Over any program. -/
namespace Go.Proofs.YtofefjklipglhaaDoor
set_option linter.unusedSimpArgs false
set_option linter.unusedVariables false
open Go.RowKit
open AV (Mem Keeps)
def FreeI (i : Nat) : List Ob → Prop
  | [] => True
  | o :: os => AV.onlys (fun k => k ≠ i) o.cs ∧ FreeI i os
theorem FreeI.at_ {i : Nat} : ∀ {os : List Ob}, FreeI i os → ∀ (j : Nat) o, os[j]? = some o → AV.onlys (fun k => k ≠ i) o.cs
  | [], _, j, o, hj => by simp at hj
  | o :: os, h, j, o', hj => by
    simp only [FreeI] at h
    cases j with
    | zero => simp at hj; subst hj; exact h.1
    | succ j => exact FreeI.at_ h.2 j o' (by simpa using hj)
section
variable {P : Program} {C : Ctx} {ops : Array Oper} {rest : List Oper} {k : List Item} {R : Act → World → Prop} {env : Env} {σ : List Ob} {t : Nat} {ty : TypeId} {pos : String} {after : Array Edge}
theorem pu_len_seqN {tt e : TypeId} {z : Value} {sz bytes sz' : Nat} {x : Operand} {els : List (List RV)} {gd : Option (Nat × Bool)} (n : Nat) [hs : SL P tt e z sz bytes] (hx : ev env x = .ro (.seq sz' els)) (hl : els.length = n) :
    Pur P C ⟨some t, .call { callee := .builtin .len, args := #[x], argTypes := #[tt] }, ty, pos, after, gd⟩ env σ (.int (n : Int)) := hl ▸ pu_len_seq hx
theorem run_build0 {tt e : TypeId} {z : Value} {sz bytes : Nat} [hs : SL P tt e z sz bytes] (w : World) : (Instr.buildSlice tt 0 #[]).run P w = .ok (.slice (some ⟨w.heap.size, 0, none⟩) 0 0) (w.alloc (.cells #[] e)) := by
  obtain ⟨i, hi, hz0, hsz', hb⟩ := hs.el.hi
  simp [Instr.buildSlice, run_underlying hs.el.ht, sizeOf, typeInfo, hi, newRow, newObj, Instr.fill, show Array.range 0 = #[] by rfl]
  rfl
theorem op_build0 {tt e : TypeId} {z : Value} {sz bytes : Nat} [hs : SL P tt e z sz bytes] (ht : t < C.n) (hk : RunsL P C ops rest k R ⟨(t, .own σ.length) :: env, σ ++ [⟨e, sz, []⟩]⟩) :
    RunsL P C ops (⟨some t, .buildSlice tt 0 #[], ty, pos, after, none⟩ :: rest) k R ⟨env, σ⟩ :=
  RunsL.val rfl rfl ht (fun a w φ hG hH => by
    have hg := good_alloc hG #[] e sz [] (by simp) (fun j v hj => by simp at hj)
    refine ⟨_, _, _, by simp only [execOp, Sem.run_bind]; rw [show (#[] : Array (Nat × Operand)).map (fun p => (p.1, a.eval p.2)) = #[] from by simp, run_build0 (P := P) (tt := tt) w]; rfl, hg.1, hg.2, ?_⟩
    simp only [AV.rel]
    exact ⟨⟨e, sz, []⟩, 0, by rw [List.getElem?_append_right (Nat.le_refl _), Nat.sub_self]; rfl, by simp, hs.el.hs, .inr ⟨w.heap.size, 0, _, upd_eq, rfl, heap_alloc_new w _, Nat.le_refl _, Nat.zero_le _, by simp⟩⟩) hk
end
end Go.Proofs.YtofefjklipglhaaDoor
/- Functions that are handed objects of their caller's and write into them. Over any program. -/
namespace Go.Proofs.YtofefjklipglhaaDoor
set_option linter.unusedSimpArgs false
set_option linter.unusedVariables false
open Go.RowKit
open AV (Mem Keeps)
theorem good_junk {C : Ctx} {w : World} {φ : Nat → Option Nat} {σ : List Ob} (hG : Good C ⟨w, φ, σ, C.ok⟩) {j p : Nat} {o : Ob} (ho : σ[j]? = some o) :
    Good C ⟨w, φ, σ.set j ⟨o.t, o.sz, o.cs.set p .junk⟩, C.ok⟩ ∧ Keeps (fun _ => True) ⟨w, φ, σ, C.ok⟩ ⟨w, φ, σ.set j ⟨o.t, o.sz, o.cs.set p .junk⟩, C.ok⟩ := by
  have hj := (List.getElem?_eq_some_iff.1 ho).1
  have hK : Keeps (fun _ => True) ⟨w, φ, σ, C.ok⟩ ⟨w, φ, σ.set j ⟨o.t, o.sz, o.cs.set p .junk⟩, C.ok⟩ := by
    refine ⟨⟨Nat.le_refl _, fun b _ hb => ⟨⟨hb.1, fun i hi => hb.2 i (by simpa using hi)⟩, rfl⟩⟩, fun i _ hi => ⟨by simpa using hi, rfl⟩, fun i ob _ hi => ?_, fun i g us t _ _ _ hh => ⟨us, hh, rfl⟩⟩
    by_cases e : i = j
    · subst e
      have : ob = o := Option.some.inj (hi.symm.trans ho)
      subst this
      exact ⟨ob.cs.set p .junk, by simp [hj], by simp⟩
    · exact ⟨ob.cs, by simp only [List.getElem?_set_ne (Ne.symm e)]; exact hi, rfl⟩
  refine ⟨⟨rfl, fun a b g ha hb => hG.inj a b g (by simpa using ha) (by simpa using hb), fun i ob hi => ?_, fun i g hi => hG.mine i g (by simpa using hi), hG.frm⟩, hK⟩
  by_cases e : i = j
  · subst e
    simp only [List.getElem?_set_self hj, Option.some.injEq] at hi
    subst hi
    have h := hG.ob i o ho
    show ObRel _ _ (φ i)
    simp only at h
    cases hφ : φ i with
    | none =>
      rw [hφ] at h
      simp only [ObRel] at h ⊢
      simp [h]
    | some g =>
      rw [hφ] at h
      obtain ⟨us, h1, h2, h3⟩ := h
      refine ⟨us, h1, by simpa using h2, fun k v hk => ?_⟩
      simp only [List.getElem?_set] at hk
      split at hk
      · rename_i hpk
        subst hpk
        split at hk
        · rename_i hlt
          injection hk with hk; subst hk
          obtain ⟨u, e1, e2, _⟩ := h3 p _ (List.getElem?_eq_getElem hlt)
          exact ⟨u, e1, e2, by simp [AV.rel]⟩
        · cases hk
      · obtain ⟨u, e1, e2, e3⟩ := h3 k v hk
        exact ⟨u, e1, e2, AV.rel_keeps hK _ _ (AV.only_true _) e3⟩
  · rw [List.getElem?_set_ne (Ne.symm e)] at hi
    exact (hG.ob i ob hi).keeps hK fun _ _ => rfl
section
variable {P : Program} {C : Ctx} {ops : Array Oper} {rest : List Oper} {k : List Item} {R : Act → World → Prop} {env : Env} {σ : List Ob} {t : Nat} {ty : TypeId} {pos : String} {after : Array Edge}
theorem RunsL.junk {l : List Oper} (j p : Nat) {o : Ob} (ho : σ[j]? = some o) (hk : RunsL P C ops l k R ⟨env, σ.set j ⟨o.t, o.sz, o.cs.set p .junk⟩⟩) : RunsL P C ops l k R ⟨env, σ⟩ :=
  ⟨fun a w ⟨h1, h2, φ, h3, h4⟩ => by
    obtain ⟨g1, g2⟩ := good_junk (p := p) h3 ho
    exact hk.run a w ⟨h1, h2, φ, g1, h4.keeps g2⟩⟩
end
def startEnvA : Nat → List AV → Env
  | _, [] => []
  | t, r :: rs => (t, r) :: startEnvA (t + 1) rs
theorem startA_look : ∀ (rs : List AV) (t k : Nat), look (startEnvA t rs) k = if t ≤ k then (rs[k - t]?).getD .junk else .junk
  | [], t, k => by simp [startEnvA, look]
  | r :: rs, t, k => by
    rw [startEnvA, look_put, startA_look rs (t + 1) k]
    by_cases h : t = k
    · subst h; simp
    · rw [if_neg h]
      by_cases h2 : t + 1 ≤ k
      · have e : k - t = (k - (t + 1)) + 1 := by omega
        rw [if_pos h2, if_pos (by omega : t ≤ k), e, List.getElem?_cons_succ]
      · rw [if_neg h2]
        split
        · omega
        · rfl
def AM (P : Program) (f : FuncId) (σ : List Ob) (st : List Nat) (args : List AV) (σ' : List Ob) (v : AV) : Prop :=
  ∀ (w : World) (φ : Nat → Option Nat) (ok : Nat → Prop) (us : Array Value), Good ⟨w, ok, mine φ σ.length, 0⟩ ⟨w, φ, σ, ok⟩ → AV.rels ⟨w, φ, σ, ok⟩ args us.toList →
    Calls P f us w fun e w' => ∃ u φ', e = .returned u ∧ Good ⟨w, ok, mine φ σ.length, 0⟩ ⟨w', φ', σ', ok⟩ ∧ AV.rel ⟨w', φ', σ', ok⟩ v u ∧ ∀ i ∈ st, φ' i = φ i
def pinA (gs : Nat → Nat) : AV → AV
  | .obj i off => .pin i off (gs i)
  | v => v
def EndsA (P : Program) (C : Ctx) (fn : Func) (gs : Nat → Nat) (st : List Nat) (σ' : List Ob) (v : AV) (a : Act) (w : World) : Prop :=
  a.defers = [] ∧ ∃ u, (results fn a.tmps).run P w = .ok u w ∧ ∃ φ', Good C ⟨w, φ', σ', C.ok⟩ ∧ AV.rel ⟨w, φ', σ', C.ok⟩ v u ∧ ∀ i ∈ st, φ' i = some (gs i)
theorem good_n {w : World} {ok mu : Nat → Prop} {n n' : Nat} {m : Mem} (h : Good ⟨w, ok, mu, n⟩ m) : Good ⟨w, ok, mu, n'⟩ m :=
  ⟨h.ok0, h.inj, h.ob, h.mine, ⟨h.frm.os, h.frm.tape, h.frm.output, h.frm.size, h.frm.block, h.frm.new⟩⟩
theorem am_enter {P : Program} {f : FuncId} {fn : Func} {c : Code} {σ σ' : List Ob} {st : List Nat} {args : List AV} {v : AV} (hf : P.funcs[f]? = some fn) (hb : fn.body = some c) (n : Nat) (hn : fn.ntmps = n) (hl : args.length ≤ n)
    (hst : ∀ i ∈ st, ∃ off, AV.obj i off ∈ args)
    (h : ∀ (C : Ctx) (gs : Nat → Nat), C.n = n → Runs P C [.code c] (EndsA P C fn gs st σ' v) ⟨startEnvA 0 (args.map (pinA gs)), σ⟩) : AM P f σ st args σ' v := by
  intro w φ ok us hG hu
  have hlen := AV.rels_len args _ hu
  refine calls_of_fin hf hb ?_
  let gs : Nat → Nat := fun i => (φ i).getD 0
  have hs : Sim ⟨w, ok, mine φ σ.length, n⟩ ⟨startEnvA 0 (args.map (pinA gs)), σ⟩ { tmps := us ++ Array.replicate (fn.ntmps - us.size) undef, defers := [] } w := by
    refine ⟨rfl, by simp at hlen ⊢; omega, φ, good_n hG, fun t => ?_⟩
    rw [startA_look]
    simp only [Nat.zero_le, if_true, Nat.sub_zero, List.getElem?_map]
    cases hr : args[t]? with
    | none => simp [AV.rel]
    | some r =>
      obtain ⟨u, e1, e2⟩ := AV.rels_at args _ hu t r hr
      have ht : t < us.size := by have := (List.getElem?_eq_some_iff.1 e1).1; simpa using this
      have : (us ++ Array.replicate (fn.ntmps - us.size) undef).getD t undef = u := by
        rw [Array.getD_eq_getD_getElem?, Array.getElem?_append_left ht]
        have : us[t]? = some u := by simpa using e1
        simp [this]
      simp only [Option.map_some, Option.getD_some]
      rw [this]
      cases r <;> simp only [pinA] <;> try exact e2
      case obj i off =>
        simp only [AV.rel] at e2 ⊢
        obtain ⟨k1, g, k2, k3⟩ := e2
        have : gs i = g := by simp only [gs, k2, Option.getD_some]
        rw [this]
        exact ⟨k1, k2, k3⟩
  have hr := (h ⟨w, ok, mine φ σ.length, n⟩ gs rfl).run _ w hs
  intro b cs
  obtain ⟨a', w', todo, ⟨hd, u, hv, φ', h1, h2, h3⟩, hstep⟩ := hr b cs
  refine ⟨a', w', todo, ⟨hd, u, hv, u, φ', rfl, good_n h1, h2, fun i hi => ?_⟩, hstep⟩
  obtain ⟨off, ho⟩ := hst i hi
  obtain ⟨j, hj⟩ := List.mem_iff_getElem?.1 ho
  obtain ⟨u', _, e2⟩ := AV.rels_at args _ hu j _ hj
  simp only [AV.rel] at e2
  obtain ⟨_, g, k2, _⟩ := e2
  rw [h3 i hi]
  simp only [gs, k2, Option.getD_some]
section
variable {P : Program} {C : Ctx} {fn : Func} {S : St} {gs : Nat → Nat} {st : List Nat} {σ' : List Ob} {v : AV}
theorem pins {φ : Nat → Option Nat} {w : World} {a : Act} (hH : Holds ⟨w, φ, S.σ, C.ok⟩ S.env a) (h : ∀ i ∈ st, ∃ t off, look S.env t = .pin i off (gs i)) : ∀ i ∈ st, φ i = some (gs i) := fun i hi => by
  obtain ⟨t, off, ht⟩ := h i hi
  have := hH t
  rw [ht] at this
  simp only [AV.rel] at this
  exact this.2.1
theorem endsA0 (hst : ∀ i ∈ st, ∃ t off, look S.env t = .pin i off (gs i)) (hr : fn.results = #[]) (hσ : S.σ = σ') : ∀ a w, Sim C S a w → EndsA P C fn gs st σ' (.tup []) a w := by
  rintro a w ⟨h1, h2, φ, hG, hH⟩
  subst hσ
  exact ⟨h1, .tuple #[], by rw [results_eq, hr]; simp, φ, hG, by simp [AV.rel, AV.rels], pins hH hst⟩
end
mutual
def AV.ren (r : Nat → Nat) : AV → AV
  | .ro v => .ro v
  | .junk => .junk
  | .obj i off => .obj (r i) off
  | .pin i off g => .pin (r i) off g
  | .own i => .own (r i)
  | .agg cs => .agg (AV.rens r cs)
  | .tup vs => .tup (AV.rens r vs)
  | .fn f a b => .fn f (AV.rens r a) (AV.rens r b)
def AV.rens (r : Nat → Nat) : List AV → List AV
  | [] => []
  | x :: xs => AV.ren r x :: AV.rens r xs
end
def Ob.ren (r : Nat → Nat) (o : Ob) : Ob := ⟨o.t, o.sz, AV.rens r o.cs⟩
theorem rens_len (r : Nat → Nat) : ∀ l : List AV, (AV.rens r l).length = l.length
  | [] => rfl
  | x :: xs => by simp [AV.rens, rens_len r xs]
theorem rens_at (r : Nat → Nat) : ∀ (l : List AV) (j : Nat), (AV.rens r l)[j]? = (l[j]?).map (AV.ren r)
  | [], j => by simp [AV.rens]
  | x :: xs, 0 => by simp [AV.rens]
  | x :: xs, j + 1 => by simp [AV.rens, rens_at r xs j]
mutual
def AV.rid (lent st : Nat → Bool) : AV → AV
  | .ro v => .ro v
  | .junk => .junk
  | .obj i off => match lent i, st i with
    | true, false => .junk
    | _, _ => .obj i off
  | .pin i off g => match lent i, st i with
    | true, false => .junk
    | _, _ => .pin i off g
  | .own i => match lent i with
    | true => .junk
    | false => .own i
  | .agg cs => .agg (AV.rids lent st cs)
  | .tup vs => .tup (AV.rids lent st vs)
  | .fn f a b => .fn f (AV.rids lent st a) (AV.rids lent st b)
def AV.rids (lent st : Nat → Bool) : List AV → List AV
  | [] => []
  | x :: xs => AV.rid lent st x :: AV.rids lent st xs
end
def ridEnv (lent st : Nat → Bool) : Env → Env
  | [] => []
  | (t, v) :: e => (t, v.rid lent st) :: ridEnv lent st e
theorem look_ridEnv (lent st : Nat → Bool) : ∀ (e : Env) (t : Nat), look (ridEnv lent st e) t = (look e t).rid lent st
  | [], t => by simp [ridEnv, look, AV.rid]
  | (s, v) :: e, t => by
    rw [ridEnv, look_put, look_put]
    split
    · rfl
    · exact look_ridEnv lent st e t
section
variable {m m' : Mem} {r : Nat → Nat} {lent st : Nat → Bool}
mutual
theorem rel_unren {n : Nat} (hw : m'.w = m.w) (hok : ∀ b, m.ok b → m'.ok b) (hφ : ∀ i, i < n → m'.φ i = m.φ (r i)) (hn : m'.σ.length = n) (hσ : ∀ (i : Nat) o, i < n → m.σ[r i]? = some o → ∃ cs, m'.σ[i]? = some ⟨o.t, o.sz, cs⟩ ∧ cs.length = o.cs.length) :
    ∀ (v : AV) (u : Value), v.only (fun i => i < n) → AV.rel m (v.ren r) u → AV.rel m' v u
  | .ro v, u, _, h => by
    simp only [AV.ren, AV.rel] at h ⊢
    exact RV.rel_mono ⟨by rw [hw]; exact Nat.le_refl _, fun b _ hb => ⟨hok b hb, by rw [hw]⟩⟩ v u h
  | .junk, u, _, _ => by simp [AV.rel]
  | .obj i off, u, ho, h => by
    simp only [AV.ren, AV.rel, AV.only] at h ho ⊢
    obtain ⟨_, g, h2, h3⟩ := h
    exact ⟨by omega, g, (hφ i ho).trans h2, h3⟩
  | .pin i off g, u, ho, h => by
    simp only [AV.ren, AV.rel, AV.only] at h ho ⊢
    obtain ⟨_, h2, h3⟩ := h
    exact ⟨by omega, (hφ i ho).trans h2, h3⟩
  | .own i, u, ho, h => by
    simp only [AV.ren, AV.rel, AV.only] at h ho ⊢
    obtain ⟨ob, k, h1, h2, h3, h4⟩ := h
    obtain ⟨cs, e1, e2⟩ := hσ i ob ho h1
    refine ⟨_, k, e1, by simp only; rw [e2]; exact h2, h3, ?_⟩
    rcases h4 with ⟨q1, q2, q3⟩ | ⟨g, cap, us, q1, q2, q3, q4⟩
    · exact .inl ⟨q1, q2, (hφ i ho).trans q3⟩
    · exact .inr ⟨g, cap, us, (hφ i ho).trans q1, q2, by rw [hw]; exact q3, q4⟩
  | .agg cs, u, ho, h => by
    simp only [AV.ren, AV.rel, AV.only] at h ho ⊢
    obtain ⟨us, e, h1⟩ := h
    exact ⟨us, e, rels_unren hw hok hφ hn hσ cs _ ho h1⟩
  | .tup cs, u, ho, h => by
    simp only [AV.ren, AV.rel, AV.only] at h ho ⊢
    obtain ⟨us, e, h1⟩ := h
    exact ⟨us, e, rels_unren hw hok hφ hn hσ cs _ ho h1⟩
  | .fn f a b, u, ho, h => by
    simp only [AV.ren, AV.rel, AV.only] at h ho ⊢
    obtain ⟨us, vs, e, h1, h2⟩ := h
    exact ⟨us, vs, e, rels_unren hw hok hφ hn hσ a _ ho.1 h1, rels_unren hw hok hφ hn hσ b _ ho.2 h2⟩
theorem rels_unren {n : Nat} (hw : m'.w = m.w) (hok : ∀ b, m.ok b → m'.ok b) (hφ : ∀ i, i < n → m'.φ i = m.φ (r i)) (hn : m'.σ.length = n) (hσ : ∀ (i : Nat) o, i < n → m.σ[r i]? = some o → ∃ cs, m'.σ[i]? = some ⟨o.t, o.sz, cs⟩ ∧ cs.length = o.cs.length) :
    ∀ (vs : List AV) (us : List Value), AV.onlys (fun i => i < n) vs → AV.rels m (AV.rens r vs) us → AV.rels m' vs us
  | [], us, _, h => by simpa [AV.rens, AV.rels] using h
  | x :: xs, us, ho, h => by
    simp only [AV.rens, AV.rels, AV.onlys] at h ho ⊢
    obtain ⟨u, us', e, h1, h2⟩ := h
    exact ⟨u, us', e, rel_unren hw hok hφ hn hσ x u ho.1 h1, rels_unren hw hok hφ hn hσ xs us' ho.2 h2⟩
end
mutual
theorem rel_ren {n : Nat} (hw : m'.w = m.w) (hok : ∀ b, m.ok b → m'.ok b) (hφ : ∀ i, i < n → m'.φ (r i) = m.φ i) (hr : ∀ i, i < n → r i < m'.σ.length) (hn : m.σ.length = n) (hσ : ∀ (i : Nat) o, m.σ[i]? = some o → ∃ cs, m'.σ[r i]? = some ⟨o.t, o.sz, cs⟩ ∧ cs.length = o.cs.length) :
    ∀ (v : AV) (u : Value), AV.rel m v u → AV.rel m' (v.ren r) u
  | .ro v, u, h => by
    simp only [AV.ren, AV.rel] at h ⊢
    exact RV.rel_mono ⟨by rw [hw]; exact Nat.le_refl _, fun b _ hb => ⟨hok b hb, by rw [hw]⟩⟩ v u h
  | .junk, u, _ => by simp [AV.rel, AV.ren]
  | .obj i off, u, h => by
    simp only [AV.ren, AV.rel] at h ⊢
    obtain ⟨h1, g, h2, h3⟩ := h
    exact ⟨hr i (by omega), g, (hφ i (by omega)).trans h2, h3⟩
  | .pin i off g, u, h => by
    simp only [AV.ren, AV.rel] at h ⊢
    obtain ⟨h1, h2, h3⟩ := h
    exact ⟨hr i (by omega), (hφ i (by omega)).trans h2, h3⟩
  | .own i, u, h => by
    simp only [AV.ren, AV.rel] at h ⊢
    obtain ⟨ob, k, h1, h2, h3, h4⟩ := h
    obtain ⟨cs, e1, e2⟩ := hσ i ob h1
    have hi : i < n := by have := (List.getElem?_eq_some_iff.1 h1).1; omega
    refine ⟨_, k, e1, by simp only; rw [e2]; exact h2, h3, ?_⟩
    rcases h4 with ⟨q1, q2, q3⟩ | ⟨g, cap, us, q1, q2, q3, q4⟩
    · exact .inl ⟨q1, q2, (hφ i hi).trans q3⟩
    · exact .inr ⟨g, cap, us, (hφ i hi).trans q1, q2, by rw [hw]; exact q3, q4⟩
  | .agg cs, u, h => by
    simp only [AV.ren, AV.rel] at h ⊢
    obtain ⟨us, e, h1⟩ := h
    exact ⟨us, e, rels_ren hw hok hφ hr hn hσ cs _ h1⟩
  | .tup cs, u, h => by
    simp only [AV.ren, AV.rel] at h ⊢
    obtain ⟨us, e, h1⟩ := h
    exact ⟨us, e, rels_ren hw hok hφ hr hn hσ cs _ h1⟩
  | .fn f a b, u, h => by
    simp only [AV.ren, AV.rel] at h ⊢
    obtain ⟨us, vs, e, h1, h2⟩ := h
    exact ⟨us, vs, e, rels_ren hw hok hφ hr hn hσ a _ h1, rels_ren hw hok hφ hr hn hσ b _ h2⟩
theorem rels_ren {n : Nat} (hw : m'.w = m.w) (hok : ∀ b, m.ok b → m'.ok b) (hφ : ∀ i, i < n → m'.φ (r i) = m.φ i) (hr : ∀ i, i < n → r i < m'.σ.length) (hn : m.σ.length = n) (hσ : ∀ (i : Nat) o, m.σ[i]? = some o → ∃ cs, m'.σ[r i]? = some ⟨o.t, o.sz, cs⟩ ∧ cs.length = o.cs.length) :
    ∀ (vs : List AV) (us : List Value), AV.rels m vs us → AV.rels m' (AV.rens r vs) us
  | [], us, h => by simpa [AV.rens, AV.rels] using h
  | x :: xs, us, h => by
    simp only [AV.rens, AV.rels] at h ⊢
    obtain ⟨u, us', e, h1, h2⟩ := h
    exact ⟨u, us', e, rel_ren hw hok hφ hr hn hσ x u h1, rels_ren hw hok hφ hr hn hσ xs us' h2⟩
end
mutual
theorem rel_rid (hro : RV.Kept m.w m.ok m'.w m'.ok) (hlen : m'.σ.length = m.σ.length) (hφ : ∀ i, i < m.σ.length → lent i = false ∨ st i = true → m'.φ i = m.φ i) (hσ : ∀ i, lent i = false → m'.σ[i]? = m.σ[i]?) (hb : ∀ i g, i < m.σ.length → lent i = false → m.φ i = some g → m'.w.heap[g]? = m.w.heap[g]?) :
    ∀ (v : AV) (u : Value), AV.rel m v u → AV.rel m' (v.rid lent st) u
  | .ro v, u, h => by
    simp only [AV.rid, AV.rel] at h ⊢
    exact RV.rel_mono hro v u h
  | .junk, u, _ => by simp [AV.rel, AV.rid]
  | .obj i off, u, h => by
    have key : lent i = false ∨ st i = true → AV.rel m' (.obj i off) u := fun hk => by
      simp only [AV.rel] at h ⊢
      obtain ⟨h1, g, h2, h3⟩ := h
      exact ⟨by omega, g, (hφ i h1 hk).trans h2, h3⟩
    unfold AV.rid
    cases h1 : lent i <;> cases h2 : st i <;> first | exact key (.inl h1) | exact key (.inr h2) | simp [AV.rel]
  | .pin i off g, u, h => by
    have key : lent i = false ∨ st i = true → AV.rel m' (.pin i off g) u := fun hk => by
      simp only [AV.rel] at h ⊢
      obtain ⟨h1, h2, h3⟩ := h
      exact ⟨by omega, (hφ i h1 hk).trans h2, h3⟩
    unfold AV.rid
    cases h1 : lent i <;> cases h2 : st i <;> first | exact key (.inl h1) | exact key (.inr h2) | simp [AV.rel]
  | .own i, u, h => by
    have key : lent i = false → AV.rel m' (.own i) u := fun hk => by
      simp only [AV.rel] at h ⊢
      obtain ⟨ob, k, h1, h2, h3, h4⟩ := h
      have hi := (List.getElem?_eq_some_iff.1 h1).1
      refine ⟨ob, k, (hσ i hk).trans h1, h2, h3, ?_⟩
      rcases h4 with ⟨q1, q2, q3⟩ | ⟨g, cap, us, q1, q2, q3, q4⟩
      · exact .inl ⟨q1, q2, (hφ i hi (.inl hk)).trans q3⟩
      · exact .inr ⟨g, cap, us, (hφ i hi (.inl hk)).trans q1, q2, (hb i g hi hk q1).trans q3, q4⟩
    unfold AV.rid
    cases h1 : lent i <;> first | exact key h1 | simp [AV.rel]
  | .agg cs, u, h => by
    simp only [AV.rid, AV.rel] at h ⊢
    obtain ⟨us, e, h1⟩ := h
    exact ⟨us, e, rels_rid hro hlen hφ hσ hb cs _ h1⟩
  | .tup cs, u, h => by
    simp only [AV.rid, AV.rel] at h ⊢
    obtain ⟨us, e, h1⟩ := h
    exact ⟨us, e, rels_rid hro hlen hφ hσ hb cs _ h1⟩
  | .fn f a b, u, h => by
    simp only [AV.rid, AV.rel] at h ⊢
    obtain ⟨us, vs, e, h1, h2⟩ := h
    exact ⟨us, vs, e, rels_rid hro hlen hφ hσ hb a _ h1, rels_rid hro hlen hφ hσ hb b _ h2⟩
theorem rels_rid (hro : RV.Kept m.w m.ok m'.w m'.ok) (hlen : m'.σ.length = m.σ.length) (hφ : ∀ i, i < m.σ.length → lent i = false ∨ st i = true → m'.φ i = m.φ i) (hσ : ∀ i, lent i = false → m'.σ[i]? = m.σ[i]?) (hb : ∀ i g, i < m.σ.length → lent i = false → m.φ i = some g → m'.w.heap[g]? = m.w.heap[g]?) :
    ∀ (vs : List AV) (us : List Value), AV.rels m vs us → AV.rels m' (AV.rids lent st vs) us
  | [], us, h => by simpa [AV.rids, AV.rels] using h
  | x :: xs, us, h => by
    simp only [AV.rids, AV.rels] at h ⊢
    obtain ⟨u, us', e, h1, h2⟩ := h
    exact ⟨u, us', e, rel_rid hro hlen hφ hσ hb x u h1, rels_rid hro hlen hφ hσ hb xs us' h2⟩
end
end
theorem rids_at (lent st : Nat → Bool) : ∀ (l : List AV) (j : Nat), (AV.rids lent st l)[j]? = (l[j]?).map (AV.rid lent st)
  | [], j => by simp [AV.rids]
  | x :: xs, 0 => by simp [AV.rids]
  | x :: xs, j + 1 => by simp [AV.rids, rids_at lent st xs j]
def rof (ι : List Nat) (i : Nat) : Nat := (ι[i]?).getD 0
def lentB (ι : List Nat) (i : Nat) : Bool := ι.any fun j => Nat.beq j i
def stB' (ι st : List Nat) (i : Nat) : Bool := st.any fun j => Nat.beq (rof ι j) i
def putObs (ι : List Nat) (σ : List Ob) : List Ob → Nat → List Ob
  | [], _ => σ
  | o :: os, j => putObs ι (σ.set (rof ι j) (o.ren (rof ι))) os (j + 1)
theorem putObs_len (ι : List Nat) : ∀ (os σ : List Ob) (j : Nat), (putObs ι σ os j).length = σ.length
  | [], σ, j => rfl
  | o :: os, σ, j => by rw [putObs, putObs_len ι os]; simp
theorem putObs_off (ι : List Nat) (i : Nat) : ∀ (os σ : List Ob) (j : Nat), (∀ k, k < os.length → rof ι (j + k) ≠ i) → (putObs ι σ os j)[i]? = σ[i]?
  | [], σ, j, _ => rfl
  | o :: os, σ, j, h => by
    rw [putObs, putObs_off ι i os _ (j + 1) fun k hk => by
      have := h (k + 1) (by simp; omega)
      rwa [show j + (k + 1) = j + 1 + k by omega] at this]
    exact List.getElem?_set_ne (h 0 (by simp))
theorem putObs_at (ι : List Nat) : ∀ (os σ : List Ob) (j : Nat), (∀ a b, a < os.length → b < os.length → rof ι (j + a) = rof ι (j + b) → a = b) → ∀ (k : Nat) o, os[k]? = some o → rof ι (j + k) < σ.length → (putObs ι σ os j)[rof ι (j + k)]? = some (o.ren (rof ι))
  | [], σ, j, _, k, o, h, _ => by simp at h
  | x :: os, σ, j, hinj, k, o, h, hlt => by
    rw [putObs]
    cases k with
    | zero =>
      simp at h; subst h
      rw [putObs_off ι _ os _ (j + 1) fun k hk e => by
        have := hinj (k + 1) 0 (by simp; omega) (by simp) (by rw [show j + (k + 1) = j + 1 + k by omega]; exact e)
        omega]
      rw [Nat.add_zero] at hlt ⊢
      exact List.getElem?_set_self hlt
    | succ k =>
      simp at h
      have := putObs_at ι os (σ.set (rof ι j) (x.ren (rof ι))) (j + 1) (fun a b ha hb e => by
        have := hinj (a + 1) (b + 1) (by simp; omega) (by simp; omega) (by rw [show j + (a + 1) = j + 1 + a by omega, show j + (b + 1) = j + 1 + b by omega]; exact e)
        omega) k o h (by rw [show j + 1 + k = j + (k + 1) by omega]; simpa using hlt)
      rwa [show j + 1 + k = j + (k + 1) by omega] at this
def LentAt (ι : List Nat) (σ : List Ob) : List Ob → Nat → Prop
  | [], _ => True
  | o :: os, j => σ[rof ι j]? = some (o.ren (rof ι)) ∧ LentAt ι σ os (j + 1)
theorem LentAt.at_ {ι : List Nat} {σ : List Ob} : ∀ {os : List Ob} {j : Nat}, LentAt ι σ os j → ∀ (k : Nat) o, os[k]? = some o → σ[rof ι (j + k)]? = some (o.ren (rof ι))
  | [], j, _, k, o, h => by simp at h
  | x :: os, j, hl, k, o, h => by
    simp only [LentAt] at hl
    cases k with
    | zero => simp at h; subst h; exact hl.1
    | succ k =>
      simp at h
      have := LentAt.at_ hl.2 k o h
      rwa [show j + 1 + k = j + (k + 1) by omega] at this
def FreeR (ι st : List Nat) : Nat → List Ob → Prop
  | _, [] => True
  | i, o :: os => (lentB ι i = true ∨ AV.rids (lentB ι) (stB' ι st) o.cs = o.cs) ∧ FreeR ι st (i + 1) os
theorem FreeR.at_ {ι st : List Nat} : ∀ {os : List Ob} {i : Nat}, FreeR ι st i os → ∀ (k : Nat) o, os[k]? = some o → lentB ι (i + k) = true ∨ AV.rids (lentB ι) (stB' ι st) o.cs = o.cs
  | [], i, _, k, o, h => by simp at h
  | x :: os, i, hl, k, o, h => by
    simp only [FreeR] at hl
    cases k with
    | zero => simp at h; subst h; exact hl.1
    | succ k =>
      simp at h
      have := FreeR.at_ hl.2 k o h
      rwa [show i + 1 + k = i + (k + 1) by omega] at this
structure Lent (ι st : List Nat) (σ σ0 σ1 : List Ob) : Prop where
  len : Nat.beq σ0.length ι.length = true
  len1 : Nat.beq σ1.length ι.length = true
  lt : (ι.all fun i => Nat.ble (i + 1) σ.length) = true
  inj : ι.Nodup
  at_ : LentAt ι σ σ0 0
  closed : FreeO σ0.length σ0
  stl : (st.all fun j => Nat.ble (j + 1) ι.length) = true
  free : FreeR ι st 0 σ
def unpin : AV → AV
  | .pin i off _ => .obj i off
  | v => v
theorem unpin_rel {m : Mem} {v : AV} {u : Value} (h : AV.rel m v u) : AV.rel m (unpin v) u := by
  cases v <;> simp only [unpin] <;> try exact h
  case pin i off g =>
    simp only [AV.rel] at h ⊢
    exact ⟨h.1, g, h.2.1, h.2.2⟩
def putEnv (d : Option Nat) (v : AV) (env : Env) : Env := match d with
  | some t => (t, v) :: env
  | none => env
theorem lentB_iff {ι : List Nat} {i : Nat} : lentB ι i = true ↔ ∃ j, j < ι.length ∧ rof ι j = i := by
  unfold lentB
  rw [List.any_eq_true]
  constructor
  · rintro ⟨x, hx, hb⟩
    obtain ⟨j, hj, rfl⟩ := List.getElem_of_mem hx
    exact ⟨j, hj, by simpa [rof, hj] using Nat.eq_of_beq_eq_true hb⟩
  · rintro ⟨j, hj, rfl⟩
    refine ⟨ι[j], List.getElem_mem hj, ?_⟩
    simp [rof, hj]
theorem rof_inj {ι : List Nat} (h : ι.Nodup) {a b : Nat} (ha : a < ι.length) (hb : b < ι.length) (e : rof ι a = rof ι b) : a = b := by
  simp only [rof, List.getElem?_eq_getElem ha, List.getElem?_eq_getElem hb, Option.getD_some] at e
  exact (List.getElem_inj h).1 e
section
variable {P : Program} {C : Ctx} {ops : Array Oper} {rest : List Oper} {k : List Item} {R : Act → World → Prop} {env : Env} {σ : List Ob} {t : Nat} {ty : TypeId} {pos : String} {after : Array Edge}
theorem lent_step {ι st : List Nat} {σ0 σ1 : List Ob} {w w' : World} {φ φ1 : Nat → Option Nat} (hL : Lent ι st σ σ0 σ1) (hG : Good C ⟨w, φ, σ, C.ok⟩) {ok0 : Nat → Prop} (hok0 : ok0 = fun b => C.ok b ∧ ∀ i, i < σ.length → lentB ι i = false → φ i ≠ some b)
    (hG1 : Good ⟨w, ok0, mine (fun j => φ (rof ι j)) σ0.length, 0⟩ ⟨w', φ1, σ1, ok0⟩) (hst : ∀ i ∈ st, φ1 i = φ (rof ι i)) :
    ∃ φ', Good C ⟨w', φ', putObs ι σ σ1 0, C.ok⟩ ∧ (∀ v u, AV.rel ⟨w, φ, σ, C.ok⟩ v u → AV.rel ⟨w', φ', putObs ι σ σ1 0, C.ok⟩ (v.rid (lentB ι) (stB' ι st)) u) ∧ (∀ v u, AV.rel ⟨w', φ1, σ1, ok0⟩ v u → AV.rel ⟨w', φ', putObs ι σ σ1 0, C.ok⟩ (v.ren (rof ι)) u) := by
  subst hok0
  have hl0 : σ0.length = ι.length := Nat.eq_of_beq_eq_true hL.len
  have hl1 : σ1.length = ι.length := Nat.eq_of_beq_eq_true hL.len1
  have hlt : ∀ j, j < ι.length → rof ι j < σ.length := fun j hj => by
    have := List.all_eq_true.1 hL.lt ι[j] (List.getElem_mem hj)
    have := Nat.le_of_ble_eq_true this
    simp only [rof, List.getElem?_eq_getElem hj, Option.getD_some]
    omega
  have hinj : ∀ a b, a < ι.length → b < ι.length → rof ι a = rof ι b → a = b := fun a b ha hb e => rof_inj hL.inj ha hb e
  let φ' : Nat → Option Nat := open Classical in fun i => if h : ∃ j, j < ι.length ∧ rof ι j = i then φ1 h.choose else φ i
  have e1 : ∀ j, j < ι.length → φ' (rof ι j) = φ1 j := fun j hj => by
    have hex : ∃ j', j' < ι.length ∧ rof ι j' = rof ι j := ⟨j, hj, rfl⟩
    show (if h : ∃ j', j' < ι.length ∧ rof ι j' = rof ι j then φ1 h.choose else φ (rof ι j)) = _
    rw [dif_pos hex, hinj _ _ hex.choose_spec.1 hj hex.choose_spec.2]
  have e2 : ∀ i, lentB ι i = false → φ' i = φ i := fun i hi => by
    have hex : ¬ ∃ j', j' < ι.length ∧ rof ι j' = i := fun h => by rw [lentB_iff.2 h] at hi; cases hi
    show (if h : ∃ j', j' < ι.length ∧ rof ι j' = i then φ1 h.choose else φ i) = _
    rw [dif_neg hex]
  have hlen' : (putObs ι σ σ1 0).length = σ.length := putObs_len ι σ1 σ 0
  have hat : ∀ (j : Nat) o, σ1[j]? = some o → (putObs ι σ σ1 0)[rof ι j]? = some (o.ren (rof ι)) := fun j o hj => by
    have hjl := (List.getElem?_eq_some_iff.1 hj).1
    have := putObs_at ι σ1 σ 0 (fun a b ha hb e => hinj a b (by omega) (by omega) (by simpa using e)) j o hj (by rw [Nat.zero_add]; exact hlt j (by omega))
    rwa [Nat.zero_add] at this
  have hoff : ∀ i, lentB ι i = false → (putObs ι σ σ1 0)[i]? = σ[i]? := fun i hi => putObs_off ι i σ1 σ 0 fun k hk e => by
    rw [lentB_iff.2 ⟨0 + k, by omega, e⟩] at hi; cases hi
  have hblk : ∀ b, b < w.heap.size → (∀ j, j < ι.length → φ (rof ι j) ≠ some b) → w'.heap[b]? = w.heap[b]? := fun b hb h => hG1.frm.block b hb fun ⟨i, hi, e⟩ => h i (by omega) e
  have hm1 : ∀ j g, j < ι.length → φ1 j = some g → (∃ j', j' < ι.length ∧ φ (rof ι j') = some g) ∨ w.heap.size ≤ g := fun j g hj hg => by
    rcases hG1.mine j g (by simp only; omega) hg with ⟨i, hi, e⟩ | h
    · exact .inl ⟨i, by omega, e⟩
    · exact .inr h
  have hwl : w.heap.size ≤ w'.heap.size := hG1.frm.size
  have hGlt : ∀ i g, i < σ.length → φ i = some g → g < w.heap.size := fun i g hi hg => hG.lt hi hg
  -- a block that an object has now was one's before, or is new
  have hold : ∀ i g, i < σ.length → φ' i = some g → (∃ i', i' < σ.length ∧ φ i' = some g ∧ (lentB ι i = false → i' = i) ∧ (lentB ι i = true → lentB ι i' = true)) ∨ (w.heap.size ≤ g ∧ lentB ι i = true) := fun i g hi hg => by
    cases hb : lentB ι i with
    | false =>
      rw [e2 i hb] at hg
      exact .inl ⟨i, hi, hg, fun _ => rfl, fun h => by cases h⟩
    | true =>
      obtain ⟨j, hj, rfl⟩ := lentB_iff.1 hb
      rw [e1 j hj] at hg
      rcases hm1 j g hj hg with ⟨j', hj', h⟩ | h
      · exact .inl ⟨rof ι j', hlt j' hj', h, fun h => by simp at h, fun _ => lentB_iff.2 ⟨j', hj', rfl⟩⟩
      · exact .inr ⟨h, rfl⟩
  have hok2 : ∀ b, b < w.heap.size → AV.Mem.ok ⟨w, φ, σ, C.ok⟩ b → AV.Mem.ok ⟨w', φ', putObs ι σ σ1 0, C.ok⟩ b := fun b hb ho => ⟨ho.1, fun i hi e => by
    simp only at hi e
    rw [hlen'] at hi
    rcases hold i b hi e with ⟨i', h1, h2, _⟩ | ⟨h, _⟩
    · exact ho.2 i' h1 h2
    · omega⟩
  have hkept : RV.Kept w (AV.Mem.ok ⟨w, φ, σ, C.ok⟩) w' (AV.Mem.ok ⟨w', φ', putObs ι σ σ1 0, C.ok⟩) := ⟨hwl, fun b hb ho => ⟨hok2 b hb ho, hblk b hb fun j hj e => ho.2 (rof ι j) (hlt j hj) e⟩⟩
  have hnb : ∀ i g, i < σ.length → lentB ι i = false → φ i = some g → w'.heap[g]? = w.heap[g]? := fun i g hi hb hg => hblk g (hGlt i g hi hg) fun j hj e => by
    have := hG.inj i (rof ι j) g hi (hlt j hj) hg e
    rw [this, lentB_iff.2 ⟨j, hj, rfl⟩] at hb
    cases hb
  have hrid : ∀ v u, AV.rel ⟨w, φ, σ, C.ok⟩ v u → AV.rel ⟨w', φ', putObs ι σ σ1 0, C.ok⟩ (v.rid (lentB ι) (stB' ι st)) u := rel_rid (m := ⟨w, φ, σ, C.ok⟩) (m' := ⟨w', φ', putObs ι σ σ1 0, C.ok⟩) hkept hlen' (fun i hi h => by
    show φ' i = φ i
    rcases h with h | h
    · exact e2 i h
    · unfold stB' at h
      rw [List.any_eq_true] at h
      obtain ⟨j, hj, hb⟩ := h
      have hjl := Nat.le_of_ble_eq_true (List.all_eq_true.1 hL.stl j hj)
      have := Nat.eq_of_beq_eq_true hb
      subst this
      rw [e1 j (by omega), hst j hj]) hoff hnb
  have hren : ∀ v u, AV.rel ⟨w', φ1, σ1, fun b => C.ok b ∧ ∀ i, i < σ.length → lentB ι i = false → φ i ≠ some b⟩ v u → AV.rel ⟨w', φ', putObs ι σ σ1 0, C.ok⟩ (v.ren (rof ι)) u := rel_ren (n := ι.length) rfl (fun b ho => ⟨ho.1.1, fun i hi e => by
    simp only at hi e
    rw [hlen'] at hi
    cases hb : lentB ι i with
    | false => rw [e2 i hb] at e; exact ho.1.2 i hi hb e
    | true =>
      obtain ⟨j, hj, rfl⟩ := lentB_iff.1 hb
      rw [e1 j hj] at e
      exact ho.2 j (by simp only; omega) e⟩) (fun i hi => e1 i hi) (fun i hi => by simp only [hlen']; exact hlt i hi) hl1 (fun i o hi => ⟨AV.rens (rof ι) o.cs, hat i o hi, rens_len _ _⟩)
  refine ⟨φ', ⟨rfl, fun i j g hi hj h1 h2 => ?_, fun i o hi => ?_, fun i g hi hg => ?_, ⟨hG1.frm.os.trans hG.frm.os, hG1.frm.tape.trans hG.frm.tape, hG1.frm.output.trans hG.frm.output, Nat.le_trans hG.frm.size hwl, fun b hb hm => ?_, hG.frm.new⟩⟩, hrid, hren⟩
  · simp only [hlen'] at hi hj h1 h2
    cases hbi : lentB ι i with
    | true =>
      obtain ⟨a, ha, rfl⟩ := lentB_iff.1 hbi
      cases hbj : lentB ι j with
      | true =>
        obtain ⟨b, hb, rfl⟩ := lentB_iff.1 hbj
        rw [e1 a ha] at h1
        rw [e1 b hb] at h2
        rw [hG1.inj a b g (by simp only; omega) (by simp only; omega) h1 h2]
      | false =>
        rw [e2 j hbj] at h2
        rcases hold _ g hi h1 with ⟨i', k1, k2, _, k4⟩ | ⟨h, _⟩
        · have := hG.inj i' j g k1 hj k2 h2
          rw [this] at k4
          rw [k4 hbi] at hbj; cases hbj
        · have := hGlt j g hj h2; omega
    | false =>
      rw [e2 i hbi] at h1
      rcases hold _ g hj h2 with ⟨j', k1, k2, k3, k4⟩ | ⟨h, _⟩
      · have e := hG.inj i j' g hi k1 h1 k2
        cases hbj : lentB ι j with
        | true => rw [← e] at k4; rw [k4 hbj] at hbi; cases hbi
        | false => rw [e, k3 hbj]
      · have := hGlt i g hi h1; omega
  · show ObRel _ _ (φ' i)
    have hil : i < σ.length := by have := (List.getElem?_eq_some_iff.1 hi).1; simp only [hlen'] at this; exact this
    cases hb : lentB ι i with
    | true =>
      obtain ⟨j, hj, rfl⟩ := lentB_iff.1 hb
      have hj1 : j < σ1.length := by omega
      have hx := hat j _ (List.getElem?_eq_getElem hj1)
      simp only at hi
      rw [hx] at hi; injection hi with hi; subst hi
      have h := hG1.ob j _ (List.getElem?_eq_getElem hj1)
      rw [e1 j hj]
      simp only at h
      cases hφ : φ1 j with
      | none =>
        rw [hφ] at h
        simp only [ObRel, Ob.ren] at h ⊢
        rw [h]; rfl
      | some g =>
        rw [hφ] at h
        obtain ⟨us, q1, q2, q3⟩ := h
        refine ⟨us, q1, by simp only [Ob.ren, rens_len]; exact q2, fun m v hm => ?_⟩
        simp only [Ob.ren, rens_at] at hm
        obtain ⟨v0, hv0, rfl⟩ := Option.map_eq_some_iff.1 hm
        obtain ⟨u, k1, k2, k3⟩ := q3 m v0 hv0
        exact ⟨u, k1, k2, hren v0 u k3⟩
    | false =>
      simp only [hoff i hb] at hi
      have h := hG.ob i o hi
      rw [e2 i hb]
      simp only at h
      cases hφ : φ i with
      | none => rw [hφ] at h; exact h
      | some g =>
        rw [hφ] at h
        obtain ⟨us, q1, q2, q3⟩ := h
        refine ⟨us, (hnb i g hil hb hφ).trans q1, q2, fun m v hm => ?_⟩
        obtain ⟨u, k1, k2, k3⟩ := q3 m v hm
        refine ⟨u, k1, k2, ?_⟩
        have hf := hL.free.at_ i o hi
        rw [Nat.zero_add, hb] at hf
        rcases hf with hf | hf
        · cases hf
        · have := rids_at (lentB ι) (stB' ι st) o.cs m
          rw [hf, hm] at this
          injection this with this
          rw [this]
          exact hrid v u k3
  · simp only [hlen'] at hi hg
    rcases hold i g hi hg with ⟨i', k1, k2, _⟩ | ⟨h, _⟩
    · exact hG.mine i' g k1 k2
    · exact .inr (Nat.le_trans hG.frm.size h)
  · refine (hblk b (Nat.lt_of_lt_of_le hb hG.frm.size) fun j hj e => ?_).trans (hG.frm.block b hb hm)
    rcases hG.mine (rof ι j) b (hlt j hj) e with h | h
    · exact hm h
    · omega
theorem lent_good {ι st : List Nat} {σ0 σ1 : List Ob} {w : World} {φ : Nat → Option Nat} (hL : Lent ι st σ σ0 σ1) (hG : Good C ⟨w, φ, σ, C.ok⟩) {ok0 : Nat → Prop} (hok0 : ok0 = fun b => C.ok b ∧ ∀ i, i < σ.length → lentB ι i = false → φ i ≠ some b) :
    Good ⟨w, ok0, mine (fun j => φ (rof ι j)) σ0.length, 0⟩ ⟨w, fun j => φ (rof ι j), σ0, ok0⟩ ∧ ∀ v u, v.only (fun i => i < σ0.length) → AV.rel ⟨w, φ, σ, C.ok⟩ (v.ren (rof ι)) u → AV.rel ⟨w, fun j => φ (rof ι j), σ0, ok0⟩ v u := by
  subst hok0
  have hl0 : σ0.length = ι.length := Nat.eq_of_beq_eq_true hL.len
  have hlt : ∀ j, j < ι.length → rof ι j < σ.length := fun j hj => by
    have := List.all_eq_true.1 hL.lt ι[j] (List.getElem_mem hj)
    have := Nat.le_of_ble_eq_true this
    simp only [rof, List.getElem?_eq_getElem hj, Option.getD_some]
    omega
  have hat : ∀ (j : Nat) o, σ0[j]? = some o → σ[rof ι j]? = some (o.ren (rof ι)) := fun j o hj => by
    have := hL.at_.at_ j o hj
    rwa [Nat.zero_add] at this
  have hun : ∀ v u, v.only (fun i => i < σ0.length) → AV.rel ⟨w, φ, σ, C.ok⟩ (v.ren (rof ι)) u → AV.rel ⟨w, fun j => φ (rof ι j), σ0, fun b => C.ok b ∧ ∀ i, i < σ.length → lentB ι i = false → φ i ≠ some b⟩ v u :=
    rel_unren (m := ⟨w, φ, σ, C.ok⟩) rfl (fun b ho => ⟨⟨ho.1, fun i hi _ => ho.2 i hi⟩, fun j hj => ho.2 (rof ι j) (hlt j (by simp only at hj; omega))⟩) (fun i _ => rfl) rfl (fun i o hi ho => by
      simp only at ho
      have := hat i _ (List.getElem?_eq_getElem hi)
      rw [this] at ho; injection ho with ho; subst ho
      exact ⟨σ0[i].cs, List.getElem?_eq_getElem hi, by simp only [Ob.ren, rens_len]⟩)
  refine ⟨⟨rfl, fun i j g hi hj h1 h2 => ?_, fun j o hj => ?_, fun i g hi hg => .inl ⟨i, hi, hg⟩, ⟨rfl, rfl, rfl, Nat.le_refl _, fun _ _ _ => rfl, fun b hb => ⟨hG.frm.new b (Nat.le_trans hG.frm.size hb), fun i hi _ e => by have := hG.lt (m := ⟨w, φ, σ, C.ok⟩) hi e; simp only at this hb; omega⟩⟩⟩, hun⟩
  · simp only at hi hj
    exact rof_inj hL.inj (by omega) (by omega) (hG.inj _ _ g (hlt i (by omega)) (hlt j (by omega)) h1 h2)
  · simp only at hj
    have h := hG.ob _ _ (hat j o hj)
    show ObRel _ _ (φ (rof ι j))
    simp only at h
    cases hφ : φ (rof ι j) with
    | none =>
      rw [hφ] at h
      simp only [ObRel, Ob.ren] at h ⊢
      have := rens_len (rof ι) o.cs
      rw [h] at this
      exact List.eq_nil_of_length_eq_zero (by simpa using this.symm)
    | some g =>
      rw [hφ] at h
      obtain ⟨us, q1, q2, q3⟩ := h
      simp only [Ob.ren, rens_len] at q2
      refine ⟨us, q1, q2, fun m v hm => ?_⟩
      obtain ⟨u, k1, k2, k3⟩ := q3 m (v.ren (rof ι)) (by simp only [Ob.ren, rens_at, hm]; rfl)
      exact ⟨u, k1, k2, hun v u (onlys_mem (hL.closed.at_ j o hj) m v hm) k3⟩
theorem rels_unpin {m : Mem} : ∀ (vs : List AV) (us : List Value), AV.rels m vs us → AV.rels m (vs.map unpin) us
  | [], us, h => by simpa [AV.rels] using h
  | x :: xs, us, h => by
    simp only [List.map_cons, AV.rels] at h ⊢
    obtain ⟨u, us', e, h1, h2⟩ := h
    exact ⟨u, us', e, unpin_rel h1, rels_unpin xs us' h2⟩
theorem op_callM {f : FuncId} {fn : Func} {xs : Array Operand} {ats : Array TypeId} {σ0 σ1 : List Ob} {st : List Nat} {args : List AV} {v : AV} {d : Option Nat} [hfn : FN P f fn] (ι : List Nat) (hf : AM P f σ0 st args σ1 v)
    (ha : (xs.toList.map (ev env)).map unpin = AV.rens (rof ι) args) (hcl : AV.onlys (fun i => i < σ0.length) args) (hL : Lent ι st σ σ0 σ1) (ht : ∀ t, d = some t → t < C.n)
    (hk : RunsL P C ops rest k R ⟨putEnv d (v.ren (rof ι)) (ridEnv (lentB ι) (stB' ι st) env), putObs ι σ σ1 0⟩) :
    RunsL P C ops (⟨d, .call { callee := .value (.func f), args := xs, argTypes := ats }, ty, pos, after, none⟩ :: rest) k R ⟨env, σ⟩ := by
  refine ⟨fun a w ⟨s1, s2, φ, hG, hH⟩ => ?_⟩
  refine wpList_plain rfl fun K hK' => ?_
  have hr := rels_unpin _ _ (rels_eval (a := a) (m := ⟨w, φ, σ, C.ok⟩) xs.toList fun x hx => ev_rel hH x)
  rw [ha] at hr
  obtain ⟨hG0, hun⟩ := lent_good hL hG rfl
  have key : ∀ (vs : List AV) (us : List Value), AV.onlys (fun i => i < σ0.length) vs → AV.rels ⟨w, φ, σ, C.ok⟩ (AV.rens (rof ι) vs) us → AV.rels ⟨w, fun j => φ (rof ι j), σ0, fun b => C.ok b ∧ ∀ i, i < σ.length → lentB ι i = false → φ i ≠ some b⟩ vs us := by
    intro vs
    induction vs with
    | nil => intro us _ h; simpa [AV.rens, AV.rels] using h
    | cons x xs ih =>
      intro us ho h
      simp only [AV.rens, AV.rels, AV.onlys] at h ho ⊢
      obtain ⟨u, us', e, h1, h2⟩ := h
      exact ⟨u, us', e, hun x u ho.1 h1, ih us' ho.2 h2⟩
  unfold Oper.wp
  rw [execOp_call_go, run_call hfn]
  simp only [Oper.upon]
  refine (hf w _ _ _ hG0 (by simpa using key args _ hcl hr)).mono ?_
  rintro e w' ⟨u, φ1, rfl, hG1, hv, hst⟩
  obtain ⟨φ', g1, g2, g3⟩ := lent_step hL hG rfl hG1 hst
  cases d with
  | none => exact hK' _ _ (hk.run _ _ ⟨s1, s2, φ', g1, fun s => by rw [show look (⟨putEnv none _ _, _⟩ : St).env s = _ from look_ridEnv _ _ _ _]; exact g2 _ _ (hH s)⟩)
  | some t => exact hK' _ _ (hk.run _ _ ⟨s1, by simp [Act.put, s2], φ', g1, Holds.put (fun s => by rw [look_ridEnv]; exact g2 _ _ (hH s)) (by rw [s2]; exact ht t rfl) (g3 _ _ hv)⟩)
end
end Go.Proofs.YtofefjklipglhaaDoor
/- Functions that are handed the first objects of their caller's. Over any program. -/
namespace Go.Proofs.YtofefjklipglhaaDoor
set_option linter.unusedSimpArgs false
set_option linter.unusedVariables false
open Go.RowKit
open AV (Mem Keeps)
def ltB (n i : Nat) : Bool := Nat.ble (i + 1) n
def memB (st : List Nat) (i : Nat) : Bool := st.any fun j => Nat.beq j i
def FreeP (n : Nat) (st : List Nat) : List Ob → Prop
  | [] => True
  | o :: os => AV.rids (ltB n) (memB st) o.cs = o.cs ∧ FreeP n st os
theorem rof_range {n i : Nat} (h : i < n) : rof (List.range n) i = i := by simp [rof, h]
theorem lentB_range (n : Nat) : lentB (List.range n) = ltB n := by
  funext i
  rw [Bool.eq_iff_iff, lentB_iff]
  unfold ltB
  rw [List.length_range]
  constructor
  · rintro ⟨j, hj, e⟩
    rw [rof_range hj] at e
    subst e
    exact Nat.ble_eq_true_of_le hj
  · intro h
    have := Nat.le_of_ble_eq_true h
    exact ⟨i, this, rof_range this⟩
theorem stB_range {n : Nat} {st : List Nat} (h : (st.all fun j => Nat.ble (j + 1) n) = true) : stB' (List.range n) st = memB st := by
  funext i
  unfold stB' memB
  rw [Bool.eq_iff_iff, List.any_eq_true, List.any_eq_true]
  constructor
  · rintro ⟨j, hj, e⟩
    have := Nat.le_of_ble_eq_true (List.all_eq_true.1 h j hj)
    rw [rof_range this] at e
    exact ⟨j, hj, e⟩
  · rintro ⟨j, hj, e⟩
    have := Nat.le_of_ble_eq_true (List.all_eq_true.1 h j hj)
    exact ⟨j, hj, by rw [rof_range this]; exact e⟩
mutual
theorem ren_id {r : Nat → Nat} {n : Nat} (hr : ∀ i, i < n → r i = i) : ∀ v : AV, v.only (fun i => i < n) → v.ren r = v
  | .ro _, _ | .junk, _ => rfl
  | .obj i off, h => by simp only [AV.only] at h; simp only [AV.ren, hr i h]
  | .pin i off g, h => by simp only [AV.only] at h; simp only [AV.ren, hr i h]
  | .own i, h => by simp only [AV.only] at h; simp only [AV.ren, hr i h]
  | .agg cs, h => by simp only [AV.only] at h; simp only [AV.ren, rens_id hr cs h]
  | .tup cs, h => by simp only [AV.only] at h; simp only [AV.ren, rens_id hr cs h]
  | .fn f a b, h => by simp only [AV.only] at h; simp only [AV.ren, rens_id hr a h.1, rens_id hr b h.2]
theorem rens_id {r : Nat → Nat} {n : Nat} (hr : ∀ i, i < n → r i = i) : ∀ vs : List AV, AV.onlys (fun i => i < n) vs → AV.rens r vs = vs
  | [], _ => rfl
  | x :: xs, h => by simp only [AV.onlys] at h; simp only [AV.rens, ren_id hr x h.1, rens_id hr xs h.2]
end
theorem obren_id {r : Nat → Nat} {n : Nat} (hr : ∀ i, i < n → r i = i) {o : Ob} (h : AV.onlys (fun i => i < n) o.cs) : o.ren r = o := by
  simp only [Ob.ren, rens_id hr o.cs h]
theorem lentAt_of {ι : List Nat} {σ : List Ob} : ∀ (os : List Ob) (j : Nat), (∀ (k : Nat) o, os[k]? = some o → σ[rof ι (j + k)]? = some (o.ren (rof ι))) → LentAt ι σ os j
  | [], j, _ => trivial
  | o :: os, j, h => ⟨by simpa using h 0 o rfl, lentAt_of os (j + 1) fun k o' hk => by
      have := h (k + 1) o' (by simpa using hk)
      rwa [show j + (k + 1) = j + 1 + k by omega] at this⟩
theorem freeR_of {ι st : List Nat} : ∀ (os : List Ob) (i : Nat), (∀ (k : Nat) o, os[k]? = some o → lentB ι (i + k) = true ∨ AV.rids (lentB ι) (stB' ι st) o.cs = o.cs) → FreeR ι st i os
  | [], i, _ => trivial
  | o :: os, i, h => ⟨by simpa using h 0 o rfl, freeR_of os (i + 1) fun k o' hk => by
      have := h (k + 1) o' (by simpa using hk)
      rwa [show i + (k + 1) = i + 1 + k by omega] at this⟩
theorem FreeP.at_ {n : Nat} {st : List Nat} : ∀ {os : List Ob}, FreeP n st os → ∀ (k : Nat) o, os[k]? = some o → AV.rids (ltB n) (memB st) o.cs = o.cs
  | [], _, k, o, h => by simp at h
  | x :: os, hl, k, o, h => by
    simp only [FreeP] at hl
    cases k with
    | zero => simp at h; subst h; exact hl.1
    | succ k => simp at h; exact FreeP.at_ hl.2 k o h
section
variable {P : Program} {C : Ctx} {ops : Array Oper} {rest : List Oper} {k : List Item} {R : Act → World → Prop} {env : Env} {σ : List Ob} {t : Nat} {ty : TypeId} {pos : String} {after : Array Edge}
theorem lent_range {n : Nat} {σ0 σ1 more : List Ob} {st : List Nat} (hn0 : Nat.beq σ0.length n = true) (hn1 : Nat.beq σ1.length n = true) (h0 : FreeO n σ0) (h1 : FreeO n σ1) (hst : (st.all fun j => Nat.ble (j + 1) n) = true) (hfree : FreeP n st more) :
    Lent (List.range n) st (σ0 ++ more) σ0 σ1 ∧ putObs (List.range n) (σ0 ++ more) σ1 0 = σ1 ++ more := by
  have e0 : σ0.length = n := Nat.eq_of_beq_eq_true hn0
  have e1 : σ1.length = n := Nat.eq_of_beq_eq_true hn1
  have hr : ∀ i, i < n → rof (List.range n) i = i := fun i hi => rof_range hi
  refine ⟨⟨by rw [List.length_range]; exact hn0, by rw [List.length_range]; exact hn1, ?_, List.nodup_range, lentAt_of _ _ fun j o hj => ?_, by rw [e0]; exact h0, by rw [List.length_range]; exact hst, freeR_of _ _ fun j o hj => ?_⟩, ?_⟩
  · rw [List.all_eq_true]
    intro i hi
    rw [List.mem_range] at hi
    exact Nat.ble_eq_true_of_le (by rw [List.length_append]; omega)
  · have hjl := (List.getElem?_eq_some_iff.1 hj).1
    rw [Nat.zero_add, hr j (by omega), List.getElem?_append_left hjl, hj, obren_id hr (h0.at_ j o hj)]
  · rw [Nat.zero_add, lentB_range, stB_range hst]
    rcases Nat.lt_or_ge j n with h | h
    · exact .inl (Nat.ble_eq_true_of_le h)
    · rw [List.getElem?_append_right (by omega)] at hj
      exact .inr (hfree.at_ _ o hj)
  · refine List.ext_getElem? fun i => ?_
    rcases Nat.lt_or_ge i n with h | h
    · have hx : σ1[i]? = some _ := List.getElem?_eq_getElem (show i < σ1.length by omega)
      have := putObs_at (List.range n) σ1 (σ0 ++ more) 0 (fun a b ha hb e => by
        rw [Nat.zero_add, Nat.zero_add, hr a (by omega), hr b (by omega)] at e; exact e) i _ hx (by rw [Nat.zero_add, hr i h, List.length_append]; omega)
      rw [Nat.zero_add, hr i h, obren_id hr (h1.at_ i _ hx)] at this
      rw [this, List.getElem?_append_left (by omega), hx]
    · rw [putObs_off (List.range n) i σ1 (σ0 ++ more) 0 fun k hk e => by rw [Nat.zero_add, hr k (by omega)] at e; omega]
      rw [List.getElem?_append_right (by omega), List.getElem?_append_right (by omega), e0, e1]
theorem op_callP {f : FuncId} {fn : Func} {xs : Array Operand} {ats : Array TypeId} {σ0 σ1 more : List Ob} {st : List Nat} {args : List AV} {v : AV} {d : Option Nat} [hfn : FN P f fn] (n : Nat) (hf : AM P f σ0 st args σ1 v)
    (ha : (xs.toList.map (ev env)).map unpin = args) (hcl : AV.onlys (fun i => i < n) args) (hv : v.only fun i => i < n) (hσ : σ = σ0 ++ more) (hn0 : Nat.beq σ0.length n = true) (hn1 : Nat.beq σ1.length n = true) (h0 : FreeO n σ0) (h1 : FreeO n σ1) (hst : (st.all fun j => Nat.ble (j + 1) n) = true) (hfree : FreeP n st more) (ht : ∀ t, d = some t → t < C.n)
    (hk : RunsL P C ops rest k R ⟨putEnv d v (ridEnv (ltB n) (memB st) env), σ1 ++ more⟩) :
    RunsL P C ops (⟨d, .call { callee := .value (.func f), args := xs, argTypes := ats }, ty, pos, after, none⟩ :: rest) k R ⟨env, σ⟩ := by
  subst hσ
  obtain ⟨hL, hp⟩ := lent_range hn0 hn1 h0 h1 hst hfree
  have hr : ∀ i, i < n → rof (List.range n) i = i := fun i hi => rof_range hi
  have e0 : σ0.length = n := Nat.eq_of_beq_eq_true hn0
  refine op_callM (List.range n) hf (by rw [ha, rens_id hr args hcl]) (by rw [e0]; exact hcl) hL ht ?_
  rw [hp, lentB_range, stB_range hst, ren_id hr v hv]
  exact hk
theorem op_callMF {f : FuncId} {fn : Func} {x : Operand} {xs : Array Operand} {ats : Array TypeId} {σ0 σ1 : List Ob} {st : List Nat} {args : List AV} {v : AV} {d : Option Nat} [hfn : FN P f fn] (ι : List Nat) (hx : ev env x = .fn (.func f) [] []) (hf : AM P f σ0 st args σ1 v)
    (ha : (xs.toList.map (ev env)).map unpin = AV.rens (rof ι) args) (hcl : AV.onlys (fun i => i < σ0.length) args) (hL : Lent ι st σ σ0 σ1) (ht : ∀ t, d = some t → t < C.n)
    (hk : RunsL P C ops rest k R ⟨putEnv d (v.ren (rof ι)) (ridEnv (lentB ι) (stB' ι st) env), putObs ι σ σ1 0⟩) :
    RunsL P C ops (⟨d, .call { callee := .value x, args := xs, argTypes := ats }, ty, pos, after, none⟩ :: rest) k R ⟨env, σ⟩ := by
  refine ⟨fun a w ⟨s1, s2, φ, hG, hH⟩ => ?_⟩
  refine wpList_plain rfl fun K hK' => ?_
  have h0 := ev_rel hH x
  rw [hx] at h0
  simp only [AV.rel, AV.rels] at h0
  obtain ⟨us, vs, e, hu, hv0⟩ := h0
  have hu' : us = #[] := by cases us; simp_all
  have hv' : vs = #[] := by cases vs; simp_all
  subst hu'; subst hv'
  have hr := rels_unpin _ _ (rels_eval (a := a) (m := ⟨w, φ, σ, C.ok⟩) xs.toList fun x hx => ev_rel hH x)
  rw [ha] at hr
  obtain ⟨hG0, hun⟩ := lent_good hL hG rfl
  have key : ∀ (vs : List AV) (us : List Value), AV.onlys (fun i => i < σ0.length) vs → AV.rels ⟨w, φ, σ, C.ok⟩ (AV.rens (rof ι) vs) us → AV.rels ⟨w, fun j => φ (rof ι j), σ0, fun b => C.ok b ∧ ∀ i, i < σ.length → lentB ι i = false → φ i ≠ some b⟩ vs us := by
    intro vs
    induction vs with
    | nil => intro us _ h; simpa [AV.rens, AV.rels] using h
    | cons x xs ih =>
      intro us ho h
      simp only [AV.rens, AV.rels, AV.onlys] at h ho ⊢
      obtain ⟨u, us', e, h1, h2⟩ := h
      exact ⟨u, us', e, hun x u ho.1 h1, ih us' ho.2 h2⟩
  unfold Oper.wp execOp
  simp only [resolve, e, Deferred.ofValue, Sem.run_bind, Sem.run_pure, Result.andThen_ok, invoke]
  rw [run_call hfn]
  simp only [Oper.upon]
  refine (hf w _ _ _ hG0 (by simpa using key args _ hcl hr)).mono ?_
  rintro e w' ⟨u, φ1, rfl, hG1, hv, hst⟩
  obtain ⟨φ', g1, g2, g3⟩ := lent_step hL hG rfl hG1 hst
  cases d with
  | none => exact hK' _ _ (hk.run _ _ ⟨s1, s2, φ', g1, fun s => by rw [show look (⟨putEnv none _ _, _⟩ : St).env s = _ from look_ridEnv _ _ _ _]; exact g2 _ _ (hH s)⟩)
  | some t => exact hK' _ _ (hk.run _ _ ⟨s1, by simp [Act.put, s2], φ', g1, Holds.put (fun s => by rw [look_ridEnv]; exact g2 _ _ (hH s)) (by rw [s2]; exact ht t rfl) (g3 _ _ hv)⟩)
theorem pu_nilCheckP {gd : Option (Nat × Bool)} {x : Operand} {i off g : Nat} (hx : ev env x = .pin i off g) : Pur P C ⟨some t, .nilCheck x, ty, pos, after, gd⟩ env σ (.pin i off g) :=
  Pur.of (fun a m hG hσ hH => by
    have h := hH x (by simp [Op.operands, Call.operands])
    rw [hx] at h
    have h' := h
    simp only [AV.rel] at h
    obtain ⟨_, _, e⟩ := h
    exact ⟨a.eval x, by simp [execOp, e], h'⟩)
theorem pu_nilCheckO {gd : Option (Nat × Bool)} {x : Operand} {i off : Nat} (hx : ev env x = .obj i off) : Pur P C ⟨some t, .nilCheck x, ty, pos, after, gd⟩ env σ (.obj i off) :=
  Pur.of (fun a m hG hσ hH => by
    have h := hH x (by simp [Op.operands, Call.operands])
    rw [hx] at h
    have h' := h
    simp only [AV.rel] at h
    obtain ⟨_, g, _, e⟩ := h
    exact ⟨a.eval x, by simp [execOp, e], h'⟩)
theorem Lends.pin {i off g : Nat} {o : Ob} {rs : List RV} (ho : σ[i]? = some o) (h : LendsL C σ (o.cs.drop off) rs) : Lends C σ (.pin i off g) (.rp rs) := fun m u ok' hG hσ k1 k2 hu => by
  refine Lends.obj ho h m u ok' hG hσ k1 k2 ?_
  exact unpin_rel (v := .pin i off g) hu
theorem sim_nilCell (i p : Nat) {o : Ob} {e : TypeId} {sz : Nat} (hs : 0 < sz) (ho : σ[i]? = some o) (h : o.cs[p]? = some .nil) {a : Act} {w : World} (hsim : Sim C ⟨env, σ⟩ a w) : Sim C ⟨env, σ.set i ⟨o.t, o.sz, o.cs.set p (.own σ.length)⟩ ++ [⟨e, sz, []⟩]⟩ a w := by
  obtain ⟨h1, h2, φ, hG, hH⟩ := hsim
  have hil := (List.getElem?_eq_some_iff.1 ho).1
  obtain ⟨g1, g2⟩ := good_grow (φ' := upd φ σ.length none) (new := [⟨e, sz, []⟩]) hG (Below.refl _ _) (fun i hi => upd_ne (show i ≠ σ.length from Nat.ne_of_lt hi)) (fun j hj g hg => by
      simp at hj; subst hj; simp [upd_eq] at hg) (fun i j g hi hj _ _ => by simp at hi hj; omega) (fun j o hj => by
      cases j with
      | zero => simp at hj; subst hj; simp [upd_eq, ObRel]
      | succ j => simp at hj)
  -- the cell is that row
  have hlen : (σ.set i ⟨o.t, o.sz, o.cs.set p (.own σ.length)⟩ ++ [(⟨e, sz, []⟩ : Ob)]).length = (σ ++ [(⟨e, sz, []⟩ : Ob)]).length := by simp
  have hat : ∀ j, j ≠ i → (σ.set i ⟨o.t, o.sz, o.cs.set p (.own σ.length)⟩ ++ [(⟨e, sz, []⟩ : Ob)])[j]? = (σ ++ [(⟨e, sz, []⟩ : Ob)])[j]? := fun j hj => by
    rcases Nat.lt_or_ge j σ.length with h | h
    · rw [List.getElem?_append_left (by simpa using h), List.getElem?_append_left h, List.getElem?_set_ne (Ne.symm hj)]
    · rw [List.getElem?_append_right (by simpa using h), List.getElem?_append_right h]; simp
  have hati : (σ.set i ⟨o.t, o.sz, o.cs.set p (.own σ.length)⟩ ++ [(⟨e, sz, []⟩ : Ob)])[i]? = some ⟨o.t, o.sz, o.cs.set p (.own σ.length)⟩ := by
    rw [List.getElem?_append_left (by simpa using hil), List.getElem?_set_self hil]
  have hati0 : (σ ++ [(⟨e, sz, []⟩ : Ob)])[i]? = some o := by rw [List.getElem?_append_left hil]; exact ho
  have hK : Keeps (fun _ => True) ⟨w, upd φ σ.length none, σ ++ [⟨e, sz, []⟩], C.ok⟩ ⟨w, upd φ σ.length none, σ.set i ⟨o.t, o.sz, o.cs.set p (.own σ.length)⟩ ++ [⟨e, sz, []⟩], C.ok⟩ := by
    refine ⟨⟨Nat.le_refl _, fun b _ hb => ⟨⟨hb.1, fun j hj => hb.2 j (by rw [← hlen]; exact hj)⟩, rfl⟩⟩, fun j _ hj => ⟨by rw [← hlen] at hj; exact hj, rfl⟩, fun j ob _ hj => ?_, fun j g us t _ _ _ hh => ⟨us, hh, rfl⟩⟩
    by_cases e : j = i
    · subst e
      simp only at hj
      rw [hati0] at hj; injection hj with hj; subst hj
      exact ⟨_, hati, by simp⟩
    · exact ⟨ob.cs, by simp only; rw [hat j e]; exact hj, rfl⟩
  refine ⟨h1, h2, upd φ σ.length none, ⟨rfl, fun a b g ha hb => g1.inj a b g (by rw [← hlen]; exact ha) (by rw [← hlen]; exact hb), fun j ob hj => ?_, fun j g hj => g1.mine j g (by rw [← hlen]; exact hj), g1.frm⟩, (hH.keeps g2).keeps hK⟩
  by_cases e' : j = i
  · subst e'
    simp only at hj
    rw [hati] at hj; injection hj with hj; subst hj
    have h0 := g1.ob j o hati0
    show ObRel _ _ (upd φ σ.length none j)
    simp only at h0
    cases hφ : upd φ σ.length none j with
    | none =>
      rw [hφ] at h0
      simp only [ObRel] at h0
      rw [h0] at h; simp at h
    | some g =>
      rw [hφ] at h0
      obtain ⟨us, q1, q2, q3⟩ := h0
      refine ⟨us, q1, by simpa using q2, fun m v hm => ?_⟩
      simp only [List.getElem?_set] at hm
      split at hm
      · rename_i hpm
        subst hpm
        split at hm
        · injection hm with hm; subst hm
          obtain ⟨u, k1, k2, k3⟩ := q3 p _ h
          simp only [AV.rel, RV.rel] at k3
          subst k3
          refine ⟨_, k1, rfl, ?_⟩
          simp only [AV.rel]
          exact ⟨⟨e, sz, []⟩, 0, by rw [List.getElem?_append_right (by simp)]; simp, by simp, hs, .inl ⟨by first | rfl | trivial, by first | rfl | trivial, upd_eq⟩⟩
        · cases hm
      · obtain ⟨u, k1, k2, k3⟩ := q3 m v hm
        exact ⟨u, k1, k2, AV.rel_keeps hK _ _ (AV.only_true _) k3⟩
  · simp only at hj
    rw [hat j e'] at hj
    exact (g1.ob j ob hj).keeps hK fun _ _ => rfl
theorem RunsL.nilCell {l : List Oper} (i p : Nat) {o : Ob} {e : TypeId} {sz : Nat} (hs : 0 < sz) (ho : σ[i]? = some o) (h : o.cs[p]? = some .nil) (hk : RunsL P C ops l k R ⟨env, σ.set i ⟨o.t, o.sz, o.cs.set p (.own σ.length)⟩ ++ [⟨e, sz, []⟩]⟩) : RunsL P C ops l k R ⟨env, σ⟩ :=
  ⟨fun a w hsim => hk.run a w (sim_nilCell i p hs ho h hsim)⟩
theorem Runs.nilCell (i p : Nat) {o : Ob} {e : TypeId} {sz : Nat} (hs : 0 < sz) (ho : σ[i]? = some o) (h : o.cs[p]? = some .nil) (hk : Runs P C k R ⟨env, σ.set i ⟨o.t, o.sz, o.cs.set p (.own σ.length)⟩ ++ [⟨e, sz, []⟩]⟩) : Runs P C k R ⟨env, σ⟩ :=
  ⟨fun a w hsim => hk.run a w (sim_nilCell i p hs ho h hsim)⟩
theorem pu_callSL {gd : Option (Nat × Bool)} {f : FuncId} {fn : Func} {xs : Array Operand} {ats : Array TypeId} {args : List RV} {e : TypeId} {sz : Nat} {vs : List Value} {els : List (List RV)} [hfn : FN P f fn] (hf : AC P f args fun rr => rr = .row e sz (vs.map .c)) (hels : els.flatten = vs.map .c) (hl : ∀ x ∈ els, x.length = sz) (ha : LendsL C σ (xs.toList.map (ev env)) args) :
    Pur P C ⟨some t, .call { callee := .value (.func f), args := xs, argTypes := ats }, ty, pos, after, gd⟩ env σ (.ro (.seq sz els)) := by
  refine ⟨fun a m hG hσ hH K Q hK => ?_⟩
  have hr := LendsL.rels (ok' := fun _ => True) hG hσ (fun _ _ => trivial) (fun _ _ _ _ => trivial) ha _ (rels_eval (a := a) (m := m) xs.toList fun x hx => hH x (by simp [Op.operands, Call.operands]; exact .inr (by simpa using hx)))
  unfold Oper.wp
  rw [execOp_call_go, run_call hfn]
  simp only [Oper.upon]
  refine (hf m.w (fun _ => True) _ (fun _ _ => trivial) (by simpa using hr)).mono ?_
  rintro e' w' ⟨u, rr, bs, rfl, rfl, h1, _, h3, h4⟩
  refine hK u w' h4 ?_
  simp only [RR.rel] at h1
  obtain ⟨n, xs', k1, k2, k3, k4, k5, rfl⟩ := h1
  have e2 := agg_flat (m := ⟨w', fun _ => none, [], fun b => True ∧ b ∉ u.ownBlock.toList⟩) vs xs' (RV.rels_mono ⟨Nat.le_refl _, fun b _ hb => ⟨⟨hb, fun i hi => by simp at hi⟩, rfl⟩⟩ _ _ k3)
  subst e2
  simp only [AV.rel]
  refine seals_rel (ok := m.ok) (ok' := m.ok) (fun b hb => hb) (.row e sz (xs'.map .c)) (.seq sz els) u u.ownBlock.toList (by simp only [Seals]; exact ⟨els, rfl, hels, hl⟩) (by simp only [RR.rel]; exact ⟨n, xs', k1, k2, rels_const xs', k4, k5, trivial⟩) fun b hb => ok_args hG b (h3 b hb).1
theorem pu_fieldV {gd : Option (Nat × Bool)} {s : TypeId} {x : Operand} {f off : Nat} {rs : List RV} {r : RV} {fields : Array Field} {fl : Field} (hu : P.underlying s = some (.struct fields)) (hf : fields[f]? = some fl) (ho : fl.offset = off) [h1 : T1 P fl.type] (hx : ev env x = .ro (.agg rs)) (hr : rs[off]? = some r) :
    Pur P C ⟨some t, .field s x f, ty, pos, after, gd⟩ env σ (.ro r) :=
  Pur.of (fun a m hG hσ hH => by
    have h := hH x (by simp [Op.operands, Call.operands])
    rw [hx] at h
    simp only [AV.rel, RV.rel] at h
    obtain ⟨us, e, hr'⟩ := h
    obtain ⟨u, k1, k2⟩ := RV.rels_at rs _ hr' off r hr
    have k1' : us[off]? = some u := by simpa using k1
    refine ⟨u, ?_, by simpa only [AV.rel] using k2⟩
    simp [execOp, e, Instr.field, run_underlying hu, hf, ho, asAgg, part, run_isAgg1 (P := P) (t := fl.type), k1'])
end
end Go.Proofs.YtofefjklipglhaaDoor
/- Wrapping at 64 bits. -/
namespace Go.Proofs.YtofefjklipglhaaDoor
set_option linter.unusedSimpArgs false
set_option linter.unusedVariables false
open Go.RowKit
abbrev w64 (x : Int) : Int := IntKind.i64.wrap x
theorem w64_add (x y : Int) : w64 (w64 x + y) = w64 (x + y) := by simp only [w64, IntKind.wrap, IntKind.bits, IntKind.signed]; simp; omega
theorem w64_id {x : Int} (h : -9223372036854775808 ≤ x ∧ x ≤ 9223372036854775807) : w64 x = x := by simp only [w64, IntKind.wrap, IntKind.bits, IntKind.signed]; simp; omega
end Go.Proofs.YtofefjklipglhaaDoor
/- Functions that return a pointer at a new object. Over any program. -/
namespace Go.Proofs.YtofefjklipglhaaDoor
set_option linter.unusedSimpArgs false
set_option linter.unusedVariables false
open Go.RowKit
open AV (Mem Keeps)
section
variable {P : Program} {C : Ctx} {ops : Array Oper} {rest : List Oper} {k : List Item} {R : Act → World → Prop} {env : Env} {σ : List Ob} {t : Nat} {ty : TypeId} {pos : String} {after : Array Edge}
end
end Go.Proofs.YtofefjklipglhaaDoor
/- Functions that draw: they are handed a cursor, move it on, and return what they drew. Over any program. -/
namespace Go.Proofs.YtofefjklipglhaaDoor
set_option linter.unusedSimpArgs false
set_option linter.unusedVariables false
open Go.RowKit
open AV (Mem Keeps)
def curOb (ct : TypeId) (u : Value) (i h : Int) : Ob := ⟨ct, 0, [.ro (.c u), .int i, .int h]⟩
def CurAt (ct : TypeId) (w : World) (g : Nat) (u : Value) (i h : Int) : Prop :=
  ∃ us : Array Value, w.heap[g]? = some (.cells us ct (0, 0)) ∧ us[0]? = some u ∧ us[1]? = some (.int .i64 i) ∧ us[2]? = some (.int .i64 h)
def CurOk (b : List UInt8) (i : Int) : Prop := 0 ≤ i ∧ i ≤ b.length
structure Bx (g : Nat) (w w' : World) : Prop where
  os : w'.os = w.os
  tape : w'.tape = w.tape
  output : w'.output = w.output
  size : w.heap.size ≤ w'.heap.size
  block : ∀ b, b < w.heap.size → b ≠ g → w'.heap[b]? = w.heap[b]?
def Drw (P : Program) (ct : TypeId) (f : FuncId) (b : List UInt8) (args : List RV) (Q : RR → Prop) : Prop :=
  ∀ (w : World) (ok : Nat → Prop) (g : Nat) (u : Value) (i h : Int) (us : List Value), (∀ x, w.heap.size ≤ x → ok x) → CurAt ct w g u i h →
    RV.rel w (fun x => ok x ∧ x ≠ g) (bytesR b) u → CurOk b i → RV.rels w (fun x => ok x ∧ x ≠ g) args us →
    Calls P f (.pointer (some ⟨g, 0, none⟩) :: us).toArray w fun e w' => ∃ v rr bs i' h', e = .returned v ∧ Q rr ∧ RR.rel w' (fun x => (ok x ∧ x ≠ g) ∧ x ∉ bs) rr v bs ∧ bs.Nodup ∧
      (∀ x ∈ bs, w.heap.size ≤ x ∧ x < w'.heap.size) ∧ CurOk b i' ∧ CurAt ct w' g u i' h' ∧ Bx g w w'
theorem Drw.mono {P : Program} {ct : TypeId} {f : FuncId} {b : List UInt8} {args : List RV} {Q Q' : RR → Prop} (h : Drw P ct f b args Q) (hq : ∀ rr, Q rr → Q' rr) : Drw P ct f b args Q' :=
  fun w ok g u i hh us h0 h1 h2 h3 h4 => (h w ok g u i hh us h0 h1 h2 h3 h4).mono fun _ _ ⟨v, rr, bs, i', h', e, q, r⟩ => ⟨v, rr, bs, i', h', e, hq rr q, r⟩
def HU (C : Ctx) (b : List UInt8) (u : Value) : Prop := RV.rel C.w0 (fun x => C.ok x ∧ ¬ C.mu x) (bytesR b) u
theorem HU.now {C : Ctx} {b : List UInt8} {u : Value} (h : HU C b u) {m : Mem} (hG : Good C m) : RV.rel m.w (fun x => C.ok x ∧ ∀ j, j < m.σ.length → m.φ j ≠ some x) (bytesR b) u :=
  RV.rel_mono ⟨hG.frm.size, fun x hx ho => ⟨⟨ho.1, fun j hj e => by
    rcases hG.mine j x hj e with k | k
    · exact ho.2 k
    · omega⟩, hG.frm.block x hx ho.2⟩⟩ _ _ h
theorem HU.ok {C : Ctx} {b : List UInt8} {u : Value} (h : HU C b u) {m : Mem} (hG : Good C m) : RV.rel m.w m.ok (bytesR b) u :=
  RV.rel_mono ⟨Nat.le_refl _, fun x _ ho => ⟨⟨by rw [hG.ok0]; exact ho.1, ho.2⟩, rfl⟩⟩ _ _ (h.now hG)
theorem HU.shape {C : Ctx} {b : List UInt8} {u : Value} (h : HU C b u) : ∃ A n c, u = .slice A n c := by
  simp only [HU, bytesR, RV.rel] at h
  obtain ⟨A, n, c, e, _⟩ := h
  exact ⟨A, n, c, e⟩
section
variable {P : Program} {C : Ctx} {env : Env} {σ : List Ob} {o : Oper} {b : List UInt8} {u : Value}
theorem Pur.know (hu : HU C b u) (h : Pur P C o env σ (.ro (.c u))) : Pur P C o env σ (.ro (bytesR b)) :=
  ⟨fun a m hG hσ hH K Q hK => h.run a m hG hσ hH K Q fun x w' hb hv => hK x w' hb (by
    simp only [AV.rel, RV.rel] at hv ⊢
    subst hv
    have hG' : Good C { m with w := w' } := by
      have e : m = ⟨m.w, m.φ, m.σ, C.ok⟩ := by rw [← hG.ok0]
      have := (good_below (C := C) (w := m.w) (φ := m.φ) (σ := m.σ) (by rw [← e]; exact hG) hb).1
      rw [hG.ok0]; exact this
    exact hu.ok hG')⟩
end
mutual
def cln : AV → Bool
  | .own i => !(Nat.beq i 0)
  | .agg cs => clns cs
  | .tup vs => clns vs
  | .fn _ x y => clns x && clns y
  | _ => true
def clns : List AV → Bool
  | [] => true
  | x :: xs => cln x && clns xs
end
def clnE : Env → Bool
  | [] => true
  | (_, v) :: e => cln v && clnE e
def clnO : List Ob → Bool
  | [] => true
  | o :: os => clns o.cs && clnO os
theorem clnE.look {env : Env} (h : clnE env = true) (t : Nat) : cln (look env t) = true := by
  induction env with
  | nil => rfl
  | cons p e ih =>
    obtain ⟨s, v⟩ := p
    simp only [clnE, Bool.and_eq_true] at h
    rw [look_put]
    split
    · exact h.1
    · exact ih h.2
theorem clns_at : ∀ {cs : List AV}, clns cs = true → ∀ (j : Nat) v, cs[j]? = some v → cln v = true
  | [], _, j, v, hj => by simp at hj
  | x :: xs, h, j, v, hj => by
    simp only [clns, Bool.and_eq_true] at h
    cases j with
    | zero => simp at hj; subst hj; exact h.1
    | succ j => exact clns_at h.2 j v (by simpa using hj)
theorem clnO_at : ∀ {os : List Ob}, clnO os = true → ∀ (i : Nat) o, os[i]? = some o → clns o.cs = true
  | [], _, i, o, hi => by simp at hi
  | x :: os, h, i, o, hi => by
    simp only [clnO, Bool.and_eq_true] at h
    cases i with
    | zero => simp at hi; subst hi; exact h.1
    | succ i => exact clnO_at h.2 i o (by simpa using hi)
theorem clnO_cons {o : Ob} {os : List Ob} (h1 : clns o.cs = true) (h2 : clnO os = true) : clnO (o :: os) = true := by simp only [clnO, h1, h2, Bool.and_self]
theorem clns_ro : ∀ rs : List RV, clns (rs.map .ro) = true
  | [] => rfl
  | r :: rs => by simp only [List.map_cons, clns, cln, clns_ro rs, Bool.and_self]
section
variable {m m' : Mem}
mutual
theorem rel_cln (hro : RV.Kept m.w m.ok m'.w m'.ok) (hlen : m.σ.length ≤ m'.σ.length) (hφ : ∀ i, i < m.σ.length → m'.φ i = m.φ i) (hσ : ∀ i, i ≠ 0 → i < m.σ.length → m'.σ[i]? = m.σ[i]?) (hb : ∀ i g, i ≠ 0 → i < m.σ.length → m.φ i = some g → m'.w.heap[g]? = m.w.heap[g]?) :
    ∀ (v : AV) (u : Value), cln v = true → AV.rel m v u → AV.rel m' v u
  | .ro v, u, _, h => by
    simp only [AV.rel] at h ⊢
    exact RV.rel_mono hro v u h
  | .junk, u, _, _ => by simp [AV.rel]
  | .obj i off, u, _, h => by
    simp only [AV.rel] at h ⊢
    obtain ⟨h1, g, h2, h3⟩ := h
    exact ⟨by omega, g, (hφ i h1).trans h2, h3⟩
  | .pin i off g, u, _, h => by
    simp only [AV.rel] at h ⊢
    obtain ⟨h1, h2, h3⟩ := h
    exact ⟨by omega, (hφ i h1).trans h2, h3⟩
  | .own i, u, hc, h => by
    have hi0 : i ≠ 0 := by
      intro e; subst e; simp [cln] at hc
    simp only [AV.rel] at h ⊢
    obtain ⟨ob, k, h1, h2, h3, h4⟩ := h
    have hi := (List.getElem?_eq_some_iff.1 h1).1
    refine ⟨ob, k, (hσ i hi0 hi).trans h1, h2, h3, ?_⟩
    rcases h4 with ⟨q1, q2, q3⟩ | ⟨g, cap, us, q1, q2, q3, q4⟩
    · exact .inl ⟨q1, q2, (hφ i hi).trans q3⟩
    · exact .inr ⟨g, cap, us, (hφ i hi).trans q1, q2, (hb i g hi0 hi q1).trans q3, q4⟩
  | .agg cs, u, hc, h => by
    simp only [AV.rel] at h ⊢
    obtain ⟨us, e, h1⟩ := h
    exact ⟨us, e, rels_cln hro hlen hφ hσ hb cs _ (by simpa only [cln] using hc) h1⟩
  | .tup cs, u, hc, h => by
    simp only [AV.rel] at h ⊢
    obtain ⟨us, e, h1⟩ := h
    exact ⟨us, e, rels_cln hro hlen hφ hσ hb cs _ (by simpa only [cln] using hc) h1⟩
  | .fn f a b, u, hc, h => by
    simp only [AV.rel] at h ⊢
    simp only [cln, Bool.and_eq_true] at hc
    obtain ⟨us, vs, e, h1, h2⟩ := h
    exact ⟨us, vs, e, rels_cln hro hlen hφ hσ hb a _ hc.1 h1, rels_cln hro hlen hφ hσ hb b _ hc.2 h2⟩
theorem rels_cln (hro : RV.Kept m.w m.ok m'.w m'.ok) (hlen : m.σ.length ≤ m'.σ.length) (hφ : ∀ i, i < m.σ.length → m'.φ i = m.φ i) (hσ : ∀ i, i ≠ 0 → i < m.σ.length → m'.σ[i]? = m.σ[i]?) (hb : ∀ i g, i ≠ 0 → i < m.σ.length → m.φ i = some g → m'.w.heap[g]? = m.w.heap[g]?) :
    ∀ (vs : List AV) (us : List Value), clns vs = true → AV.rels m vs us → AV.rels m' vs us
  | [], us, _, h => by simpa [AV.rels] using h
  | x :: xs, us, hc, h => by
    simp only [AV.rels] at h ⊢
    simp only [clns, Bool.and_eq_true] at hc
    obtain ⟨u, us', e, h1, h2⟩ := h
    exact ⟨u, us', e, rel_cln hro hlen hφ hσ hb x u hc.1 h1, rels_cln hro hlen hφ hσ hb xs us' hc.2 h2⟩
end
end
theorem draw_good {C : Ctx} {ct : TypeId} {u : Value} {i h i' h' : Int} {more new : List Ob} {w w' : World} {φ φ' : Nat → Option Nat} {g : Nat} (hG : Good C ⟨w, φ, curOb ct u i h :: more, C.ok⟩) (hg : φ 0 = some g) (hu : u.oneCell' = true) (hat : CurAt ct w' g u i' h') (hb : Bx g w w') (hcl : clnO more = true)
    (hφ : ∀ j, j < more.length + 1 → φ' j = φ j) (hn : ∀ j, j < new.length → ∀ x, φ' (more.length + 1 + j) = some x → w.heap.size ≤ x) (hinj : ∀ a c x, a < new.length → c < new.length → φ' (more.length + 1 + a) = some x → φ' (more.length + 1 + c) = some x → a = c)
    (hob : ∀ (j : Nat) o, new[j]? = some o → ObRel ⟨w', φ', (curOb ct u i' h' :: more) ++ new, C.ok⟩ o (φ' (more.length + 1 + j))) :
    Good C ⟨w', φ', (curOb ct u i' h' :: more) ++ new, C.ok⟩ ∧ ∀ v x, cln v = true → AV.rel ⟨w, φ, curOb ct u i h :: more, C.ok⟩ v x → AV.rel ⟨w', φ', (curOb ct u i' h' :: more) ++ new, C.ok⟩ v x := by
  have hlt : ∀ j x, j < more.length + 1 → φ j = some x → x < w.heap.size := fun j x hj hx => hG.lt (m := ⟨w, φ, curOb ct u i h :: more, C.ok⟩) (by simpa using hj) hx
  have hne : ∀ j x, j ≠ 0 → j < more.length + 1 → φ j = some x → x ≠ g := fun j x h0 hj hx e => h0 (hG.inj j 0 g (by simpa using hj) (by simp) (e ▸ hx) hg)
  have hro : RV.Kept w (AV.Mem.ok ⟨w, φ, curOb ct u i h :: more, C.ok⟩) w' (AV.Mem.ok ⟨w', φ', (curOb ct u i' h' :: more) ++ new, C.ok⟩) := ⟨hb.size, fun x hx ho => ⟨⟨ho.1, fun j hj e => by
    simp only [List.length_append, List.length_cons] at hj
    rcases Nat.lt_or_ge j (more.length + 1) with k | k
    · exact ho.2 j (by simpa using k) ((hφ j k).symm.trans e)
    · have := hn (j - (more.length + 1)) (by omega) x (by rwa [show more.length + 1 + (j - (more.length + 1)) = j by omega])
      omega⟩, hb.block x hx fun e => ho.2 0 (by simp) (e ▸ hg)⟩⟩
  have key : ∀ v x, cln v = true → AV.rel ⟨w, φ, curOb ct u i h :: more, C.ok⟩ v x → AV.rel ⟨w', φ', (curOb ct u i' h' :: more) ++ new, C.ok⟩ v x :=
    rel_cln (m := ⟨w, φ, curOb ct u i h :: more, C.ok⟩) (m' := ⟨w', φ', (curOb ct u i' h' :: more) ++ new, C.ok⟩) hro (by simp) (fun j hj => hφ j (by simpa using hj)) (fun j h0 hj => by
      cases j with
      | zero => exact absurd rfl h0
      | succ j => simp only [List.cons_append, List.getElem?_cons_succ]; exact List.getElem?_append_left (by simpa using hj)) (fun j x h0 hj hx => hb.block x (hlt j x (by simpa using hj) hx) (hne j x h0 (by simpa using hj) hx))
  refine ⟨⟨rfl, fun a c x ha hc e1 e2 => ?_, fun j o hj => ?_, fun j x hj hx => ?_, ⟨hb.os.trans hG.frm.os, hb.tape.trans hG.frm.tape, hb.output.trans hG.frm.output, Nat.le_trans hG.frm.size hb.size, fun x hx hm => ?_, hG.frm.new⟩⟩, key⟩
  · simp only [List.length_append, List.length_cons] at ha hc
    rcases Nat.lt_or_ge a (more.length + 1) with k1 | k1 <;> rcases Nat.lt_or_ge c (more.length + 1) with k2 | k2
    · exact hG.inj a c x (by simpa using k1) (by simpa using k2) ((hφ a k1).symm.trans e1) ((hφ c k2).symm.trans e2)
    · have a1 := hlt a x k1 ((hφ a k1).symm.trans e1)
      have a2 := hn (c - (more.length + 1)) (by omega) x (by rwa [show more.length + 1 + (c - (more.length + 1)) = c by omega])
      omega
    · have a1 := hlt c x k2 ((hφ c k2).symm.trans e2)
      have a2 := hn (a - (more.length + 1)) (by omega) x (by rwa [show more.length + 1 + (a - (more.length + 1)) = a by omega])
      omega
    · have := hinj (a - (more.length + 1)) (c - (more.length + 1)) x (by omega) (by omega) (by rwa [show more.length + 1 + (a - (more.length + 1)) = a by omega]) (by rwa [show more.length + 1 + (c - (more.length + 1)) = c by omega])
      omega
  · rcases Nat.lt_or_ge j (more.length + 1) with k | k
    · cases j with
      | zero =>
        simp only [List.cons_append, List.getElem?_cons_zero, Option.some.injEq] at hj
        subst hj
        show ObRel _ _ (φ' 0)
        rw [hφ 0 k, hg]
        obtain ⟨us, q0, q1, q2, q3⟩ := hat
        refine ⟨us, q0, ?_, fun p v hp => ?_⟩
        · have := (Array.getElem?_eq_some_iff.1 q3).1
          simp [curOb]; omega
        · simp only [curOb] at hp
          match p, hp with
          | 0, hp => simp at hp; subst hp; exact ⟨u, q1, hu, by simp [AV.rel, RV.rel]⟩
          | 1, hp => simp at hp; subst hp; exact ⟨_, q2, rfl, by simp [AV.rel, RV.rel]⟩
          | 2, hp => simp at hp; subst hp; exact ⟨_, q3, rfl, by simp [AV.rel, RV.rel]⟩
          | p + 3, hp => simp at hp
      | succ j =>
        have hj' : more[j]? = some o := by
          simp only [List.cons_append, List.getElem?_cons_succ] at hj
          rwa [List.getElem?_append_left (by omega)] at hj
        have h0 := hG.ob (j + 1) o (by simpa using hj')
        show ObRel _ _ (φ' (j + 1))
        rw [hφ (j + 1) k]
        simp only at h0
        cases hx : φ (j + 1) with
        | none => rw [hx] at h0; exact h0
        | some x =>
          rw [hx] at h0
          obtain ⟨us, q1, q2, q3⟩ := h0
          refine ⟨us, (hb.block x (hlt _ x k hx) (hne _ x (by omega) k hx)).trans q1, q2, fun p v hp => ?_⟩
          obtain ⟨y, e1, e2, e3⟩ := q3 p v hp
          exact ⟨y, e1, e2, key v y (clns_at (clnO_at hcl j o hj') p v hp) e3⟩
    · have hj' : new[j - (more.length + 1)]? = some o := by
        rw [List.getElem?_append_right (by simpa using k)] at hj
        simpa using hj
      have := hob _ o hj'
      rwa [show more.length + 1 + (j - (more.length + 1)) = j by omega] at this
  · simp only [List.length_append, List.length_cons] at hj
    rcases Nat.lt_or_ge j (more.length + 1) with k | k
    · exact hG.mine j x (by simpa using k) ((hφ j k).symm.trans hx)
    · have := hn (j - (more.length + 1)) (by omega) x (by rwa [show more.length + 1 + (j - (more.length + 1)) = j by omega])
      exact .inr (Nat.le_trans hG.frm.size this)
  · have hgm := hG.mine 0 g (by simp) hg
    refine (hb.block x (Nat.lt_of_lt_of_le hx hG.frm.size) fun e => ?_).trans (hG.frm.block x hx hm)
    subst e
    rcases hgm with k | k
    · exact hm k
    · omega
mutual
def flatR : RR → Bool
  | .ro r => flat r
  | .row _ _ cs => cs.all flat
  | .agg rs => flatRs rs
  | .tup rs => flatRs rs
def flatRs : List RR → Bool
  | [] => true
  | x :: xs => flatR x && flatRs xs
end
section
variable {w : World} {ok ok' : Nat → Prop}
theorem flat_rels : ∀ (rs : List RV) (us : List Value), rs.all flat = true → RV.rels w ok rs us → RV.rels w ok' rs us
  | [], us, _, h => by simpa [RV.rels] using h
  | r :: rs, us, hf, h => by
    rw [List.all_cons, Bool.and_eq_true] at hf
    simp only [RV.rels] at h ⊢
    obtain ⟨u, us', e, h1, h2⟩ := h
    refine ⟨u, us', e, ?_, flat_rels rs us' hf.2 h2⟩
    cases r <;> simp [flat] at hf
    simpa only [RV.rel] using h1
mutual
theorem flatR_rel : ∀ (rr : RR) (u : Value) (bs : List Nat), flatR rr = true → rr.rel w ok u bs → rr.rel w ok' u bs
  | .ro r, u, bs, hf, h => by
    simp only [RR.rel] at h ⊢
    refine ⟨?_, h.2⟩
    cases r <;> simp [flatR, flat] at hf
    simpa only [RV.rel] using h.1
  | .row e sz cs, u, bs, hf, h => by
    simp only [RR.rel] at h ⊢
    obtain ⟨n, xs, h1, h2, h3, h4⟩ := h
    exact ⟨n, xs, h1, h2, flat_rels _ _ (by simpa only [flatR] using hf) h3, h4⟩
  | .agg rs, u, bs, hf, h => by
    simp only [RR.rel] at h ⊢
    obtain ⟨us, e, h⟩ := h
    exact ⟨us, e, flatRs_rel rs _ _ (by simpa only [flatR] using hf) h⟩
  | .tup rs, u, bs, hf, h => by
    simp only [RR.rel] at h ⊢
    obtain ⟨us, e, h⟩ := h
    exact ⟨us, e, flatRs_rel rs _ _ (by simpa only [flatR] using hf) h⟩
theorem flatRs_rel : ∀ (rs : List RR) (us : List Value) (bs : List Nat), flatRs rs = true → RR.rels w ok rs us bs → RR.rels w ok' rs us bs
  | [], us, bs, _, h => by simpa [RR.rels] using h
  | x :: xs, us, bs, hf, h => by
    simp only [flatRs, Bool.and_eq_true] at hf
    simp only [RR.rels] at h ⊢
    obtain ⟨u, us', b, bs', e1, e2, h1, h2⟩ := h
    exact ⟨u, us', b, bs', e1, e2, flatR_rel x u b hf.1 h1, flatRs_rel xs us' bs' hf.2 h2⟩
end
end
def LendsP (C : Ctx) (σ : List Ob) (v : AV) (r : RV) : Prop := ∀ (m : Mem) (u : Value) (ok' : Nat → Prop), Good C m → m.σ = σ → (∀ b, m.ok b → ok' b) → (∀ (i g : Nat), 0 < i → i < σ.length → m.φ i = some g → ok' g) → AV.rel m v u → RV.rel m.w ok' r u
inductive LendsPL (C : Ctx) (σ : List Ob) : List AV → List RV → Prop
  | nil : LendsPL C σ [] []
  | cons {v : AV} {r : RV} {vs : List AV} {rs : List RV} : LendsP C σ v r → LendsPL C σ vs rs → LendsPL C σ (v :: vs) (r :: rs)
section
variable {C : Ctx} {σ : List Ob}
theorem LendsP.ro {r : RV} : LendsP C σ (.ro r) r := fun m u _ _ _ h1 _ hu => RV.rel_mono ⟨Nat.le_refl _, fun b _ hb => ⟨h1 b hb, rfl⟩⟩ r u (by simpa only [AV.rel] using hu)
theorem LendsP.nil (sz : Nat) : LendsP C σ (.ro .nil) (.seq sz []) := fun m u ok' _ _ h1 _ hu => RV.rel_mono ⟨Nat.le_refl _, fun b _ hb => ⟨h1 b hb, rfl⟩⟩ _ u (Fits.nil sz m u hu)
theorem LendsPL.rels {m : Mem} {ok' : Nat → Prop} (hG : Good C m) (hσ : m.σ = σ) (k1 : ∀ b, m.ok b → ok' b) (k2 : ∀ (i g : Nat), 0 < i → i < σ.length → m.φ i = some g → ok' g) {vs : List AV} {rs : List RV} (h : LendsPL C σ vs rs) : ∀ us, AV.rels m vs us → RV.rels m.w ok' rs us := by
  induction h with
  | nil => intro us hu; simpa [AV.rels, RV.rels] using hu
  | cons h1 _ ih =>
    intro us hu
    simp only [AV.rels] at hu
    obtain ⟨u, us', rfl, k3, k4⟩ := hu
    simp only [RV.rels]
    exact ⟨u, us', rfl, h1 m u ok' hG hσ k1 k2 k3, ih us' k4⟩
theorem LendsP.agg {vs : List AV} {rs : List RV} (h : LendsPL C σ vs rs) : LendsP C σ (.agg vs) (.agg rs) := fun m u ok' hG hσ k1 k2 hu => by
  simp only [AV.rel, RV.rel] at hu ⊢
  obtain ⟨us, e, hr⟩ := hu
  exact ⟨us, e, h.rels hG hσ k1 k2 _ hr⟩
theorem LendsPL.ros : ∀ rs : List RV, LendsPL C σ (rs.map .ro) rs
  | [] => .nil
  | _ :: rs => .cons .ro (LendsPL.ros rs)
theorem LendsP.own {i : Nat} {o : Ob} {els : List (List RV)} (hi : 0 < i) (ho : σ[i]? = some o) (h : o.cs = els.flatten.map .ro) (hl : ∀ x ∈ els, x.length = o.sz) : LendsP C σ (.own i) (.seq o.sz els) := fun m u ok' hG hσ k1 k2 hu => by
  have hrow := row_own (cs := els.flatten) (e := o.t) (sz := o.sz) hG (by rw [hσ, ho]; cases o; simp_all) hu
  obtain ⟨n, xs, h1, h2, h3, h4, h5, h6⟩ := hrow
  refine seals_rel (ok := m.ok) k1 (.row o.t o.sz els.flatten) (.seq o.sz els) u u.ownBlock.toList (by simp only [Seals]; exact ⟨els, rfl, rfl, hl⟩) (by simp only [RR.rel]; exact ⟨n, xs, h1, h2, h3, h4, h5, trivial⟩) fun b hb => ?_
  rw [h6] at hb
  exact k2 i b hi (List.getElem?_eq_some_iff.1 ho).1 (by simpa [Option.mem_toList] using hb)
end
def EndsD (P : Program) (C : Ctx) (fn : Func) (ct : TypeId) (b : List UInt8) (g : Nat) (u : Value) (Q : RR → Prop) (a : Act) (w : World) : Prop :=
  a.defers = [] ∧ ∃ v, (results fn a.tmps).run P w = .ok v w ∧ ∃ rr bs i' h', Q rr ∧ RR.rel w (fun x => (C.ok x ∧ x ≠ g) ∧ x ∉ bs) rr v bs ∧ bs.Nodup ∧ (∀ x ∈ bs, C.w0.heap.size ≤ x ∧ x < w.heap.size) ∧ CurOk b i' ∧ CurAt ct w g u i' h' ∧ Bx g C.w0 w
theorem drw_enter {P : Program} {ct : TypeId} {f : FuncId} {fn : Func} {c : Code} {b : List UInt8} {args : List RV} {Q : RR → Prop} (hf : P.funcs[f]? = some fn) (hb : fn.body = some c) (n : Nat) (hn : fn.ntmps = n) (hl : args.length + 1 ≤ n)
    (h : ∀ (C : Ctx) (g : Nat) (u : Value) (i hh : Int), C.n = n → (∀ x, C.mu x → x = g) → HU C b u → CurOk b i → Runs P C [.code c] (EndsD P C fn ct b g u Q) ⟨(0, .pin 0 0 g) :: startEnv 1 args, [curOb ct u i hh]⟩) : Drw P ct f b args Q := by
  intro w ok g u i hh us h0 hat hu hi hus
  have hlen := RV.rels_len args _ hus
  have hu1 : u.oneCell' = true := RV.rel_one (bytesR b) u rfl hu
  obtain ⟨cs, a0, a1, a2, a3⟩ := hat
  have hgl : g < w.heap.size := (Array.getElem?_eq_some_iff.1 a0).1
  refine calls_of_fin hf hb ?_
  have hs : Sim ⟨w, ok, fun x => x = g, n⟩ ⟨(0, .pin 0 0 g) :: startEnv 1 args, [curOb ct u i hh]⟩ { tmps := (.pointer (some ⟨g, 0, none⟩) :: us).toArray ++ Array.replicate (fn.ntmps - (.pointer (some ⟨g, 0, none⟩) :: us).toArray.size) undef, defers := [] } w := by
    refine ⟨rfl, by simp; omega, fun j => if j = 0 then some g else none, ⟨rfl, fun p q x hp hq _ _ => by simp at hp hq; omega, fun p o hp => ?_, fun p x hp hx => ?_, ⟨rfl, rfl, rfl, Nat.le_refl _, fun _ _ _ => rfl, h0⟩⟩, fun t => ?_⟩
    · cases p with
      | succ p => simp at hp
      | zero =>
        simp at hp; subst hp
        simp only [if_true]
        refine ⟨cs, a0, ?_, fun p v hp => ?_⟩
        · have := (Array.getElem?_eq_some_iff.1 a3).1
          simp [curOb]; omega
        · simp only [curOb] at hp
          match p, hp with
          | 0, hp => simp at hp; subst hp; exact ⟨u, a1, hu1, by simp [AV.rel, RV.rel]⟩
          | 1, hp => simp at hp; subst hp; exact ⟨_, a2, rfl, by simp [AV.rel, RV.rel]⟩
          | 2, hp => simp at hp; subst hp; exact ⟨_, a3, rfl, by simp [AV.rel, RV.rel]⟩
          | p + 3, hp => simp at hp
    · simp at hp; subst hp; simp at hx; exact .inl hx.symm
    · rw [look_put]
      split
      · rename_i e; subst e
        simp only [AV.rel]
        refine ⟨by simp, rfl, ?_⟩
        rw [Array.getD_eq_getD_getElem?, Array.getElem?_append_left (by simp)]
        simp
      · rename_i e
        rw [start_look]
        by_cases h1 : 1 ≤ t
        · rw [if_pos h1]
          cases hr : args[t - 1]? with
          | none => simp [AV.rel]
          | some r =>
            obtain ⟨x, e1, e2⟩ := RV.rels_at args _ hus (t - 1) r hr
            have ht : t - 1 < us.length := (List.getElem?_eq_some_iff.1 e1).1
            simp only [AV.rel]
            have : ((.pointer (some ⟨g, 0, none⟩) :: us).toArray ++ Array.replicate (fn.ntmps - (.pointer (some ⟨g, 0, none⟩) :: us).toArray.size) undef).getD t undef = x := by
              rw [Array.getD_eq_getD_getElem?, Array.getElem?_append_left (by simp; omega)]
              obtain ⟨t', rfl⟩ : ∃ t', t = t' + 1 := ⟨t - 1, by omega⟩
              simp at e1 ⊢
              simp [e1]
            rw [this]
            refine RV.rel_mono ⟨Nat.le_refl _, fun x _ hx => ⟨⟨hx.1, fun j hj he => ?_⟩, rfl⟩⟩ r x e2
            simp at hj; subst hj
            simp at he; exact hx.2 he.symm
        · omega
  have hr := (h ⟨w, ok, fun x => x = g, n⟩ g u i hh rfl (fun _ h => h) (RV.rel_mono ⟨Nat.le_refl _, fun x _ hx => ⟨hx, rfl⟩⟩ _ _ hu) hi).run _ w hs
  intro bb cc
  obtain ⟨a', w', todo, ⟨hd, v, hv, rr, bs, i', h', q1, q2, q3, q4, q5, q6, q7⟩, hst⟩ := hr bb cc
  exact ⟨a', w', todo, ⟨hd, v, hv, v, rr, bs, i', h', rfl, q1, q2, q3, q4, q5, q6, q7⟩, hst⟩
theorem Frm.bx {C : Ctx} {w : World} {g : Nat} (h : Frm C w) (hm : ∀ x, C.mu x → x = g) : Bx g C.w0 w := ⟨h.os, h.tape, h.output, h.size, fun x hx hn => h.block x hx fun k => hn (hm x k)⟩
section
variable {P : Program} {C : Ctx} {fn : Func} {ct : TypeId} {b : List UInt8} {g : Nat} {u : Value} {Q : RR → Prop} {S : St} {i h : Int} {more : List Ob}
theorem cur_at {m : Mem} (hG : Good C m) (hσ : m.σ = curOb ct u i h :: more) (hg : m.φ 0 = some g) : CurAt ct m.w g u i h := by
  have h0 := hG.ob 0 (curOb ct u i h) (by rw [hσ]; rfl)
  rw [hg] at h0
  obtain ⟨us, q1, q2, q3⟩ := h0
  obtain ⟨x0, e0, _, r0⟩ := q3 0 (.ro (.c u)) rfl
  obtain ⟨x1, e1, _, r1⟩ := q3 1 (.int i) rfl
  obtain ⟨x2, e2, _, r2⟩ := q3 2 (.int h) rfl
  simp only [AV.rel, RV.rel] at r0 r1 r2
  subst r0; subst r1; subst r2
  exact ⟨us, q1, e0, e1, e2⟩
theorem endsD_of (hm : ∀ x, C.mu x → x = g) {a : Act} {w : World} {φ : Nat → Option Nat} (hd : a.defers = []) (hG : Good C ⟨w, φ, S.σ, C.ok⟩) (hσ : S.σ = curOb ct u i h :: more) (hg : φ 0 = some g) (hi : CurOk b i) {v : AV} {x : Value} (hx : (results fn a.tmps).run P w = .ok x w) (hv : AV.rel ⟨w, φ, S.σ, C.ok⟩ v x)
    (rr : RR) (is : List Nat) (hh : Harv S.σ rr v is) (hn : is.Nodup) (h0 : 0 ∉ is) (hQ : Q rr) : EndsD P C fn ct b g u Q a w := by
  have hne : ∀ y ∈ blocks φ is, y ≠ g := fun y hy e => by
    obtain ⟨j, hj, e'⟩ := mem_blocks.1 hy
    have hjl := harv_lt _ _ _ _ hh j hj
    have := hG.inj j 0 g hjl (by simp only [hσ, List.length_cons]; omega) (e ▸ e') hg
    exact h0 (this ▸ hj)
  refine ⟨hd, x, hx, rr, blocks φ is, i, h, hQ, ?_, blocks_nodup hG is hn (harv_lt _ _ _ _ hh), fun y hy => ?_, hi, cur_at hG hσ hg, hG.frm.bx hm⟩
  · have := harv_rel hG rr _ _ is hh hv
    refine RR.rel_mono (fun y hy => ⟨⟨hy.1, fun e => hy.2 0 (by simp only [hσ, List.length_cons]; omega) (e ▸ hg)⟩, fun hmm => ?_⟩) _ _ _ this
    obtain ⟨j, hj, e⟩ := mem_blocks.1 hmm
    exact hy.2 j (harv_lt _ _ _ _ hh j hj) e
  · obtain ⟨j, hj, e⟩ := mem_blocks.1 hy
    have hjl := harv_lt _ _ _ _ hh j hj
    refine ⟨?_, hG.lt hjl e⟩
    rcases hG.mine j y hjl e with k | k
    · exact absurd (hm y k) (hne y hy)
    · exact k
theorem pin_at {t : Nat} {φ : Nat → Option Nat} {w : World} {a : Act} (hH : Holds ⟨w, φ, S.σ, C.ok⟩ S.env a) (ht : look S.env t = .pin 0 0 g) : φ 0 = some g := by
  have := hH t
  rw [ht] at this
  simp only [AV.rel] at this
  exact this.2.1
theorem endsD1 {x : ResultVar} (hm : ∀ x, C.mu x → x = g) (hr : fn.results = #[x]) (hσ : S.σ = curOb ct u i h :: more) (ht : look S.env 0 = .pin 0 0 g) (hi : CurOk b i) (v : AV) (hx : ResV P S x v) (rr : RR) (is : List Nat) (hh : Harv S.σ rr v is) (hn : is.Nodup) (h0 : 0 ∉ is) (hQ : Q rr) :
    ∀ a w, Sim C S a w → EndsD P C fn ct b g u Q a w := by
  intro a w ⟨h1, h2, φ, hG, hH⟩
  obtain ⟨y, k1, k2⟩ := resV_run (P := P) hG hH x v hx
  exact endsD_of hm h1 hG hσ (pin_at hH ht) hi (by rw [results_eq, hr]; simp [k1]) k2 rr is hh hn h0 hQ
theorem endsD_ro {t : Nat} {r : RV} (hm : ∀ x, C.mu x → x = g) (hr : fn.results = #[.tmp t]) (hσ : S.σ = curOb ct u i h :: more) (ht : look S.env 0 = .pin 0 0 g) (hi : CurOk b i) (hx : look S.env t = .ro r) (hQ : Q (.ro r)) : ∀ a w, Sim C S a w → EndsD P C fn ct b g u Q a w :=
  endsD1 hm hr hσ ht hi _ rfl (.ro r) [] (by simp only [Harv]; exact ⟨hx, trivial⟩) List.nodup_nil (by simp) hQ
theorem endsD_own {t j sz : Nat} {e : TypeId} {rs : List RV} (hm : ∀ x, C.mu x → x = g) (hr : fn.results = #[.tmp t]) (hσ : S.σ = curOb ct u i h :: more) (ht : look S.env 0 = .pin 0 0 g) (hi : CurOk b i) (hx : look S.env t = .own j) (hj : 0 < j) (ho : S.σ[j]? = some ⟨e, sz, rs.map .ro⟩) (hQ : Q (.row e sz rs)) : ∀ a w, Sim C S a w → EndsD P C fn ct b g u Q a w :=
  endsD1 hm hr hσ ht hi _ rfl (.row e sz rs) [j] (by simp only [Harv]; exact ⟨j, hx, ho, rfl⟩) (by simp) (by simp; omega) hQ
end
section
variable {P : Program} {C : Ctx} {ops : Array Oper} {rest : List Oper} {k : List Item} {R : Act → World → Prop} {env : Env} {σ : List Ob} {t : Nat} {ty : TypeId} {pos : String} {after : Array Edge} {ct : TypeId} {b : List UInt8} {u : Value} {i h : Int} {more : List Ob}
structure Drawn (C : Ctx) (ct : TypeId) (b : List UInt8) (u : Value) (m : Mem) (rr : RR) (v : Value) (w' : World) (i' h' : Int) (bs : List Nat) (g : Nat) : Prop where
  g0 : m.φ 0 = some g
  res : RR.rel w' (fun x => (C.ok x ∧ ∀ j, j < m.σ.length → m.φ j ≠ some x) ∧ x ∉ bs) rr v bs
  nodup : bs.Nodup
  fresh : ∀ x ∈ bs, m.w.heap.size ≤ x ∧ x < w'.heap.size
  ok : CurOk b i'
  at_ : CurAt ct w' g u i' h'
  bx : Bx g m.w w'
theorem cur_block {m : Mem} (hG : Good C m) (hσ : m.σ = curOb ct u i h :: more) : ∃ g, m.φ 0 = some g := by
  have h0 := hG.ob 0 (curOb ct u i h) (by rw [hσ]; rfl)
  cases hg : m.φ 0 with
  | none => rw [hg] at h0; simp [ObRel, curOb] at h0
  | some g => exact ⟨g, rfl⟩
theorem draw_wpF {f : FuncId} {fn : Func} {x0 : Operand} {xs : List Operand} {ats : Array TypeId} {args : List RV} {Q : RR → Prop} {d : Option Nat} {gd : Option (Nat × Bool)} [hfn : FN P f fn] (hf : Drw P ct f b args Q) (hq : ∀ rr, Q rr → flatR rr = true) (hc : unpin (ev env x0) = .obj 0 0) (hu : HU C b u) (hi : CurOk b i)
    {m : Mem} {a : Act} (hG : Good C m) (hσ : m.σ = curOb ct u i h :: more) (ha : LendsPL C m.σ (xs.map (ev env)) args) (hH : ∀ x ∈ x0 :: xs, AV.rel m (ev env x) (a.eval x)) {K : Act → World → Prop} {Q' : Exit → Act → World → Prop}
    (hK : ∀ rr v w' i' h' bs g, Q rr → Drawn C ct b u m rr v w' i' h' bs g → K (a.put d v) w') : (⟨d, .call { callee := .value (.func f), args := (x0 :: xs).toArray, argTypes := ats }, ty, pos, after, gd⟩ : Oper).wp P a m.w K Q' := by
  obtain ⟨g, hg⟩ := cur_block hG hσ
  have hp := unpin_rel (hH x0 (by simp))
  rw [hc] at hp
  simp only [AV.rel] at hp
  obtain ⟨_, g', hg', ep⟩ := hp
  rw [hg] at hg'; injection hg' with hg'; subst hg'
  have hne : ∀ j z, 0 < j → j < m.σ.length → m.φ j = some z → z ≠ g := fun j z h0 hj hz e => by
    have := hG.inj j 0 g hj (by simp only [hσ, List.length_cons]; omega) (e ▸ hz) hg
    omega
  have hokm : ∀ j z, 0 < j → j < m.σ.length → m.φ j = some z → (m.w.heap.size ≤ z ∨ C.ok z ∨ C.mu z) := fun j z _ hj hz => by
    rcases hG.mine j z hj hz with q | q
    · exact .inr (.inr q)
    · exact .inr (.inl (hG.frm.new z q))
  have hr := ha.rels (ok' := fun z => (C.ok z ∨ ∃ j, 0 < j ∧ j < m.σ.length ∧ m.φ j = some z) ∧ z ≠ g) hG rfl (fun z hz => ⟨.inl (by rw [← hG.ok0]; exact hz.1), fun e => hz.2 0 (by simp only [hσ, List.length_cons]; omega) (e ▸ hg)⟩) (fun j z h0 hj hz => ⟨.inr ⟨j, h0, hj, hz⟩, hne j z h0 hj hz⟩) _ (rels_eval (a := a) (m := m) xs fun x hx => hH x (by simp [hx]))
  unfold Oper.wp
  rw [execOp_call_go, run_call hfn]
  simp only [Oper.upon]
  have e0 : ((x0 :: xs).toArray.map a.eval) = (.pointer (some ⟨g, 0, none⟩) :: xs.map a.eval).toArray := by simp [ep]
  rw [e0]
  simp only [Array.empty_append, Array.append_empty]
  refine (hf m.w (fun z => C.ok z ∨ ∃ j, 0 < j ∧ j < m.σ.length ∧ m.φ j = some z) g u i h _ (fun z hz => .inl (hG.frm.new z (Nat.le_trans hG.frm.size hz))) (cur_at hG hσ hg) (RV.rel_mono ⟨Nat.le_refl _, fun z _ hz => ⟨⟨.inl hz.1, fun e => hz.2 0 (by simp only [hσ, List.length_cons]; omega) (e ▸ hg)⟩, rfl⟩⟩ _ _ (hu.now hG)) hi hr).mono ?_
  rintro e w' ⟨v, rr, bs, i', h', rfl, hQ, q1, q2, q3, q4, q5, q6⟩
  exact hK rr v w' i' h' bs g hQ ⟨hg, flatR_rel rr v bs (hq rr hQ) q1, q2, q3, q4, q5, q6⟩
theorem draw_wpN {f : FuncId} {fn : Func} {x0 : Operand} {xs : List Operand} {ats : Array TypeId} {args : List RV} {Q : RR → Prop} {d : Option Nat} {gd : Option (Nat × Bool)} [hfn : FN P f fn] (hf : Drw P ct f b args Q) (hc : unpin (ev env x0) = .obj 0 0) (hu : HU C b u) (hi : CurOk b i)
    {m : Mem} {a : Act} (hG : Good C m) (hσ : m.σ = curOb ct u i h :: more) (ha : FitsL (xs.map (ev env)) args) (hH : ∀ x ∈ x0 :: xs, AV.rel m (ev env x) (a.eval x)) {K : Act → World → Prop} {Q' : Exit → Act → World → Prop}
    (hK : ∀ rr v w' i' h' bs g, Q rr → Drawn C ct b u m rr v w' i' h' bs g → K (a.put d v) w') : (⟨d, .call { callee := .value (.func f), args := (x0 :: xs).toArray, argTypes := ats }, ty, pos, after, gd⟩ : Oper).wp P a m.w K Q' := by
  obtain ⟨g, hg⟩ := cur_block hG hσ
  have hp := unpin_rel (hH x0 (by simp))
  rw [hc] at hp
  simp only [AV.rel] at hp
  obtain ⟨_, g', hg', ep⟩ := hp
  rw [hg] at hg'; injection hg' with hg'; subst hg'
  have hl0 : 0 < m.σ.length := by simp only [hσ, List.length_cons]; omega
  have hr := ha.rels (m := m) _ (rels_eval (a := a) (m := m) xs fun x hx => hH x (by simp [hx]))
  unfold Oper.wp
  rw [execOp_call_go, run_call hfn]
  simp only [Oper.upon]
  have e0 : ((x0 :: xs).toArray.map a.eval) = (.pointer (some ⟨g, 0, none⟩) :: xs.map a.eval).toArray := by simp [ep]
  rw [e0]
  simp only [Array.empty_append, Array.append_empty]
  refine (hf m.w (fun z => C.ok z ∧ ∀ j, 0 < j → j < m.σ.length → m.φ j ≠ some z) g u i h _ (fun z hz => ⟨hG.frm.new z (Nat.le_trans hG.frm.size hz), fun j _ hj e => by have := hG.lt hj e; omega⟩) (cur_at hG hσ hg) (RV.rel_mono ⟨Nat.le_refl _, fun z _ hz => ⟨⟨⟨hz.1, fun j _ hj => hz.2 j hj⟩, fun e => hz.2 0 hl0 (e ▸ hg)⟩, rfl⟩⟩ _ _ (hu.now hG)) hi
    (RV.rels_mono ⟨Nat.le_refl _, fun z _ hz => ⟨⟨⟨by rw [← hG.ok0]; exact hz.1, fun j _ hj => hz.2 j hj⟩, fun e => hz.2 0 hl0 (e ▸ hg)⟩, rfl⟩⟩ _ _ hr)).mono ?_
  rintro e w' ⟨v, rr, bs, i', h', rfl, hQ, q1, q2, q3, q4, q5, q6⟩
  refine hK rr v w' i' h' bs g hQ ⟨hg, RR.rel_mono (fun z hz => ⟨⟨hz.1.1.1, fun j hj e => ?_⟩, hz.2⟩) _ _ _ q1, q2, q3, q4, q5, q6⟩
  by_cases h0 : j = 0
  · subst h0; rw [hg] at e; injection e with e; exact hz.1.2 e.symm
  · exact hz.1.1.2 j (by omega) hj e
theorem Drawn.simS {m : Mem} {rr : RR} {r : RV} {v : Value} {w' : World} {i' h' : Int} {bs : List Nat} {g : Nat} (hD : Drawn C ct b u m rr v w' i' h' bs g) (hG : Good C m) (hσ : m.σ = curOb ct u i h :: more) (hu : u.oneCell' = true) (hcl : clnO more = true) (hs : Seals rr r) :
    Good C ⟨w', m.φ, curOb ct u i' h' :: more, C.ok⟩ ∧ (∀ y x, cln y = true → AV.rel m y x → AV.rel ⟨w', m.φ, curOb ct u i' h' :: more, C.ok⟩ y x) ∧ AV.rel ⟨w', m.φ, curOb ct u i' h' :: more, C.ok⟩ (.ro r) v := by
  obtain ⟨w, φ, s, ok0⟩ := m
  have h0 := hG.ok0
  simp only at h0 hσ
  subst h0; subst hσ
  obtain ⟨g1, g2⟩ := draw_good (new := []) (φ' := φ) hG hD.g0 hu hD.at_ hD.bx hcl (fun _ _ => rfl) (fun j hj => by simp at hj) (fun a c x ha => by simp at ha) (fun j o hj => by simp at hj)
  simp only [List.append_nil] at g1 g2
  refine ⟨g1, g2, ?_⟩
  simp only [AV.rel]
  refine seals_rel (ok := fun x => (C.ok x ∧ ∀ j, j < (curOb ct u i h :: more).length → φ j ≠ some x) ∧ x ∉ bs) (fun x hx => ⟨hx.1.1, fun j hj => hx.1.2 j (by simpa using hj)⟩) rr r v bs hs hD.res fun x hx => ⟨hG.frm.new x (Nat.le_trans hG.frm.size (hD.fresh x hx).1), fun j hj e => ?_⟩
  have := hG.lt (by simpa using hj) e
  have := (hD.fresh x hx).1
  simp only at *
  omega
theorem Drawn.simO {m : Mem} {rr : RR} {v : Value} {w' : World} {i' h' : Int} {bs : List Nat} {g : Nat} (hD : Drawn C ct b u m rr v w' i' h' bs g) (hG : Good C m) (hσ : m.σ = curOb ct u i h :: more) (hu : u.oneCell' = true) (hcl : clnO more = true) :
    ∃ φ', Good C ⟨w', φ', (curOb ct u i' h' :: more) ++ obs rr, C.ok⟩ ∧ (∀ y x, cln y = true → AV.rel m y x → AV.rel ⟨w', φ', (curOb ct u i' h' :: more) ++ obs rr, C.ok⟩ y x) ∧ AV.rel ⟨w', φ', (curOb ct u i' h' :: more) ++ obs rr, C.ok⟩ (instA (more.length + 1) rr) v := by
  obtain ⟨w, φ, s, ok0⟩ := m
  have h0 := hG.ok0
  simp only at h0 hσ
  subst h0; subst hσ
  obtain ⟨ps, p1, p2, p3⟩ := inst_rel rr v bs hD.res
  subst p2
  let φ' : Nat → Option Nat := fun i => if i < more.length + 1 then φ i else (ps[i - (more.length + 1)]?).getD none
  have e1 : ∀ i, i < more.length + 1 → φ' i = φ i := fun i hi => if_pos hi
  have e2 : ∀ j, φ' (more.length + 1 + j) = (ps[j]?).getD none := fun j => by show (if more.length + 1 + j < more.length + 1 then _ else _) = _; rw [if_neg (by omega)]; simp
  have e3 : ∀ (j g : Nat), φ' (more.length + 1 + j) = some g → ps[j]? = some (some g) := fun j g hg => by
    rw [e2] at hg
    cases hp : ps[j]? with
    | none => simp [hp] at hg
    | some p => simp [hp] at hg; rw [hg]
  have hnew : ∀ (j g : Nat), φ' (more.length + 1 + j) = some g → g ∈ ps.flatMap Option.toList := fun j g hg => List.mem_flatMap.2 ⟨some g, List.mem_of_getElem? (e3 j g hg), by simp⟩
  have hLie : Lies ⟨w', φ', (curOb ct u i' h' :: more) ++ obs rr, C.ok⟩ (more.length + 1) ps (obs rr) := ⟨fun j p hj => by show φ' (more.length + 1 + j) = p; rw [e2, hj]; rfl, fun j o hj => by show ((curOb ct u i' h' :: more) ++ obs rr)[more.length + 1 + j]? = _; rw [List.getElem?_append_right (by simp), show more.length + 1 + j - (curOb ct u i' h' :: more).length = j by simp]; exact hj⟩
  have hok : ∀ x, ((C.ok x ∧ ∀ j, j < (curOb ct u i h :: more).length → φ j ≠ some x) ∧ x ∉ ps.flatMap Option.toList) → AV.Mem.ok ⟨w', φ', (curOb ct u i' h' :: more) ++ obs rr, C.ok⟩ x := fun x hx => ⟨hx.1.1, fun j hj he => by
    simp only at he
    rcases Nat.lt_or_ge j (more.length + 1) with hlt | hge
    · exact hx.1.2 j (by simpa using hlt) ((e1 j hlt).symm.trans he)
    · exact hx.2 (hnew (j - (more.length + 1)) x (by rwa [show more.length + 1 + (j - (more.length + 1)) = j by omega]))⟩
  obtain ⟨q1, q2⟩ := p3 ⟨w', φ', (curOb ct u i' h' :: more) ++ obs rr, C.ok⟩ (more.length + 1) rfl hok hLie
  obtain ⟨g1, g2⟩ := draw_good (new := obs rr) (φ' := φ') hG hD.g0 hu hD.at_ hD.bx hcl e1 (fun j hj x hx => (hD.fresh x (hnew j x hx)).1) (fun a c x ha hc ea ec => flat_nodup_inj hD.nodup a c x (e3 a x ea) (e3 c x ec)) q2
  exact ⟨φ', g1, g2, q1⟩
theorem HU.one (hu : HU C b u) : u.oneCell' = true := RV.rel_one (bytesR b) u rfl hu
theorem sim_put {S S' : St} {φ : Nat → Option Nat} {w w' : World} {a : Act} {t : Nat} {y : AV} {v : Value} {φ' : Nat → Option Nat} (s1 : a.defers = []) (s2 : a.tmps.size = C.n) (hH : Holds ⟨w, φ, S.σ, C.ok⟩ S.env a) (hG' : Good C ⟨w', φ', S'.σ, C.ok⟩) (he : S'.env = (t, y) :: S.env) (hcl : clnE S.env = true)
    (hk : ∀ y x, cln y = true → AV.rel ⟨w, φ, S.σ, C.ok⟩ y x → AV.rel ⟨w', φ', S'.σ, C.ok⟩ y x) (ht : t < C.n) (hv : AV.rel ⟨w', φ', S'.σ, C.ok⟩ y v) : Sim C S' (a.put (some t) v) w' :=
  ⟨s1, by simp [Act.put, s2], φ', hG', by rw [he]; exact Holds.put (fun s => hk _ _ (clnE.look hcl s) (hH s)) (by rw [s2]; exact ht) hv⟩
theorem op_drawF {f : FuncId} {fn : Func} {x0 : Operand} {xs : List Operand} {ats : Array TypeId} {args : List RV} {Q : RR → Prop} {Q' : RV → Prop} [hfn : FN P f fn] (hf : Drw P ct f b args Q) (hq : ∀ rr, Q rr → flatR rr = true ∧ ∃ r, Seals rr r ∧ Q' r) (hc : unpin (ev env x0) = .obj 0 0) (hu : HU C b u) (hi : CurOk b i) (hσ : σ = curOb ct u i h :: more) (ha : LendsPL C σ (xs.map (ev env)) args)
    (hce : clnE env = true) (hcl : clnO more = true) (ht : t < C.n) (hk : ∀ i' h' r, CurOk b i' → Q' r → RunsL P C ops rest k R ⟨(t, .ro r) :: env, curOb ct u i' h' :: more⟩) :
    RunsL P C ops (⟨some t, .call { callee := .value (.func f), args := (x0 :: xs).toArray, argTypes := ats }, ty, pos, after, none⟩ :: rest) k R ⟨env, σ⟩ := by
  refine ⟨fun a w ⟨s1, s2, φ, hG, hH⟩ => ?_⟩
  refine wpList_plain rfl fun K hK' => ?_
  refine draw_wpF hf (fun rr h => (hq rr h).1) hc hu hi (m := ⟨w, φ, σ, C.ok⟩) hG hσ ha (fun x _ => ev_rel hH x) fun rr v w' i' h' bs g hQ hD => ?_
  obtain ⟨_, r, hs, hr⟩ := hq rr hQ
  obtain ⟨g1, g2, g3⟩ := hD.simS hG hσ hu.one hcl hs
  exact hK' _ _ ((hk i' h' r hD.ok hr).run _ _ (sim_put (S := ⟨env, σ⟩) s1 s2 hH g1 rfl hce g2 ht g3))
theorem op_drawN {f : FuncId} {fn : Func} {x0 : Operand} {xs : List Operand} {ats : Array TypeId} {args : List RV} {Q : RR → Prop} {Q' : RV → Prop} [hfn : FN P f fn] (hf : Drw P ct f b args Q) (hq : ∀ rr, Q rr → ∃ r, Seals rr r ∧ Q' r) (hc : unpin (ev env x0) = .obj 0 0) (hu : HU C b u) (hi : CurOk b i) (hσ : σ = curOb ct u i h :: more) (ha : xs.map (ev env) = args.map .ro)
    (hce : clnE env = true) (hcl : clnO more = true) (ht : t < C.n) (hk : ∀ i' h' r, CurOk b i' → Q' r → RunsL P C ops rest k R ⟨(t, .ro r) :: env, curOb ct u i' h' :: more⟩) :
    RunsL P C ops (⟨some t, .call { callee := .value (.func f), args := (x0 :: xs).toArray, argTypes := ats }, ty, pos, after, none⟩ :: rest) k R ⟨env, σ⟩ := by
  refine ⟨fun a w ⟨s1, s2, φ, hG, hH⟩ => ?_⟩
  refine wpList_plain rfl fun K hK' => ?_
  refine draw_wpN hf hc hu hi (m := ⟨w, φ, σ, C.ok⟩) hG hσ (ha ▸ FitsL.ros args) (fun x _ => ev_rel hH x) fun rr v w' i' h' bs g hQ hD => ?_
  obtain ⟨r, hs, hr⟩ := hq rr hQ
  obtain ⟨g1, g2, g3⟩ := hD.simS hG hσ hu.one hcl hs
  exact hK' _ _ ((hk i' h' r hD.ok hr).run _ _ (sim_put (S := ⟨env, σ⟩) s1 s2 hH g1 rfl hce g2 ht g3))
theorem op_drawO {f : FuncId} {fn : Func} {x0 : Operand} {xs : List Operand} {ats : Array TypeId} {args : List RV} {Q : RR → Prop} [hfn : FN P f fn] (hf : Drw P ct f b args Q) (hc : unpin (ev env x0) = .obj 0 0) (hu : HU C b u) (hi : CurOk b i) (hσ : σ = curOb ct u i h :: more) (ha : xs.map (ev env) = args.map .ro)
    (hce : clnE env = true) (hcl : clnO more = true) (ht : t < C.n) (hk : ∀ i' h' rr, CurOk b i' → Q rr → RunsL P C ops rest k R ⟨(t, instA (more.length + 1) rr) :: env, (curOb ct u i' h' :: more) ++ obs rr⟩) :
    RunsL P C ops (⟨some t, .call { callee := .value (.func f), args := (x0 :: xs).toArray, argTypes := ats }, ty, pos, after, none⟩ :: rest) k R ⟨env, σ⟩ := by
  refine ⟨fun a w ⟨s1, s2, φ, hG, hH⟩ => ?_⟩
  refine wpList_plain rfl fun K hK' => ?_
  refine draw_wpN hf hc hu hi (m := ⟨w, φ, σ, C.ok⟩) hG hσ (ha ▸ FitsL.ros args) (fun x _ => ev_rel hH x) fun rr v w' i' h' bs g hQ hD => ?_
  obtain ⟨φ', g1, g2, g3⟩ := hD.simO hG hσ hu.one hcl
  exact hK' _ _ ((hk i' h' rr hD.ok hQ).run _ _ (sim_put (S := ⟨env, σ⟩) s1 s2 hH g1 rfl hce g2 ht g3))
end
end Go.Proofs.YtofefjklipglhaaDoor
/- Regions that draw their order, with allocations and a tail of effects: plain moves first, then pure operations and allocations in any order, then the rest as the text says. Over any program. -/
namespace Go.Proofs.YtofefjklipglhaaDoor
set_option linter.unusedSimpArgs false
set_option linter.unusedVariables false
open Go.RowKit
open AV (Mem Keeps)
section
variable {C : Ctx} {w : World} {φ : Nat → Option Nat} {σ : List Ob} {q : Nat} {e : TypeId} {cs : List AV} {us : Array Value}
mutual
theorem rel_fill (hq : σ[q]? = some ⟨e, 0, []⟩) (hφ : φ q = none) : ∀ (v : AV) (u : Value), AV.rel ⟨w, φ, σ, C.ok⟩ v u → AV.rel ⟨w.alloc (.cells us e), upd φ q (some w.heap.size), σ.set q ⟨e, 0, cs⟩, C.ok⟩ v u
  | .ro r, u, h => by
    simp only [AV.rel] at h ⊢
    refine RV.rel_mono ⟨(below_one w _).size, fun b hlt hok => ⟨⟨hok.1, fun i hi he => ?_⟩, (below_one w _).block b hlt⟩⟩ r u h
    by_cases hiq : i = q
    · subst hiq; simp only [upd_eq, Option.some.injEq] at he; omega
    · simp only [upd_ne hiq] at he; exact hok.2 i (by simpa using hi) he
  | .junk, u, _ => by simp [AV.rel]
  | .obj i off, u, h => by
    simp only [AV.rel] at h ⊢
    obtain ⟨h1, g, h2, h3⟩ := h
    have hiq : i ≠ q := by rintro rfl; rw [hφ] at h2; cases h2
    exact ⟨by simpa using h1, g, (upd_ne hiq).trans h2, h3⟩
  | .pin i off g, u, h => by
    simp only [AV.rel] at h ⊢
    obtain ⟨h1, h2, h3⟩ := h
    have hiq : i ≠ q := by rintro rfl; rw [hφ] at h2; cases h2
    exact ⟨by simpa using h1, (upd_ne hiq).trans h2, h3⟩
  | .own i, u, h => by
    simp only [AV.rel] at h ⊢
    obtain ⟨ob, n, h1, h2, h3, h4⟩ := h
    have hiq : i ≠ q := by rintro rfl; rw [hq] at h1; injection h1 with h1; subst h1; exact absurd h3 (Nat.lt_irrefl 0)
    refine ⟨ob, n, by rw [List.getElem?_set_ne (Ne.symm hiq)]; exact h1, h2, h3, ?_⟩
    rcases h4 with ⟨e1, e2, e3⟩ | ⟨g, cap, vs, hg, e1, hh, c1⟩
    · exact .inl ⟨e1, e2, (upd_ne hiq).trans e3⟩
    · exact .inr ⟨g, cap, vs, (upd_ne hiq).trans hg, e1, ((below_one w _).block g (Array.getElem?_eq_some_iff.1 hh).1).trans hh, c1⟩
  | .agg vs, u, h => by
    simp only [AV.rel] at h ⊢
    obtain ⟨us', e1, h1⟩ := h
    exact ⟨us', e1, rels_fill hq hφ vs _ h1⟩
  | .tup vs, u, h => by
    simp only [AV.rel] at h ⊢
    obtain ⟨us', e1, h1⟩ := h
    exact ⟨us', e1, rels_fill hq hφ vs _ h1⟩
  | .fn f a b, u, h => by
    simp only [AV.rel] at h ⊢
    obtain ⟨us', vs', e1, h1, h2⟩ := h
    exact ⟨us', vs', e1, rels_fill hq hφ a _ h1, rels_fill hq hφ b _ h2⟩
theorem rels_fill (hq : σ[q]? = some ⟨e, 0, []⟩) (hφ : φ q = none) : ∀ (vs : List AV) (us' : List Value), AV.rels ⟨w, φ, σ, C.ok⟩ vs us' → AV.rels ⟨w.alloc (.cells us e), upd φ q (some w.heap.size), σ.set q ⟨e, 0, cs⟩, C.ok⟩ vs us'
  | [], us', h => by simpa [AV.rels] using h
  | x :: xs, us', h => by
    simp only [AV.rels] at h ⊢
    obtain ⟨u, us'', e1, h1, h2⟩ := h
    exact ⟨u, us'', e1, rel_fill hq hφ x u h1, rels_fill hq hφ xs us'' h2⟩
end
theorem good_fill (hG : Good C ⟨w, φ, σ, C.ok⟩) (hq : σ[q]? = some ⟨e, 0, []⟩) (hφ : φ q = none) (zs : List Value) (h1 : ∀ x ∈ zs, x.oneCell' = true) :
    Good C ⟨w.alloc (.cells zs.toArray e), upd φ q (some w.heap.size), σ.set q ⟨e, 0, zs.map fun v => .ro (.c v)⟩, C.ok⟩ := by
  have hql : q < σ.length := (List.getElem?_eq_some_iff.1 hq).1
  have hb := below_one w (.cells zs.toArray e)
  refine ⟨rfl, fun i j g hi hj e1 e2 => ?_, fun i o hi => ?_, fun i g hi hg => ?_, hG.frm.below hb⟩
  · simp only [List.length_set] at hi hj
    by_cases hiq : i = q <;> by_cases hjq : j = q
    · omega
    · subst hiq; simp only [upd_eq, Option.some.injEq] at e1; simp only [upd_ne hjq] at e2
      have := hG.lt hj e2; simp only at this; omega
    · subst hjq; simp only [upd_eq, Option.some.injEq] at e2; simp only [upd_ne hiq] at e1
      have := hG.lt hi e1; simp only at this; omega
    · simp only [upd_ne hiq] at e1; simp only [upd_ne hjq] at e2
      exact hG.inj i j g hi hj e1 e2
  · by_cases hiq : i = q
    · subst hiq
      simp only [List.getElem?_set_self hql, Option.some.injEq] at hi
      subst hi
      simp only [upd_eq, ObRel]
      refine ⟨zs.toArray, heap_alloc_new w _, by simp, fun j v hj => ?_⟩
      rw [List.getElem?_map, Option.map_eq_some_iff] at hj
      obtain ⟨x, hx, rfl⟩ := hj
      exact ⟨x, by simpa using hx, h1 x (List.mem_of_getElem? hx), by simp [AV.rel, RV.rel]⟩
    · simp only [List.getElem?_set_ne (Ne.symm hiq)] at hi
      have h := hG.ob i o hi
      simp only [upd_ne hiq]
      simp only at h
      cases hg : φ i with
      | none => rw [hg] at h; exact h
      | some g =>
        rw [hg] at h
        obtain ⟨vs, q1, q2, q3⟩ := h
        refine ⟨vs, (hb.block g (Array.getElem?_eq_some_iff.1 q1).1).trans q1, q2, fun j v hj => ?_⟩
        obtain ⟨x, k1, k2, k3⟩ := q3 j v hj
        exact ⟨x, k1, k2, rel_fill hq hφ v x k3⟩
  · simp only [List.length_set] at hi
    by_cases hiq : i = q
    · subst hiq; simp only [upd_eq, Option.some.injEq] at hg; subst hg; exact .inr hG.frm.size
    · simp only [upd_ne hiq] at hg; exact hG.mine i g hi hg
end
abbrev Res := List (Nat × TypeId × List Value)
def resOb (listed : Array Bool) (r : Nat × TypeId × List Value) : Ob := ⟨r.2.1, 0, if listed.getD r.1 false = true then r.2.2.map (fun v => .ro (.c v)) else []⟩
def res (rs : Res) (listed : Array Bool) : List Ob := rs.map (resOb listed)
def full (rs : Res) : List Ob := rs.map fun r => ⟨r.2.1, 0, r.2.2.map fun v => .ro (.c v)⟩
def YF (P : Program) (C : Ctx) (ops : Array Oper) (σ : List Ob) (rs : Res) (i : Nat) (o : Oper) (v : AV) (E : EE) : Prop :=
  ((∀ r ∈ rs, r.1 ≠ i) ∧ ((gsayE ops E o.guard = some true ∧ ∀ more, PurF P C o E (σ ++ more) v) ∨ (gsayE ops E o.guard = some false ∧ v = .ro (.c undef)))) ∨
  (∃ p e zs, rs[p]? = some (i, e, zs) ∧ o.op = .alloc e ∧ o.guard = none ∧ o.dst.isSome = true ∧ TZ P e zs ∧ v = .obj (σ.length + p) 0)
section
variable {P : Program} {C : Ctx} {ops : Array Oper} {σ : List Ob} {md : Region.Mode} {rs : Res}
theorem YF.put {i : Nat} {oi oj : Oper} {v u : AV} {E : EE} (hy : YF P C ops σ rs i oi v E) (h3 : ∀ d, oj.dst = some d → d ∉ oi.looksAt ops) : YF P C ops σ rs i oi v (putE E oj.dst u) := by
  unfold YF at *
  rw [gsay_put h3]
  rcases hy with ⟨h0, ⟨hw, hv⟩ | hy⟩ | hy
  · exact .inl ⟨h0, .inl ⟨hw, fun more => (hv more).congr fun x hx => evE_put fun t ht => mem_looks_op (h3 t ht) x hx⟩⟩
  · exact .inl ⟨h0, .inr hy⟩
  · exact .inr hy
theorem YF.unput {i : Nat} {oi : Oper} {d : Option Nat} {v u : AV} {E : EE} (hy : YF P C ops σ rs i oi v (putE E d u)) (h3 : ∀ t, d = some t → t ∉ oi.looksAt ops) : YF P C ops σ rs i oi v E := by
  unfold YF at *
  rw [gsay_put h3] at hy
  rcases hy with ⟨h0, ⟨hw, hv⟩ | hy⟩ | hy
  · exact .inl ⟨h0, .inl ⟨hw, fun more => (hv more).congr fun x hx => (evE_put fun t ht => mem_looks_op (h3 t ht) x hx).symm⟩⟩
  · exact .inl ⟨h0, .inr hy⟩
  · exact .inr hy
def aOpR (P : Program) (C : Ctx) (ops : Array Oper) (σ : List Ob) (rs : Res) (i : Nat) (K : EE → Prop) (E : EE) : Prop := ∃ o v, ops[i]? = some o ∧ YF P C ops σ rs i o v E ∧ K (putE E o.dst v)
theorem aOpR_mono {i : Nat} {E : EE} {K K' : EE → Prop} (h : ∀ E, K E → K' E) (hh : aOpR P C ops σ rs i K E) : aOpR P C ops σ rs i K' E := by
  obtain ⟨o, v, h1, h2, h3⟩ := hh
  exact ⟨o, v, h1, h2, h _ h3⟩
theorem aOpR_put {i j : Nat} {oi oj : Oper} {v : AV} (hj : ops[j]? = some oj) (hap : oi.apart ops oj = true) {K : EE → Prop} {E : EE} (hy : YF P C ops σ rs i oi v E) (h : aOpR P C ops σ rs j K (putE E oi.dst v)) :
    aOpR P C ops σ rs j (fun E' => YF P C ops σ rs i oi v E' ∧ K (putE E' oi.dst v)) E := by
  obtain ⟨h1, h2, h3⟩ := Oper.apart_spec hap
  obtain ⟨o, u, k1, k2, k3⟩ := h
  rw [hj] at k1; injection k1 with k1; subst k1
  refine ⟨oj, u, hj, k2.unput h1, hy.put h3, ?_⟩
  rw [← putE_comm h2]; exact k3
def wpAnyR (P : Program) (C : Ctx) (md : Region.Mode) (ops : Array Oper) (σ : List Ob) (rs : Res) (n : Nat) (L : Array Bool → EE → Prop) : Nat → Array Bool → EE → Prop
  | 0, listed, E => L listed E
  | f + 1, listed, E => Region.ready md ops listed ≠ [] ∧ ∀ i ∈ Region.ready md ops listed, i < n ∧ aOpR P C ops σ rs i (wpAnyR P C md ops σ rs n L f (listed.setIfInBounds i true)) E
def sinkP (md : Region.Mode) (ops : Array Oper) (pre : List Nat) (n : Nat) : Bool :=
  (List.range n).all fun i => pre.contains i || (List.range (n + 1)).any fun j => decide (i < j) && Region.waitsFor md ops j i
theorem tail_waitsP {n : Nat} {pre : List Nat} {listed : Array Bool} (hs : sinkP md ops pre n = true) (hc : Region.chainB md ops n = true) (hn : n < ops.size) (inv : HeadInv md ops n listed) (hp : ∀ i ∈ pre, listed.getD i true = true) :
    ∀ (d i : Nat), n - i = d → i < n → listed.getD i true = false → ∀ t, n ≤ t → t ∉ Region.ready md ops listed := by
  intro d
  induction d using Nat.strongRecOn with
  | _ d ih =>
    intro i hd hi hun t ht hr
    obtain ⟨_, ot, hot, hall⟩ := mem_ready.1 hr
    have htlt : t < ops.size := (Array.getElem?_eq_some_iff.1 hot).1
    by_cases htn : t = n
    · subst htn
      have h1 := List.all_eq_true.1 hs i (List.mem_range.2 hi)
      rw [Bool.or_eq_true] at h1
      rcases h1 with h1 | h1
      · have := hp i (by simpa using h1)
        rw [hun] at this; cases this
      obtain ⟨j, hj, hj2⟩ := List.any_eq_true.1 h1
      simp only [Bool.and_eq_true, decide_eq_true_eq] at hj2
      obtain ⟨oj, hoj, e, he, hb, hon⟩ := Region.waitsFor_spec hj2.2
      have hjle : j ≤ t := by have := List.mem_range.1 hj; omega
      by_cases hjt : j = t
      · subst hjt
        have : oj = ot := Option.some.inj (hoj.symm.trans hot)
        subst this
        have h2 := hall e he hb
        rw [hon, getD_both hun] at h2
        cases h2
      · cases hl : listed.getD j false with
        | true =>
          have h2 := inv.closed j oj hoj hl e he hb
          rw [hon, getD_both hun] at h2
          cases h2
        | false =>
          have hjs : j < listed.size := by rw [inv.size]; omega
          exact ih (t - j) (by omega) j rfl (by omega) (getD_in hjs hl) t (Nat.le_refl _) hr
    · have h1 := List.all_eq_true.1 hc t (List.mem_range.2 htlt)
      simp only [Bool.or_eq_true, decide_eq_true_eq] at h1
      rcases h1 with h1 | h1
      · omega
      · obtain ⟨o', ho', e, he, hb, hon⟩ := Region.waitsFor_spec h1
        have : o' = ot := Option.some.inj (ho'.symm.trans hot)
        subst this
        have h2 := hall e he hb
        rw [hon, getD_both (inv.tail (t - 1) (by omega) (by omega))] at h2
        cases h2
theorem getD_set_keep {listed : Array Bool} {i j : Nat} (h : listed.getD i true = true) : (listed.setIfInBounds j true).getD i true = true := by
  by_cases e : j = i
  · subst e
    simp only [Array.getD_eq_getD_getElem?, Array.getElem?_setIfInBounds, if_true]
    split <;> rfl
  · rw [getD_set_ne true e]; exact h
theorem wpAnyR_first {n i : Nat} {pre : List Nat} {oi : Oper} {v : AV} {L : Array Bool → EE → Prop} (hi : ops[i]? = some oi)
    (hs : sinkP md ops pre n = true) (hc : Region.chainB md ops n = true) (hn : n < ops.size) (hin : i < n)
    (hdone : ∀ listed E, L listed E → ∀ j ∈ Region.ready md ops listed, n ≤ j) :
    ∀ (f : Nat) (listed : Array Bool) (E : EE), HeadInv md ops n listed → (∀ i ∈ pre, listed.getD i true = true) →
      (∀ j oj, ops[j]? = some oj → j ≠ i → listed.getD j true = false → (∀ e ∈ oj.after, Region.binds md e = true → e.on ≠ i) → oi.apart ops oj = true) →
      i ∈ Region.ready md ops listed → YF P C ops σ rs i oi v E →
      wpAnyR P C md ops σ rs n L f (listed.setIfInBounds i true) (putE E oi.dst v) → wpAnyR P C md ops σ rs n L (f + 1) listed E := by
  intro f
  induction f with
  | zero =>
    intro listed E inv hp _ hr hy H
    have hun := (mem_ready.1 hr).1
    refine ⟨fun h => (by rw [h] at hr; cases hr), fun j hj => ?_⟩
    have hjn : j < n := by
      rcases Nat.lt_or_ge j n with h | h
      · exact h
      · exact absurd hj (tail_waitsP hs hc hn inv hp _ i rfl hin hun j h)
    refine ⟨hjn, ?_⟩
    by_cases hji : j = i
    · subst hji; exact ⟨oi, v, hi, hy, H⟩
    · have := hdone _ _ H j (ready_mono hj hji)
      omega
  | succ f ih =>
    intro listed E inv hp hfree hr hy H
    have hun := (mem_ready.1 hr).1
    refine ⟨fun h => (by rw [h] at hr; cases hr), fun j hj => ?_⟩
    have hjn : j < n := by
      rcases Nat.lt_or_ge j n with h | h
      · exact h
      · exact absurd hj (tail_waitsP hs hc hn inv hp _ i rfl hin hun j h)
    refine ⟨hjn, ?_⟩
    by_cases hji : j = i
    · subst hji; exact ⟨oi, v, hi, hy, H⟩
    · have h1 := (H.2 j (ready_mono hj hji)).2
      obtain ⟨hjun, oj, hoj, hall⟩ := mem_ready.1 hj
      have hnot : ∀ e ∈ oj.after, Region.binds md e = true → e.on ≠ i := fun e he hb heq => by
        have h1 := hall e he hb
        rw [heq, getD_both hun] at h1
        cases h1
      have h2 := aOpR_put hoj (hfree j oj hoj hji hjun hnot) hy h1
      have hfree' : ∀ k ok, ops[k]? = some ok → k ≠ i → (listed.setIfInBounds j true).getD k true = false →
          (∀ e ∈ ok.after, Region.binds md e = true → e.on ≠ i) → oi.apart ops ok = true := fun k ok hk hki hun hno => by
        refine hfree k ok hk hki ?_ hno
        by_cases hjk : j = k
        · subst hjk; exact hjun
        · rw [getD_set_ne true hjk] at hun; exact hun
      refine aOpR_mono (fun a' h3 => ih (listed.setIfInBounds j true) a' (inv.set hj hjn) (fun i hi => getD_set_keep (hp i hi)) hfree' (ready_mono hr (Ne.symm hji)) h3.1 ?_) h2
      rw [Array.setIfInBounds_comm _ _ hji]
      exact h3.2
def wpLexR (P : Program) (C : Ctx) (ops : Array Oper) (σ : List Ob) (rs : Res) (Q : EE → Prop) : List (Nat × Oper) → EE → Prop
  | [], E => Q E
  | (i, o) :: rest, E => ∃ v, YF P C ops σ rs i o v E ∧ wpLexR P C ops σ rs Q rest (putE E o.dst v)
def lexIdx (md : Region.Mode) (ops : Array Oper) (g n : Nat) : List Nat → Array Bool → Bool
  | [], listed => Region.seqB md ops g n listed && (List.range n).all fun j => listed.getD j false
  | k :: is, listed => (Region.ready md ops listed).contains k && Region.free md ops listed k && decide (k < n) && lexIdx md ops g n is (listed.setIfInBounds k true)
theorem wpAnyR_lex {n g : Nat} {pre : List Nat} {Lq : EE → Prop} (hs : sinkP md ops pre n = true) (hc : Region.chainB md ops n = true) (hn : n < ops.size) :
    ∀ (l : List (Nat × Oper)) (listed : Array Bool) (E : EE), (∀ p ∈ l, ops[p.1]? = some p.2) → HeadInv md ops n listed → (∀ i ∈ pre, listed.getD i true = true) →
    lexIdx md ops g n (l.map (·.1)) listed = true → wpLexR P C ops σ rs Lq l E →
    wpAnyR P C md ops σ rs n (fun listed' E' => Region.seqB md ops g n listed' = true ∧ (∀ j, j < n → listed'.getD j false = true) ∧ Lq E') l.length listed E
  | [], listed, E, _, _, _, hB, h => by
    simp only [List.map_nil, lexIdx, Bool.and_eq_true] at hB
    exact ⟨hB.1, fun j hj => List.all_eq_true.1 hB.2 j (List.mem_range.2 hj), h⟩
  | (k, o) :: l, listed, E, hl, inv, hp, hB, h => by
    have h0 : ops[k]? = some o := hl (k, o) (by simp)
    simp only [List.map_cons, lexIdx, Bool.and_eq_true, decide_eq_true_eq] at hB
    obtain ⟨⟨⟨hr, hf⟩, hkn⟩, hB'⟩ := hB
    have hr' : k ∈ Region.ready md ops listed := by simpa using hr
    obtain ⟨v, hy, hK⟩ := h
    exact wpAnyR_first h0 hs hc hn hkn (fun listed' E' hL => seqB_ready hL.1) l.length listed E inv hp (Region.free_spec h0 hf) hr' hy
      (wpAnyR_lex hs hc hn l _ _ (fun p hp => hl p (by simp [hp])) (inv.set hr' hkn) (fun i hi => getD_set_keep (hp i hi)) hB' hK)
end
structure SimR (C : Ctx) (σ : List Ob) (rs : Res) (listed : Array Bool) (E : EE) (a : Act) (w : World) : Prop where
  defers : a.defers = []
  size : a.tmps.size = C.n
  mem : ∃ φ, Good C ⟨w, φ, σ ++ res rs listed, C.ok⟩ ∧ (∀ p r, rs[p]? = some r → listed.getD r.1 false = false → φ (σ.length + p) = none) ∧ ∀ t, AV.rel ⟨w, φ, σ ++ res rs listed, C.ok⟩ (E t) (a.tmps.getD t undef)
theorem res_same {rs : Res} {listed : Array Bool} {i : Nat} (h : ∀ r ∈ rs, r.1 ≠ i) : res rs (listed.setIfInBounds i true) = res rs listed := by
  unfold res
  refine List.map_congr_left fun r hr => ?_
  unfold resOb
  rw [getD_set_ne false (Ne.symm (h r hr))]
theorem res_set {rs : Res} {listed : Array Bool} {i p : Nat} {e : TypeId} {zs : List Value} (hnd : (rs.map (·.1)).Nodup) (hp : rs[p]? = some (i, e, zs)) (hi : i < listed.size) :
    res rs (listed.setIfInBounds i true) = (res rs listed).set p ⟨e, 0, zs.map fun v => .ro (.c v)⟩ := by
  apply List.ext_getElem?
  intro j
  rw [List.getElem?_set]
  unfold res
  rw [List.getElem?_map]
  by_cases e : p = j
  · subst e
    have hlt : p < rs.length := (List.getElem?_eq_some_iff.1 hp).1
    rw [hp]
    simp [resOb, hlt, hi]
  · rw [if_neg e, List.getElem?_map]
    cases hj : rs[j]? with
    | none => rfl
    | some r =>
      simp only [Option.map_some, Option.some.injEq]
      have hne : r.1 ≠ i := by
        intro he
        have h1 : (rs.map (·.1))[p]? = some i := by simp [hp]
        have h2 : (rs.map (·.1))[j]? = some i := by simp [hj, he]
        have hpl := (List.getElem?_eq_some_iff.1 h1).1
        exact e ((List.getElem?_inj hpl hnd).1 (h1.trans h2.symm))
      unfold resOb
      rw [getD_set_ne false (Ne.symm hne)]
section
variable {P : Program} {C : Ctx} {ops : Array Oper} {σ : List Ob} {md : Region.Mode} {rs : Res} {listed : Array Bool} {E : EE} {a : Act} {w : World}
theorem ev_evE' {m : Mem} {a : Act} {E : EE} (hE : ∀ t, AV.rel m (E t) (a.tmps.getD t undef)) (x : Operand) : AV.rel m (evE E x) (a.eval x) := by
  have := ev_rel (env := []) (m := m) (a := a) (fun t => by simp [look, AV.rel]) x
  cases x with
  | tmp t => exact hE t
  | const c => cases c <;> simpa [ev, evE] using this
  | func f => simpa [ev, evE] using this
  | global g => simp [evE, AV.rel]
theorem SimR.op {Q : Exit → Act → World → Prop} {i : Nat} {o : Oper} {v : AV} {K : Act → World → Prop} (hnd : (rs.map (·.1)).Nodup) (hs : SimR C σ rs listed E a w) (hi : listed.getD i true = false) (ho : ops[i]? = some o) (hd : ∀ t, o.dst = some t → t < C.n)
    (hy : YF P C ops σ rs i o v E) (hK : ∀ a' w', SimR C σ rs (listed.setIfInBounds i true) (putE E o.dst v) a' w' → K a' w') : wpOp P ops Q i K a w := by
  obtain ⟨s1, s2, φ, hG, hφ, hE⟩ := hs
  obtain ⟨dst, op, ty, pos, after, g⟩ := o
  have putR : ∀ {φ' : Nat → Option Nat} {σ' : List Ob} {w' : World} {u : Value}, (∀ t, AV.rel ⟨w', φ', σ', C.ok⟩ (E t) (a.tmps.getD t undef)) → AV.rel ⟨w', φ', σ', C.ok⟩ v u → ∀ t, AV.rel ⟨w', φ', σ', C.ok⟩ (putE E dst v t) ((a.put dst u).tmps.getD t undef) := by
    intro φ' σ' w' u h1 h2 t
    cases dst with
    | none => exact h1 t
    | some s =>
      rw [getD_put a s t u (by rw [s2]; exact hd s rfl)]
      simp only [putE]
      split
      · exact h2
      · exact h1 t
  have szR : ∀ u, (a.put dst u).tmps.size = C.n := fun u => by cases dst <;> simp [Act.put, s2]
  have dfR : ∀ u, (a.put dst u).defers = [] := fun u => by cases dst <;> exact s1
  unfold wpOp
  simp only [ho]
  rcases hy with ⟨h0, ⟨hg, hv⟩ | ⟨hg, rfl⟩⟩ | ⟨p, e, zs, hp, hop, hgd, hds, hz, rfl⟩
  · rw [if_pos (gsay_yes hg a _ hE)]
    refine .inl (hv (res rs listed) a ⟨w, φ, σ ++ res rs listed, C.ok⟩ hG rfl (fun x _ => ev_evE' hE x) _ _ fun u w' hb hu => hK _ _ ?_)
    obtain ⟨g1, g2⟩ := good_below hG hb
    refine ⟨dfR u, szR u, φ, ?_, fun p r hp hl => hφ p r hp ?_, ?_⟩
    · rw [res_same h0]; exact g1
    · rwa [getD_set_ne false (Ne.symm (h0 r (List.mem_of_getElem? hp)))] at hl
    · rw [res_same h0]; exact putR (fun t => AV.rel_keeps g2 _ _ (AV.only_true _) (hE t)) hu
  · rw [gsay_no hg a _ hE, if_neg (by simp)]
    refine hK _ _ ⟨dfR _, szR _, φ, ?_, fun p r hp hl => hφ p r hp ?_, ?_⟩
    · rw [res_same h0]; exact hG
    · rwa [getD_set_ne false (Ne.symm (h0 r (List.mem_of_getElem? hp)))] at hl
    · rw [res_same h0]; exact putR hE (by simp [AV.rel, RV.rel])
  · simp only at hop hgd hds
    subst hop; subst hgd
    have his : i < listed.size := by
      rcases Nat.lt_or_ge i listed.size with h | h
      · exact h
      · simp [Array.getElem?_eq_none h] at hi
    have hlf : listed.getD i false = false := getD_both hi
    rw [if_pos (by simp [Region.wanted])]
    refine .inl ?_
    obtain ⟨inf, z, h1, h2, h3, h4⟩ := hz.h
    unfold Oper.wp
    have hrun : (execOp a.eval ⟨dst, .alloc e, ty, pos, after, none⟩).run P w = .ok (.value (.pointer (some ⟨w.heap.size, 0, none⟩))) (w.alloc (.cells zs.toArray e)) := by
      simp [execOp, Instr.alloc, zeroValue, typeInfo, h1, h2, newVar, newRow, newObj, h3]; rfl
    rw [hrun]
    simp only [Oper.upon]
    have hpl : p < rs.length := (List.getElem?_eq_some_iff.1 hp).1
    have hlf' : ¬ listed.getD i false = true := by rw [hlf]; simp
    have hq : (σ ++ res rs listed)[σ.length + p]? = some ⟨e, 0, []⟩ := by
      rw [List.getElem?_append_right (by omega), show σ.length + p - σ.length = p by omega]
      unfold res
      rw [List.getElem?_map, hp]
      simp only [Option.map_some, resOb]
      rw [if_neg hlf']
    have hφq := hφ p _ hp hlf
    refine hK _ _ ⟨dfR _, szR _, upd φ (σ.length + p) (some w.heap.size), ?_, fun p' r hp' hl => ?_, ?_⟩
    · have := good_fill hG hq hφq zs h4
      rwa [List.set_append_right _ _ (by omega), show σ.length + p - σ.length = p by omega, ← res_set hnd hp his] at this
    · by_cases hpp : p' = p
      · subst hpp
        rw [hp] at hp'; injection hp' with hp'; subst hp'
        simp [his] at hl
      · have hri : r.1 ≠ i := fun he => by rw [he] at hl; simp [his] at hl
        rw [getD_set_ne false (Ne.symm hri)] at hl
        rw [upd_ne (by omega)]
        exact hφ p' r hp' hl
    · have hall : ∀ t, AV.rel ⟨w.alloc (.cells zs.toArray e), upd φ (σ.length + p) (some w.heap.size), (σ ++ res rs listed).set (σ.length + p) ⟨e, 0, zs.map fun v => .ro (.c v)⟩, C.ok⟩ (E t) (a.tmps.getD t undef) := fun t => rel_fill hq hφq _ _ (hE t)
      rw [List.set_append_right _ _ (by omega), show σ.length + p - σ.length = p by omega, ← res_set hnd hp his] at hall
      refine putR hall ?_
      simp only [AV.rel]
      exact ⟨by simp [res]; omega, w.heap.size, upd_eq, rfl⟩
theorem wpAny_of_R {n g : Nat} {L : Array Bool → EE → Prop} {Q' : Exit → Act → World → Prop} (hnd : (rs.map (·.1)).Nodup) (hd : ∀ (i : Nat) o t, ops[i]? = some o → o.dst = some t → t < C.n)
    (hL : ∀ listed E a w, L listed E → SimR C σ rs listed E a w → wpAny P md ops Q' g listed a w) :
    ∀ (f : Nat) (listed : Array Bool) (E : EE) (a : Act) (w : World), SimR C σ rs listed E a w → wpAnyR P C md ops σ rs n L f listed E → wpAny P md ops Q' (f + g) listed a w
  | 0, listed, E, a, w, hs, h => by rw [Nat.zero_add]; exact hL _ _ _ _ h hs
  | f + 1, listed, E, a, w, hs, h => by
    rw [show f + 1 + g = (f + g) + 1 by omega]
    refine ⟨fun h0 => absurd h0 h.1, fun i hi => ?_⟩
    obtain ⟨o, v, ho, hy, hK⟩ := (h.2 i hi).2
    exact SimR.op hnd hs (mem_ready.1 hi).1 ho (fun t ht => hd i o t ho ht) hy fun a' w' hs' => wpAny_of_R hnd hd hL f _ _ a' w' hs' hK
end
section
variable {P : Program} {md : Region.Mode} {ops : Array Oper} {Q' : Exit → Act → World → Prop}
def isMove (o : Oper) : Bool := match o with
  | ⟨some _, .move _, _, _, _, none⟩ => true
  | _ => false
def movedTo (o : Oper) (a : Act) : Value := match o.op with
  | .move x => a.eval x
  | _ => undef
theorem run_move {o : Oper} (h : isMove o = true) (a : Act) (w : World) : Region.wanted o (yielded ops a.tmps) = true ∧ (execOp a.eval o).run P w = .ok (.value (movedTo o a)) w := by
  obtain ⟨dst, op, ty, pos, after, g⟩ := o
  unfold isMove at h
  split at h
  · rename_i he; injection he with e1 e2 e3 e4 e5 e6; subst e1; subst e2; subst e6
    exact ⟨by simp [Region.wanted], by simp [execOp, movedTo]⟩
  · cases h
theorem movedTo_put {oi oj : Oper} (hm : isMove oi = true) (a : Act) (u : Value) (h3 : ∀ d, oj.dst = some d → d ∉ oi.looksAt ops) : movedTo oi (a.put oj.dst u) = movedTo oi a := by
  obtain ⟨dst, op, ty, pos, after, g⟩ := oi
  unfold isMove at hm
  split at hm
  · rename_i x _ _ _ he; injection he with e1 e2 e3 e4 e5 e6; subst e1; subst e2; subst e6
    simp only [movedTo]
    refine Act.eval_put fun d hd hxd => h3 d hd ?_
    subst hxd
    exact List.mem_append_left _ (List.mem_filterMap.2 ⟨.tmp d, by simp [Op.operands], rfl⟩)
  · cases hm
theorem wpOp_move {F : Act → World → Prop} {j : Nat} {oi oj : Oper} (hj : ops[j]? = some oj) (hm : isMove oi = true) (hap : oi.apart ops oj = true) (hsj : ∀ cs b, oj.op ≠ .select cs b) {K K' : Act → World → Prop} {a : Act} {w : World}
    (h : wpOp P ops (nrm F) j K' (a.put oi.dst (movedTo oi a)) w) (hK : ∀ a' w', movedTo oi a' = movedTo oi a → K' (a'.put oi.dst (movedTo oi a)) w' → K a' w') : wpOp P ops (nrm F) j K a w := by
  obtain ⟨h1, h2, h3⟩ := Oper.apart_spec hap
  unfold wpOp at *
  simp only [hj] at *
  rw [wanted_put oj a oi.dst _ h1] at h
  have key : ∀ u w', K' ((a.put oi.dst (movedTo oi a)).put oj.dst u) w' → K (a.put oj.dst u) w' := fun u w' hk => hK _ _ (movedTo_put hm a u h3) (by rwa [← Act.put_comm a (movedTo oi a) u h2])
  split
  · rename_i hw
    simp only [hw, if_true] at h
    refine h.imp (fun h => ?_) (fun h => ⟨?_, h.2⟩)
    · unfold Oper.wp at *
      rw [execOp_put oj hsj a oi.dst _ h1] at h
      generalize (execOp a.eval oj).run P w = r at *
      cases r with
      | ok n w' =>
        cases n with
        | value u => exact key u w' h
        | skip => exact key undef w' h
        | enter f args => exact Calls.mono h (fun e w'' he => by cases e <;> first | exact key _ w'' he | exact he | exact he.elim)
        | row r args => exact Rows.mono h fun v w'' he => key v w'' he
        | defer d =>
          simp only [Oper.upon] at h ⊢
          have e : ({ a.put oi.dst (movedTo oi a) with defers := d :: (a.put oi.dst (movedTo oi a)).defers } : Act).put oj.dst undef = (({ a with defers := d :: a.defers } : Act).put oj.dst undef).put oi.dst (movedTo oi a) := by
            have := Act.put_comm ({ a with defers := d :: a.defers } : Act) (movedTo oi a) undef h2
            rw [← this]
            cases oi.dst <;> rfl
          rw [e] at h
          refine hK _ _ ?_ h
          have := movedTo_put (ops := ops) (oj := oj) hm ({ a with defers := d :: a.defers } : Act) undef h3
          rw [this]
          cases hop : oi.op <;> simp [movedTo, hop]
          rfl
        | _ => exact h
      | halt x w' => cases x <;> exact h
    · have := h.1
      unfold Oper.asks at this ⊢
      rwa [execOp_put oj hsj a oi.dst _ h1] at this
  · rename_i hw
    simp only [hw] at h
    exact key undef w h
theorem wpAny_move {F : Act → World → Prop} {i : Nat} {oi : Oper} (hi : ops[i]? = some oi) (hm : isMove oi = true) (hsel : ∀ (j : Nat) (o : Oper) cs b, ops[j]? = some o → o.op ≠ .select cs b) :
    ∀ (fuel : Nat) (listed : Array Bool) (a : Act) (w : World),
      (∀ j oj, ops[j]? = some oj → j ≠ i → listed.getD j true = false → (∀ e ∈ oj.after, Region.binds md e = true → e.on ≠ i) → oi.apart ops oj = true) →
      i ∈ Region.ready md ops listed →
      wpAny P md ops (nrm F) fuel (listed.setIfInBounds i true) (a.put oi.dst (movedTo oi a)) w → wpAny P md ops (nrm F) (fuel + 1) listed a w := by
  have own : ∀ {K : Act → World → Prop} {a : Act} {w : World}, K (a.put oi.dst (movedTo oi a)) w → wpOp P ops (nrm F) i K a w := by
    intro K a w h
    obtain ⟨e1, e2⟩ := run_move (P := P) (ops := ops) hm a w
    unfold wpOp
    simp only [hi]
    rw [if_pos e1]
    refine .inl ?_
    unfold Oper.wp
    rw [e2]
    exact h
  intro fuel
  induction fuel with
  | zero =>
    intro listed a w _ hr H
    refine ⟨fun h => (by rw [h] at hr; cases hr), fun j hj => ?_⟩
    by_cases hji : j = i
    · subst hji; exact own H
    · have := ready_mono hj hji
      rw [H.1] at this
      cases this
  | succ fuel ih =>
    intro listed a w hfree hr H
    refine ⟨fun h => (by rw [h] at hr; cases hr), fun j hj => ?_⟩
    by_cases hji : j = i
    · subst hji; exact own H
    · have h1 := H.2 j (ready_mono hj hji)
      obtain ⟨hjun, oj, hoj, hall⟩ := mem_ready.1 hj
      have hnot : ∀ e ∈ oj.after, Region.binds md e = true → e.on ≠ i := fun e he hb heq => by
        have h1 := hall e he hb
        have h0 := (mem_ready.1 hr).1
        rw [heq, getD_both h0] at h1
        cases h1
      have hfree' : ∀ k ok, ops[k]? = some ok → k ≠ i → (listed.setIfInBounds j true).getD k true = false →
          (∀ e ∈ ok.after, Region.binds md e = true → e.on ≠ i) → oi.apart ops ok = true := fun k ok hk hki hun hno => by
        refine hfree k ok hk hki ?_ hno
        by_cases hjk : j = k
        · subst hjk; exact hjun
        · rw [getD_set_ne true hjk] at hun; exact hun
      refine wpOp_move hoj hm (hfree j oj hoj hji hjun hnot) (fun cs b => hsel j oj cs b hoj) h1 fun a' w' he h3 => ih (listed.setIfInBounds j true) a' w' hfree' (ready_mono hr (Ne.symm hji)) ?_
      rw [he, Array.setIfInBounds_comm _ _ hji]
      exact h3
end
def pick (l : List Oper) : List Nat → List (Nat × Oper)
  | [] => []
  | i :: is => match l[i]? with
    | some o => (i, o) :: pick l is
    | none => pick l is
theorem pick_mem {l : List Oper} : ∀ {is : List Nat} {p : Nat × Oper}, p ∈ pick l is → l[p.1]? = some p.2
  | [], p, h => by simp [pick] at h
  | i :: is, p, h => by
    unfold pick at h
    split at h
    · rename_i o ho
      rcases List.mem_cons.1 h with rfl | h
      · exact ho
      · exact pick_mem h
    · exact pick_mem h
def mvE (E : EE) (o : Oper) : AV := match o.op with
  | .move x => evE E x
  | _ => .junk
def preE : EE → List (Nat × Oper) → EE
  | E, [] => E
  | E, (_, o) :: l => preE (putE E o.dst (mvE E o)) l
inductive Moved : Env → List (Nat × Oper) → Env → Prop
  | nil {env : Env} : Moved env [] env
  | cons {env env' : Env} {l : List (Nat × Oper)} {i t : Nat} {x : Operand} {v : AV} {ty : TypeId} {pos : String} {after : Array Edge} {g : Option (Nat × Bool)} : ev env x = v → Moved ((t, v) :: env) l env' → Moved env ((i, ⟨some t, .move x, ty, pos, after, g⟩) :: l) env'
theorem Moved.eq {env env' : Env} {l : List (Nat × Oper)} (h : Moved env l env') : preE (look env) l = look env' := by
  induction h with
  | nil => rfl
  | cons hx _ ih =>
    rw [← ih]
    simp only [preE, mvE, ← ev_evE, hx, ← look_putE]
def preIdx (md : Region.Mode) (ops : Array Oper) (n : Nat) : List (Nat × Oper) → Array Bool → Option (Array Bool)
  | [], listed => some listed
  | (k, o) :: is, listed => if (Region.ready md ops listed).contains k && Region.free md ops listed k && decide (k < n) && isMove o then preIdx md ops n is (listed.setIfInBounds k true) else none
def drawTB (l : List Oper) (pre head : List Nat) (n : Nat) : Bool :=
  Region.noSelect l.toArray && decide (n < l.length) && sinkP .any l.toArray pre n && Region.chainB .any l.toArray n && decide ((pick l pre).length + (pick l head).length = n) && decide ((pick l pre).map (·.1) = pre) &&
  match preIdx .any l.toArray n (pick l pre) (Array.replicate l.length false) with
  | some listed => pre.all (fun i => listed.getD i true) && lexIdx .any l.toArray (l.length - n) n ((pick l head).map (·.1)) listed
  | none => false
section
variable {P : Program} {C : Ctx} {k : List Item} {R : Act → World → Prop} {env : Env} {σ : List Ob}
theorem wpAny_pre {F : Act → World → Prop} {ops : Array Oper} {n : Nat} (hsel : Region.noSelect ops = true) (hd : ∀ (i : Nat) o t, ops[i]? = some o → o.dst = some t → t < C.n) {w : World} {φ : Nat → Option Nat} (hG : Good C ⟨w, φ, σ, C.ok⟩) :
    ∀ (pre : List (Nat × Oper)) (listed listed' : Array Bool) (E : EE) (a : Act) (f : Nat), (∀ p ∈ pre, ops[p.1]? = some p.2) → preIdx .any ops n pre listed = some listed' → HeadInv .any ops n listed →
    a.defers = [] → a.tmps.size = C.n → (∀ t, AV.rel ⟨w, φ, σ, C.ok⟩ (E t) (a.tmps.getD t undef)) →
    (HeadInv .any ops n listed' → ∀ a', a'.defers = [] → a'.tmps.size = C.n → (∀ t, AV.rel ⟨w, φ, σ, C.ok⟩ (preE E pre t) (a'.tmps.getD t undef)) → wpAny P .any ops (nrm F) f listed' a' w) →
    wpAny P .any ops (nrm F) (pre.length + f) listed a w
  | [], listed, listed', E, a, f, _, hp, inv, s1, s2, hE, h => by
    simp only [preIdx, Option.some.injEq] at hp; subst hp
    rw [List.length_nil, Nat.zero_add]
    exact h inv a s1 s2 hE
  | (i, o) :: pre, listed, listed', E, a, f, hl, hp, inv, s1, s2, hE, h => by
    unfold preIdx at hp
    split at hp
    · rename_i hc
      simp only [Bool.and_eq_true, decide_eq_true_eq] at hc
      obtain ⟨⟨⟨hr, hf⟩, hin⟩, hm⟩ := hc
      have h0 : ops[i]? = some o := hl (i, o) (by simp)
      have hr' : i ∈ Region.ready .any ops listed := by simpa using hr
      rw [show ((i, o) :: pre).length + f = (pre.length + f) + 1 by simp; omega]
      refine wpAny_move h0 hm (Region.noSelect_spec hsel) _ listed a w (Region.free_spec h0 hf) hr' ?_
      have hmv : AV.rel ⟨w, φ, σ, C.ok⟩ (mvE E o) (movedTo o a) := by
        unfold mvE movedTo
        cases o.op <;> simp only <;> first | exact ev_evE' hE _ | simp [AV.rel]
      refine wpAny_pre hsel hd hG pre _ listed' (putE E o.dst (mvE E o)) _ f (fun p hp => hl p (by simp [hp])) hp (inv.set hr' hin) ?_ ?_ ?_ h
      · cases o.dst <;> exact s1
      · cases o.dst <;> simp [Act.put, s2]
      · intro t
        cases hdst : o.dst with
        | none => exact hE t
        | some s =>
          rw [getD_put a s t _ (by rw [s2]; exact hd i o s h0 hdst)]
          simp only [putE]
          split
          · exact hmv
          · exact hE t
    · cases hp
structure RunsT (P : Program) (C : Ctx) (ops : Array Oper) (rs : Res) (tail : List Oper) (l : List (Nat × Oper)) (k : List Item) (R : Act → World → Prop) (S : St) : Prop where
  run : wpLexR P C ops S.σ rs (fun E => ∃ env', E = look env' ∧ RunsL P C ops tail k R ⟨env', S.σ ++ full rs⟩) l (look S.env)
theorem res_none {rs : Res} {m : Nat} : ∀ (j : Nat) o, (res rs (Array.replicate m false))[j]? = some o → o.cs = [] := by
  intro j o h
  unfold res at h
  rw [List.getElem?_map, Option.map_eq_some_iff] at h
  obtain ⟨r, _, rfl⟩ := h
  unfold resOb
  rw [getD_replicate_false]
  rfl
theorem res_full {rs : Res} {listed : Array Bool} (h : ∀ r ∈ rs, listed.getD r.1 false = true) : res rs listed = full rs := by
  unfold res full
  refine List.map_congr_left fun r hr => ?_
  unfold resOb
  rw [if_pos (h r hr)]
theorem res_blank {rs : Res} {l l' : Array Bool} (h : ∀ r ∈ rs, l.getD r.1 false = l'.getD r.1 false) : res rs l = res rs l' := by
  unfold res
  refine List.map_congr_left fun r hr => ?_
  unfold resOb
  rw [h r hr]
theorem preIdx_off {ops : Array Oper} {n : Nat} {i : Nat} : ∀ (pre : List (Nat × Oper)) (listed listed' : Array Bool), preIdx .any ops n pre listed = some listed' → (∀ p ∈ pre, p.1 ≠ i) → listed'.getD i false = listed.getD i false
  | [], listed, listed', h, _ => by simp only [preIdx, Option.some.injEq] at h; rw [h]
  | (k, o) :: pre, listed, listed', h, hp => by
    unfold preIdx at h
    split at h
    · rw [preIdx_off pre _ listed' h fun p hq => hp p (by simp [hq]), getD_set_ne false (hp (k, o) (by simp))]
    · cases h
theorem Runs.drawT {id : Nat} {l : List Oper} {cn : Nat} {env' : Env} (pre head : List Nat) (n : Nat) (rs : Res) (hf : P.follows .mixedOrders = true) (hn : C.n = cn) (hB : drawTB l pre head n = true) (hd : dstOk cn l = true)
    (hpre : Moved env (pick l pre) env') (hnd : (rs.map (·.1)).Nodup) (hrs : ∀ r ∈ rs, r.1 < n) (hrp : ∀ r ∈ rs, ∀ p ∈ pre, p ≠ r.1)
    (h : RunsT P C l.toArray rs (l.drop n) (pick l head) k R ⟨env', σ⟩) : Runs P C (.code (.region id l.toArray true) :: k) R ⟨env, σ⟩ := by
  refine ⟨fun a w hs => Fin.of_wp (wp_region_any hf ?_)⟩
  unfold drawTB at hB
  simp only [Bool.and_eq_true, decide_eq_true_eq] at hB
  obtain ⟨⟨⟨⟨⟨⟨hsel, hnl⟩, hsk⟩, hch⟩, hlen⟩, hpm⟩, hx⟩ := hB
  split at hx
  · rename_i listed hli
    simp only [Bool.and_eq_true] at hx
    obtain ⟨hpa, hlex⟩ := hx
    obtain ⟨s1, s2, φ, hG, hE⟩ := hs
    have hb : Below w.heap.size w { w with drawn := w.drawn + 1 } := ⟨rfl, rfl, rfl, Nat.le_refl _, fun _ _ => rfl⟩
    obtain ⟨g1, g2⟩ := good_below hG hb
    -- the places that are kept for what is allocated
    let φ0 : Nat → Option Nat := fun i => if i < σ.length then φ i else none
    have hφ0 : ∀ j, φ0 (σ.length + j) = none := fun j => if_neg (by omega)
    obtain ⟨G1, G2⟩ := good_grow (φ' := φ0) (new := res rs (Array.replicate l.length false)) g1 (Below.refl _ _) (fun i hi => if_pos hi) (fun j hj g hg => by rw [hφ0] at hg; cases hg) (fun i j g hi hj e1 e2 => by rw [hφ0] at e1; cases e1) (fun j o hj => by rw [hφ0]; exact res_none j o hj)
    have hE1 : ∀ t, AV.rel ⟨{ w with drawn := w.drawn + 1 }, φ0, σ ++ res rs (Array.replicate l.length false), C.ok⟩ (look env t) (a.tmps.getD t undef) := fun t => AV.rel_keeps G2 _ _ (AV.only_true _) (AV.rel_keeps g2 _ _ (AV.only_true _) (hE t))
    have hdd : ∀ (i : Nat) o t, l.toArray[i]? = some o → o.dst = some t → t < C.n := fun i o t hi ht => by rw [hn]; exact dstOk_at hd i o t (by simpa using hi) ht
    have inv0 : HeadInv .any l.toArray n (Array.replicate l.length false) :=
      ⟨by simp, fun j oj _ hl => (by rw [getD_replicate_false] at hl; cases hl), fun t _ ht => getD_in (by simpa using ht) (getD_replicate_false _ _)⟩
    have hmemP : ∀ p ∈ pick l pre, l.toArray[p.1]? = some p.2 := fun p hp => by simpa using pick_mem hp
    have hmemH : ∀ p ∈ pick l head, l.toArray[p.1]? = some p.2 := fun p hp => by simpa using pick_mem hp
    have hsz : l.toArray.size = (pick l pre).length + ((pick l head).length + (l.length - n)) := by simp; omega
    refine (show ∀ m, m = l.toArray.size → wpAny P .any l.toArray (nrm (Fin P k R)) m (Array.replicate l.toArray.size false) a { w with drawn := w.drawn + 1 } from ?_) _ rfl
    intro m hm
    obtain rfl := hm.trans hsz
    refine wpAny_pre (σ := σ ++ res rs (Array.replicate l.length false)) hsel hdd G1 (pick l pre) (Array.replicate l.toArray.size false) listed (look env) a _ hmemP (by simpa using hli) (by simpa using inv0) s1 s2 hE1 fun inv a' t1 t2 hE' => ?_
    have hE2 : preE (look env) (pick l pre) = look env' := hpre.eq
    rw [hE2] at hE'
    have hprel : ∀ i ∈ pre, listed.getD i true = true := fun i hi => List.all_eq_true.1 hpa i hi
    have hoff : ∀ r ∈ rs, listed.getD r.1 false = (Array.replicate l.length false).getD r.1 false := fun r hr => preIdx_off _ _ _ hli fun p hp => by
      refine hrp r hr p.1 ?_
      rw [← hpm]; exact List.mem_map_of_mem hp
    have hres : res rs (Array.replicate l.length false) = res rs listed := res_blank fun r hr => (hoff r hr).symm
    rw [hres] at hE' G1
    have H := wpAnyR_lex (P := P) (C := C) (σ := σ) (md := .any) (ops := l.toArray) (g := l.length - n) hsk hch (by simpa using hnl) (pick l head) listed (look env') hmemH inv hprel hlex h.run
    refine wpAny_of_R hnd hdd (fun listed' E' a'' w'' hL hS => ?_) _ listed (look env') a' _ ⟨t1, t2, φ0, G1, fun p r _ _ => hφ0 p, hE'⟩ H
    obtain ⟨hsq, hall, env'', rfl, hR⟩ := hL
    have hfl := res_full (rs := rs) (listed := listed') fun r hr => hall r.1 (hrs r hr)
    obtain ⟨u1, u2, φ', G', _, hE''⟩ := hS
    rw [hfl] at G' hE''
    have := wpAny_of_seq (md := .any) (Q' := nrm (Fin P k R)) (l.drop n) n listed' a'' w'' (fun j => by simp [List.getElem?_drop]) (by rw [List.length_drop]; exact hsq) (hR.run a'' w'' ⟨u1, u2, φ', G', hE''⟩)
    rwa [List.length_drop] at this
  · cases hx
variable {ops : Array Oper} {rs : Res} {tail : List Oper} {rest : List (Nat × Oper)} {i t : Nat} {o : Oper}
theorem Runs.toDrawT {id : Nat} {l : List Oper} {k' : List Item} {cn : Nat} {env' : Env} (m : Nat) (pre head : List Nat) (n : Nat) (rs : Res) (hf : P.follows .mixedOrders = true) (hn : C.n = cn) (hc : Proofs.YtofefjklipglhaaDoor.ctls m k = .code (.region id l.toArray true) :: k') (hB : drawTB l pre head n = true) (hd : dstOk cn l = true)
    (hpre : Moved env (pick l pre) env') (hnd : (rs.map (·.1)).Nodup) (hrs : ∀ r ∈ rs, r.1 < n) (hrp : ∀ r ∈ rs, ∀ p ∈ pre, p ≠ r.1)
    (h : RunsT P C l.toArray rs (l.drop n) (pick l head) k' R ⟨env', σ⟩) : Runs P C k R ⟨env, σ⟩ := Runs.ctls m hc (Runs.drawT pre head n rs hf hn hB hd hpre hnd hrs hrp h)
theorem RunsT.nil (h : RunsL P C ops tail k R ⟨env, σ ++ full rs⟩) : RunsT P C ops rs tail [] k R ⟨env, σ⟩ := ⟨⟨env, rfl, h⟩⟩
theorem RunsT.pur {v : AV} (h : ∀ more, Pur P C o env (σ ++ more) v) (hi : ∀ r ∈ rs, r.1 ≠ i) (hg : gsay ops env o.guard = some true) (hd : o.dst = some t) (hk : RunsT P C ops rs tail rest k R ⟨(t, v) :: env, σ⟩) : RunsT P C ops rs tail ((i, o) :: rest) k R ⟨env, σ⟩ := by
  refine ⟨v, .inl ⟨hi, .inl ⟨hg, fun more => (h more).toF⟩⟩, ?_⟩
  rw [hd, show (⟨env, σ⟩ : St).env = env from rfl, ← look_putE]
  exact hk.run
theorem RunsT.alloc {p : Nat} {e : TypeId} {zs : List Value} {ty : TypeId} {pos : String} {after : Array Edge} (hr : rs[p]? = some (i, e, zs)) (hz : TZ P e zs) (hk : RunsT P C ops rs tail rest k R ⟨(t, .obj (σ.length + p) 0) :: env, σ⟩) :
    RunsT P C ops rs tail ((i, ⟨some t, .alloc e, ty, pos, after, none⟩) :: rest) k R ⟨env, σ⟩ := by
  refine ⟨.obj (σ.length + p) 0, .inr ⟨p, e, zs, hr, rfl, rfl, rfl, hz, rfl⟩, ?_⟩
  rw [show (⟨env, σ⟩ : St).env = env from rfl, ← look_putE]
  exact hk.run
theorem RunsT.off (hi : ∀ r ∈ rs, r.1 ≠ i) (hg : gsay ops env o.guard = some false) (hd : o.dst = some t) (hk : RunsT P C ops rs tail rest k R ⟨(t, .ro (.c undef)) :: env, σ⟩) : RunsT P C ops rs tail ((i, o) :: rest) k R ⟨env, σ⟩ := by
  refine ⟨.ro (.c undef), .inl ⟨hi, .inr ⟨hg, rfl⟩⟩, ?_⟩
  rw [hd, show (⟨env, σ⟩ : St).env = env from rfl, ← look_putE]
  exact hk.run
theorem RunsT.step {T : Tab} (hT : TabOk P T) {v : AV} (hd : o.dst = some t) (hg : gsay ops env o.guard = some true) (h : ∀ more, aop T env (σ ++ more) o.op = some v) (hi : ∀ r ∈ rs, r.1 ≠ i) (hk : RunsT P C ops rs tail rest k R ⟨(t, v) :: env, σ⟩) : RunsT P C ops rs tail ((i, o) :: rest) k R ⟨env, σ⟩ := by
  obtain ⟨dst, op, ty, pos, after, g⟩ := o
  simp only at hd; subst hd
  exact RunsT.pur (fun more => pu_auto hT (h more)) hi hg rfl hk
end
end Go.Proofs.YtofefjklipglhaaDoor
