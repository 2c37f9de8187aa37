/- Gathered texts. -/
import Derived.Test.YtnecoghfhcimeaaGat0
import Derived.Great.BuildSlice
import Derived.Laws.Slices
import Derived.Laws.RangeString
import Derived.StillTail
/- Loops over values, and tests that are decided. Over any program. -/
namespace Go.Proofs.Ytnecoghfhcimeaa
set_option linter.unusedSimpArgs false
set_option linter.unusedVariables false
open Go.RowKit
section
variable {P : Program} {C : Ctx} {ops : Array Oper} {rest : List Oper} {k : List Item} {R : Act → World → Prop} {env : Env} {σ : List Ob} {t : Nat} {ty : TypeId} {pos : String} {after : Array Edge}
section
variable {x y : Code} {φ : Prop} [Decidable φ]
theorem Runs.cond_yes (hc : look env t = .bool (decide φ)) (hφ : φ) (h : Runs P C (.code x :: k) R ⟨(t, .bool true) :: env, σ⟩) : Runs P C (.code (.cond (.tmp t) x y) :: k) R ⟨env, σ⟩ := Runs.cond_dec hc (fun _ => h) (fun h => absurd hφ h)
theorem Runs.cond_no (hc : look env t = .bool (decide φ)) (hφ : ¬ φ) (h : Runs P C (.code y :: k) R ⟨(t, .bool false) :: env, σ⟩) : Runs P C (.code (.cond (.tmp t) x y) :: k) R ⟨env, σ⟩ := Runs.cond_dec hc (fun h => absurd h hφ) (fun _ => h)
theorem Runs.cond_nyes (hc : look env t = .bool (!decide φ)) (hφ : ¬ φ) (h : Runs P C (.code x :: k) R ⟨(t, .bool true) :: env, σ⟩) : Runs P C (.code (.cond (.tmp t) x y) :: k) R ⟨env, σ⟩ := Runs.cond_ndec hc (fun _ => h) (fun h => absurd h hφ)
theorem Runs.cond_nno (hc : look env t = .bool (!decide φ)) (hφ : φ) (h : Runs P C (.code y :: k) R ⟨(t, .bool false) :: env, σ⟩) : Runs P C (.code (.cond (.tmp t) x y) :: k) R ⟨env, σ⟩ := Runs.cond_ndec hc (fun h => absurd hφ h) (fun _ => h)
end
theorem tl {C : Ctx} {t m : Nat} (hn : C.n = m) (h : Nat.ble (t + 1) m = true) : t < C.n := Nat.lt_of_lt_of_eq (Nat.le_of_ble_eq_true h) hn.symm
theorem RunsL.pe {o : Oper} {m : Nat} (hn : C.n = m) (hg : o.guard = none) (hd : o.dst = some t) (ht : Nat.ble (t + 1) m = true) (h : ∃ v, Pur P C o env σ v ∧ RunsL P C ops rest k R ⟨(t, v) :: env, σ⟩) : RunsL P C ops (o :: rest) k R ⟨env, σ⟩ := by
  obtain ⟨v, h, hk⟩ := h
  exact RunsL.pur h hg hd (tl hn ht) hk
theorem RunsD.pe {o : Oper} (hg : gsay ops env o.guard = some true) (hd : o.dst = some t) (h : ∃ v, Pur P C o env σ v ∧ RunsD P C ops rest k R ⟨(t, v) :: env, σ⟩) : RunsD P C ops (o :: rest) k R ⟨env, σ⟩ := by
  obtain ⟨v, h, hk⟩ := h
  exact RunsD.pur h hg hd hk
theorem Runs.loopN (m : Nat) {c : Code} {k' : List Item} (hc : Proofs.Ytnecoghfhcimeaa.ctls m k = .code (.loop c) :: k') (E : Nat → Env) (s : Nat → List Ob) (Q : Nat → Prop) (len : Nat) (j0 : Nat) (hj0 : j0 ≤ len) (h0 : Q j0) (henv : Sub (E j0) env) (hs : s j0 = σ)
    (round : ∀ j, j ≤ len → Q j → (∀ env' σ', Sub (E (j + 1)) env' → j < len → Q (j + 1) → s (j + 1) = σ' → Runs P C (.inLoop c :: k') R ⟨env', σ'⟩) → Runs P C (.code c :: .inLoop c :: k') R ⟨E j, s j⟩) :
    Runs P C k R ⟨env, σ⟩ := by
  refine Runs.ctls m hc ?_
  subst hs
  refine Runs.keep (E j0) henv ?_
  refine Runs.loop (fun n S => ∃ j, j + n = len ∧ Q j ∧ S = ⟨E j, s j⟩) (fun n S hI ih => ?_) (len - j0) ⟨j0, by omega, h0, rfl⟩
  obtain ⟨j, hj, hQ, rfl⟩ := hI
  refine round j (by omega) hQ fun env' σ' hsub hlt hQ' hσ => ?_
  subst hσ
  exact Runs.keep _ hsub (ih (n - 1) (by omega) _ ⟨j + 1, by omega, hQ', rfl⟩)
theorem Runs.loopI (m : Nat) {c : Code} {k' : List Item} (hc : Proofs.Ytnecoghfhcimeaa.ctls m k = .code (.loop c) :: k') (I : Nat → Env → List Ob → Prop) (n : Nat) (env0 : Env) (henv : Sub env0 env) (h0 : I n env0 σ)
    (round : ∀ n E s, I n E s → (∀ n' E' env' s', n' < n → I n' E' s' → Sub E' env' → Runs P C (.inLoop c :: k') R ⟨env', s'⟩) → Runs P C (.code c :: .inLoop c :: k') R ⟨E, s⟩) :
    Runs P C k R ⟨env, σ⟩ := by
  refine Runs.ctls m hc (Runs.keep env0 henv ?_)
  refine Runs.loop (fun n S => I n S.env S.σ) (fun n S hI ih => ?_) n h0
  obtain ⟨E, s⟩ := S
  exact round n E s hI fun n' E' env' s' hn hI' hsub => Runs.keep _ hsub (ih n' hn ⟨E', s'⟩ hI')
end
theorem ends_own {P : Program} {C : Ctx} {fn : Func} {R : RR → Prop} {S : St} {t i sz : Nat} {e : TypeId} {cs : List AV} {rs : List RV} (hm : ∀ b, ¬ C.mu b) (hr : fn.results = #[.tmp t]) (hx : look S.env t = .own i) (ho : S.σ[i]? = some ⟨e, sz, cs⟩) (hc : cs = rs.map .ro) (hR : R (.row e sz rs)) : ∀ a w, Sim C S a w → Ends P C fn R a w :=
  ends1 hm hr _ rfl (.row e sz rs) [i] (by simp only [Harv]; exact ⟨i, hx, by rw [ho, hc], rfl⟩) (by simp) hR
theorem rr_bool {a b : Bool} (h : a = b) : RR.ro (.bool a) = .ro (.bool b) := by rw [h]
theorem rr_int {a b : Int} (h : a = b) : RR.ro (.int a) = .ro (.int b) := by rw [h]
theorem rr_ro {a b : RV} (h : a = b) : RR.ro a = .ro b := by rw [h]
def intsR (l : List Int) : RV := .seq 1 (l.map fun z => [.int z])
def bytesR (l : List UInt8) : RV := .seq 1 (l.map fun z => [.u8 z])
def strsR (l : List ByteArray) : RV := .seq 1 (l.map fun z => [.str z])
theorem AC.calls {P : Program} {f : FuncId} {args : List RV} {R : RR → Prop} (h : AC P f args R) (w : World) (us : Array Value) (hu : RV.Rels w args us.toList) :
    Calls P f us w fun e w' => ∃ u rr bs, e = .returned u ∧ R rr ∧ RR.rel w' (fun b => b ∉ bs) rr u bs ∧ bs.Nodup ∧ (∀ b ∈ bs, w.heap.size ≤ b ∧ b < w'.heap.size) ∧ Below w.heap.size w w' :=
  (h w (fun _ => True) us (fun _ _ => trivial) hu).mono fun _ _ ⟨u, rr, bs, e, h1, h2, h3⟩ => ⟨u, rr, bs, e, h1, RR.rel_mono (fun _ hb => hb.2) _ _ _ h2, h3⟩
theorem AC.law {P : Program} {f : FuncId} {args : List RV} (h : ACv P f args (.bool true)) (w : World) (us : Array Value) (hu : RV.Rels w args us.toList) :
    Calls P f us w fun e w' => e = .returned (.bool true) ∧ Below w.heap.size w w' :=
  (h.calls w us hu).mono fun _ _ ⟨u, rr, bs, e, h1, h2, _, _, h5⟩ => by
    subst h1
    simp only [RR.rel, RV.rel] at h2
    rw [e, h2.1]
    exact ⟨rfl, h5⟩
end Go.Proofs.Ytnecoghfhcimeaa
/- What a function built becomes data at its end; rows of wide elements. Over any program. -/
namespace Go.Proofs.Ytnecoghfhcimeaa
set_option linter.unusedSimpArgs false
set_option linter.unusedVariables false
open Go.RowKit
open AV (Mem Keeps)
theorem AC.shut {P : Program} {f : FuncId} {args : List RV} {R : RR → Prop} {r : RV} (h : AC P f args R) (hs : ∀ rr, R rr → Seals rr r) : ACv P f args r :=
  fun w ok us h0 hu => (h w ok us h0 hu).mono fun _ _ ⟨u, rr, bs, e, h1, h2, h3, h4, h5⟩ => ⟨u, .ro r, [], e, rfl, by
    simp only [RR.rel]
    exact ⟨seals_rel (fun b hb => ⟨hb.1, by simp⟩) rr r u bs (hs rr h1) h2 (fun b hb => ⟨h0 b (h4 b hb).1, by simp⟩), trivial⟩, by simp, by simp, h5⟩
section
variable {P : Program} {C : Ctx} {fn : Func} {R : RR → Prop} {S : St} {a : Act} {w : World}
theorem ends_lend {x : ResultVar} {v : AV} {r : RV} (hm : ∀ b, ¬ C.mu b) (hr : fn.results = #[x]) (hx : ResV P S x v) (hR : R (.ro r)) (hl : Lends C S.σ v r) : ∀ a w, Sim C S a w → Ends P C fn R a w := by
  intro a w ⟨h1, h2, φ, hG, hH⟩
  obtain ⟨u, k1, k2⟩ := resV_run (P := P) hG hH x v hx
  have hrel := hl ⟨w, φ, S.σ, C.ok⟩ u C.ok hG rfl (fun b hb => hb.1) (fun i g hi hg => hG.frm.new g ((hG.mine i g hi hg).resolve_left (hm g))) k2
  exact ⟨h1, u, by rw [results_eq, hr]; simp [k1], .ro r, [], hR, by simp only [RR.rel]; exact ⟨RV.rel_mono ⟨Nat.le_refl _, fun b _ hb => ⟨⟨hb, by simp⟩, rfl⟩⟩ r u hrel, trivial⟩, by simp, by simp, hG.frm.below0 hm⟩
theorem ends_cellR {p ty n i off : Nat} {o : Ob} {rs : List RV} [ht : TN P ty n] (hm : ∀ b, ¬ C.mu b) (hr : fn.results = #[.cell p ty]) (h1 : look S.env p = .obj i off) (h2 : S.σ[i]? = some o) (h3 : off + n ≤ o.cs.length) (hR : R (.ro (.agg rs))) (hc : (o.cs.drop off).take n = rs.map .ro) : ∀ a w, Sim C S a w → Ends P C fn R a w :=
  ends_lend (v := .agg ((o.cs.drop off).take n)) hm hr (by simp only [ResV]; exact ⟨i, off, o, h1, h2, .inr ⟨n, ht, h3, rfl⟩⟩) hR (hc ▸ Lends.agg (LendsL.ros rs))
theorem ends_ownR {t i : Nat} {o : Ob} {els : List (List RV)} (hm : ∀ b, ¬ C.mu b) (hr : fn.results = #[.tmp t]) (hx : look S.env t = .own i) (ho : S.σ[i]? = some o) (hR : R (.ro (.seq o.sz els))) (hc : o.cs = els.flatten.map .ro) (hl : ∀ x ∈ els, x.length = o.sz) : ∀ a w, Sim C S a w → Ends P C fn R a w :=
  ends_lend (v := .own i) hm hr (by simp only [ResV]; exact hx.symm) hR (Lends.own ho hc hl)
end
section
variable {α : Type} (f : α → List RV) (zc : List RV) (sz : Nat)
def filled (l : List α) (j : Nat) : List RV := ((l.take j).map f).flatten ++ (List.replicate (l.length - j) zc).flatten
variable {f zc sz}
end
section
variable {P : Program} {C : Ctx} {ops : Array Oper} {rest : List Oper} {k : List Item} {R : Act → World → Prop} {env : Env} {σ : List Ob} {t : Nat} {ty : TypeId} {pos : String} {after : Array Edge} {gd : Option (Nat × Bool)}
theorem Runs.shed {E' : Env} {s' more : List Ob} (hsub : Sub E' env) (hσ : σ = s' ++ more) (hf : Free s'.length E') (ho : FreeO s'.length s') (h : Runs P C k R ⟨E', s'⟩) : Runs P C k R ⟨env, σ⟩ := by
  subst hσ
  exact Runs.keep E' hsub (Runs.drop hf ho h)
theorem Runs.loopD {more0 : List Ob} (m : Nat) {c : Code} {k' : List Item} (hc : Proofs.Ytnecoghfhcimeaa.ctls m k = .code (.loop c) :: k') (E : Nat → Env) (s : Nat → List Ob) (hf : ∀ j, Free (s j).length (E j) ∧ FreeO (s j).length (s j)) (Q : Nat → Prop) (len : Nat) (j0 : Nat) (hj0 : j0 ≤ len) (h0 : Q j0) (henv : Sub (E j0) env) (hs : s j0 ++ more0 = σ)
    (round : ∀ j, j ≤ len → Q j → (∀ env' σ' more, Sub (E (j + 1)) env' → j < len → Q (j + 1) → s (j + 1) ++ more = σ' → Runs P C (.inLoop c :: k') R ⟨env', σ'⟩) → Runs P C (.code c :: .inLoop c :: k') R ⟨E j, s j⟩) :
    Runs P C k R ⟨env, σ⟩ := by
  refine Runs.ctls m hc ?_
  refine Runs.shed henv hs.symm (hf j0).1 (hf j0).2 ?_
  refine Runs.loop (fun n S => ∃ j, j + n = len ∧ Q j ∧ S = ⟨E j, s j⟩) (fun n S hI ih => ?_) (len - j0) ⟨j0, by omega, h0, rfl⟩
  obtain ⟨j, hj, hQ, rfl⟩ := hI
  refine round j (by omega) hQ fun env' σ' more hsub hlt hQ' hσ => ?_
  exact Runs.shed hsub hσ.symm (hf _).1 (hf _).2 (ih (n - 1) (by omega) _ ⟨j + 1, by omega, hQ', rfl⟩)
def partCells (env : Env) : Nat → List (Nat × Operand) → Option (List (List AV))
  | _, [] => some []
  | n, p :: l => match Nat.beq p.1 n with
    | true => match cells? (ev env p.2) with
      | some c => match partCells env (n + 1) l with
        | some cs => some (c :: cs)
        | none => none
      | none => none
    | false => none
theorem partCells_ok {m : Mem} {a : Act} : ∀ (l : List (Nat × Operand)) (n : Nat) (css : List (List AV)), (∀ p ∈ l, AV.rel m (ev env p.2) (a.eval p.2)) → partCells env n l = some css →
    (l.map fun p => (p.1, a.eval p.2)) = ((l.map fun p => a.eval p.2).zipIdx n).map (fun x => (x.2, x.1)) ∧ css.length = l.length ∧
    ∀ (i : Nat) p c, l[i]? = some p → css[i]? = some c → (a.eval p.2).cells.size = c.length ∧ ∀ (j : Nat) x, c[j]? = some x → ∃ y, (a.eval p.2).cells[j]? = some y ∧ y.oneCell' = true ∧ AV.rel m x y
  | [], n, css, _, h => by simp only [partCells, Option.some.injEq] at h; subst h; simp
  | p :: l, n, css, hH, h => by
    unfold partCells at h
    split at h
    · rename_i hb
      split at h
      · rename_i c hc
        split at h
        · rename_i cs hcs
          injection h with h; subst h
          obtain ⟨h1, h2, h3⟩ := partCells_ok l (n + 1) cs (fun p hp => hH p (by simp [hp])) hcs
          have hn : p.1 = n := Nat.eq_of_beq_eq_true hb
          refine ⟨by simp only [List.map_cons, List.zipIdx_cons, h1, hn], by simp [h2], fun i q d e1 e2 => ?_⟩
          cases i with
          | zero => simp at e1 e2; subst e1; subst e2; exact cells_rel (hH p (by simp)) hc
          | succ i => exact h3 i q d (by simpa using e1) (by simpa using e2)
        · cases h
      · cases h
    · cases h
theorem flatMap_at {α β : Type} {sz : Nat} (f : α → List β) : ∀ (l : List α), (∀ x ∈ l, (f x).length = sz) → ∀ (i j : Nat) x, l[i]? = some x → j < sz → (l.flatMap f)[i * sz + j]? = (f x)[j]?
  | [], _, i, j, x, h, _ => by simp at h
  | y :: l, hl, i, j, x, h, hj => by
    have hy := hl y (by simp)
    rw [List.flatMap_cons]
    cases i with
    | zero => simp at h; subst h; rw [Nat.zero_mul, Nat.zero_add, List.getElem?_append_left (by omega)]
    | succ i =>
      rw [List.getElem?_append_right (by rw [Nat.succ_mul]; omega), hy, show (i + 1) * sz + j - sz = i * sz + j by rw [Nat.succ_mul]; omega]
      exact flatMap_at f l (fun x hx => hl x (by simp [hx])) i j x (by simpa using h) hj
theorem built {tt e : TypeId} {z : Value} {sz bytes len : Nat} {parts : Array (Nat × Operand)} {css : List (List AV)} [hs : SL P tt e z sz bytes] {m : Mem} {a : Act} (hH : ∀ p ∈ parts.toList, AV.rel m (ev env p.2) (a.eval p.2)) (hp : partCells env 0 parts.toList = some css)
    (hl : css.length = len) (hsz : ∀ c ∈ css, c.length = sz) (hpos : 0 < len * sz) (hsm : len * sz ≤ 16777216) :
    ∃ us : Array Value, (Instr.buildSlice tt len (parts.map fun p => (p.1, a.eval p.2))).run P m.w = .ok (slv m.w.heap.size len len) (m.w.alloc (.cells us e)) ∧ us.size = len * sz ∧
      ∀ (j : Nat) v, css.flatten[j]? = some v → ∃ u, us[j]? = some u ∧ u.oneCell' = true ∧ AV.rel m v u := by
  obtain ⟨h1, h2, h3⟩ := partCells_ok parts.toList 0 css hH hp
  obtain ⟨i, hi, hz0, hsz', hb⟩ := hs.el.hi
  have hs0 : 0 < sz := Nat.pos_of_mul_pos_left hpos
  let vs := parts.toList.map fun p => a.eval p.2
  have hvl : vs.length = len := by simp [vs, ← hl, h2]
  have hvat : ∀ (i : Nat) v, vs[i]? = some v → ∃ p c, parts.toList[i]? = some p ∧ css[i]? = some c ∧ v = a.eval p.2 := fun i v hv => by
    simp only [vs, List.getElem?_map, Option.map_eq_some_iff] at hv
    obtain ⟨p, hp', rfl⟩ := hv
    have hil : i < css.length := by rw [h2]; exact (List.getElem?_eq_some_iff.1 hp').1
    exact ⟨p, css[i], hp', List.getElem?_eq_getElem hil, rfl⟩
  have hcs : ∀ v ∈ vs, v.cells.size = sz := fun v hv => by
    obtain ⟨i, hi', rfl⟩ := List.getElem_of_mem hv
    obtain ⟨p, c, e1, e2, e3⟩ := hvat i _ (List.getElem?_eq_getElem hi')
    rw [e3, (h3 i p c e1 e2).1]
    exact hsz c (List.mem_of_getElem? e2)
  refine ⟨(vs.flatMap fun v => v.cells.toList).toArray, ?_, ?_, fun j v hj => ?_⟩
  · refine run_buildSlice m.w tt e len _ _ i z hs.el.ht hi hz0 (by rw [hsz']; omega) (by rw [hsz']; omega) ?_
    rw [Array.toList_map, h1, hsz']
    exact Great.fill_whole hs0 vs _ hcs (by simp [hvl])
  · rw [List.size_toArray, List.length_flatMap]
    have : ∀ l : List Value, (∀ v ∈ l, v.cells.size = sz) → (l.map fun v => v.cells.toList.length).sum = l.length * sz := by
      intro l hl'
      induction l with
      | nil => simp
      | cons v l ih => rw [List.map_cons, List.sum_cons, ih (fun v hv => hl' v (by simp [hv])), Array.length_toList, hl' v (by simp), List.length_cons, Nat.succ_mul, Nat.add_comm]
    rw [this vs hcs, hvl]
  · have hjl : j < css.length * sz := by rw [← flatten_len hsz]; exact (List.getElem?_eq_some_iff.1 hj).1
    have hq : j / sz < css.length := Nat.div_lt_of_lt_mul (by rwa [Nat.mul_comm])
    have hr : j % sz < sz := Nat.mod_lt _ hs0
    have hjj : j = (j / sz) * sz + j % sz := by rw [Nat.mul_comm]; exact (Nat.div_add_mod j sz).symm
    have hvq : j / sz < vs.length := by rw [hvl, ← hl]; exact hq
    obtain ⟨p, c, e1, e2, e3⟩ := hvat (j / sz) _ (List.getElem?_eq_getElem hvq)
    obtain ⟨k1, k2⟩ := h3 _ p c e1 e2
    have hcv : c[j % sz]? = some v := by
      have := flatMap_at (fun x : List AV => x) css hsz (j / sz) (j % sz) c e2 hr
      rw [← this, ← hjj, ← hj]; simp [List.flatMap]
    obtain ⟨y, y1, y2, y3⟩ := k2 _ v hcv
    refine ⟨y, ?_, y2, y3⟩
    rw [List.getElem?_toArray, hjj, flatMap_at (fun v : Value => v.cells.toList) vs (by simpa using hcs) (j / sz) (j % sz) _ (List.getElem?_eq_getElem hvq) hr, e3, Array.getElem?_toList, y1]
theorem op_build {tt e : TypeId} {z : Value} {sz bytes len : Nat} {parts : Array (Nat × Operand)} {css : List (List AV)} [hs : SL P tt e z sz bytes] (hp : partCells env 0 parts.toList = some css)
    (hl : css.length = len) (hsz : (css.all fun c => Nat.beq c.length sz) = true) (hpos : Nat.ble 1 (len * sz) = true) (hsm : Nat.ble (len * sz) 16777216 = true) (ht : t < C.n) (hk : RunsL P C ops rest k R ⟨(t, .own σ.length) :: env, σ ++ [⟨e, sz, css.flatten⟩]⟩) :
    RunsL P C ops (⟨some t, .buildSlice tt len parts, ty, pos, after, none⟩ :: rest) k R ⟨env, σ⟩ :=
  RunsL.val rfl rfl ht (fun a w φ hG hH => by
    have hsz' : ∀ c ∈ css, c.length = sz := fun c hc => Nat.eq_of_beq_eq_true (List.all_eq_true.1 hsz c hc)
    have h1 := Nat.le_of_ble_eq_true hpos
    have h2 := Nat.le_of_ble_eq_true hsm
    obtain ⟨us, k1, k2, k3⟩ := built (P := P) (tt := tt) (a := a) (m := ⟨w, φ, σ, C.ok⟩) (fun p _ => ev_rel hH p.2) hp hl hsz' h1 h2
    have hcl : css.flatten.length = len * sz := by rw [flatten_len hsz', hl]
    have hg := good_alloc hG us e sz css.flatten (by omega) k3
    have hlen : 0 < sz := Nat.pos_of_mul_pos_left h1
    refine ⟨slv w.heap.size len len, _, _, by simp only [execOp, Sem.run_bind]; rw [k1]; rfl, hg.1, hg.2, ?_⟩
    simp only [AV.rel]
    have hml : len ≤ maxLen := by have : len * 1 ≤ len * sz := Nat.mul_le_mul_left _ hlen; simp [maxLen]; omega
    exact ⟨⟨e, sz, css.flatten⟩, len, by rw [List.getElem?_append_right (Nat.le_refl _), Nat.sub_self]; rfl, hcl, hlen, .inr ⟨w.heap.size, len, _, upd_eq, rfl, heap_alloc_new w _, Nat.le_refl _, hml, k2⟩⟩) hk
def roList : List AV → Option (List RV)
  | [] => some []
  | .ro r :: l => match roList l with
    | some rs => some (r :: rs)
    | none => none
  | _ :: _ => none
theorem roList_eq : ∀ (l : List AV) (rs : List RV), roList l = some rs → l = rs.map .ro
  | [], rs, h => by simp only [roList, Option.some.injEq] at h; subst h; rfl
  | .ro r :: l, rs, h => by
    unfold roList at h
    split at h
    · rename_i rs' h'
      injection h with h; subst h
      rw [roList_eq l rs' h']; rfl
    · cases h
  | .obj _ _ :: l, rs, h => by cases h
  | .own _ :: l, rs, h => by cases h
  | .agg _ :: l, rs, h => by cases h
  | .tup _ :: l, rs, h => by cases h
  | .fn _ _ _ :: l, rs, h => by cases h
  | .junk :: l, rs, h => by cases h
def roLists : List (List AV) → Option (List (List RV))
  | [] => some []
  | l :: ls => match roList l with
    | some r => match roLists ls with
      | some rs => some (r :: rs)
      | none => none
    | none => none
theorem roLists_eq : ∀ (l : List (List AV)) (rs : List (List RV)), roLists l = some rs → l = rs.map (·.map .ro)
  | [], rs, h => by simp only [roLists, Option.some.injEq] at h; subst h; rfl
  | l :: ls, rs, h => by
    unfold roLists at h
    split at h
    · rename_i r hr
      split at h
      · rename_i rs' h'
        injection h with h; subst h
        rw [roList_eq l r hr, roLists_eq ls rs' h']; rfl
      · cases h
    · cases h
theorem pu_build {tt e : TypeId} {z : Value} {sz bytes len : Nat} {parts : Array (Nat × Operand)} {css : List (List AV)} {els : List (List RV)} [hs : SL P tt e z sz bytes] (hp : partCells env 0 parts.toList = some css) (hr : roLists css = some els)
    (hl : css.length = len) (hsz : (css.all fun c => Nat.beq c.length sz) = true) (hpos : Nat.ble 1 (len * sz) = true) (hsm : Nat.ble (len * sz) 16777216 = true) :
    Pur P C ⟨some t, .buildSlice tt len parts, ty, pos, after, gd⟩ env σ (.ro (.seq sz els)) := by
  refine ⟨fun a m hG hσ hH K Q hK => ?_⟩
  have hsz' : ∀ c ∈ css, c.length = sz := fun c hc => Nat.eq_of_beq_eq_true (List.all_eq_true.1 hsz c hc)
  have h1 := Nat.le_of_ble_eq_true hpos
  have h2 := Nat.le_of_ble_eq_true hsm
  obtain ⟨w, φ, σ', ok⟩ := m
  have hok : ok = C.ok := hG.ok0
  subst hok
  subst hσ
  have hcss := roLists_eq _ _ hr
  obtain ⟨us, k1, k2, k3⟩ := built (P := P) (tt := tt) (a := a) (m := ⟨w, φ, σ', C.ok⟩) (fun p hp' => hH p.2 (by simp only [Op.operands, List.mem_map, List.mem_toArray, Array.mem_def]; exact ⟨p, hp', rfl⟩)) hp hl hsz' h1 h2
  have he : (execOp a.eval ⟨some t, .buildSlice tt len parts, ty, pos, after, gd⟩).run P w = .ok (.value (slv w.heap.size len len)) (w.alloc (.cells us e)) := by simp only [execOp, Sem.run_bind]; rw [k1]; rfl
  have hlen : 0 < sz := Nat.pos_of_mul_pos_left h1
  have hml : len ≤ maxLen := by have : len * 1 ≤ len * sz := Nat.mul_le_mul_left _ hlen; simp [maxLen]; omega
  unfold Oper.wp
  rw [he]
  simp only [Oper.upon]
  have hbl := below_one w (.cells us e)
  have hle : els.length = len := by rw [← hl, hcss, List.length_map]
  refine hK _ _ hbl ?_
  simp only [AV.rel, RV.rel]
  refine ⟨some ⟨w.heap.size, 0, none⟩, len, len, rfl, hle.symm, Nat.le_refl _, hml, fun _ => ⟨w.heap.size, 0, rfl, (Array.getElem?_eq_some_iff.1 (heap_alloc_new w _)).1, ok_args hG _ (Nat.le_refl _), ?_⟩⟩
  have hel : ∀ x ∈ els, x.length = sz := fun x hx => by
    have := hsz' (x.map .ro) (by rw [hcss]; exact List.mem_map.2 ⟨x, hx, rfl⟩)
    simpa using this
  refine RV.relE_of _ _ _ fun k e' hk => ⟨hel e' (List.mem_of_getElem? hk), RV.relAt_of _ _ fun j r hj => ?_⟩
  have hjl : j < sz := by have := (List.getElem?_eq_some_iff.1 hj).1; rwa [hel e' (List.mem_of_getElem? hk)] at this
  have hcat := flatten_at hsz' k j (e'.map .ro) (by rw [hcss, List.getElem?_map, hk]; rfl) hjl
  rw [List.getElem?_map, hj] at hcat
  obtain ⟨u, u1, u2, u3⟩ := k3 _ _ hcat
  simp only [AV.rel] at u3
  refine ⟨u, by rw [cell_of_row _ _ _ us _ _ (heap_alloc_new w _), Nat.zero_add]; exact u1, u2, RV.rel_mono ⟨hbl.size, fun b hb ho => ⟨ho, hbl.block b hb⟩⟩ r u u3⟩
theorem pu_loadN_eq {tt : TypeId} {x : Operand} {cs cs' : List RV} {n : Nat} [TN P tt n] (hx : ev env x = .ro (.rp cs)) (he : cs = cs') (hn : cs'.length = n) : Pur P C ⟨some t, .load tt x, ty, pos, after, gd⟩ env σ (.ro (.agg cs')) := by
  subst he
  exact pu_loadN_ro hx hn
theorem agg_flat {m : Mem} : ∀ (vs : List Value) (us : List Value), RV.rels m.w m.ok (vs.map .c) us → us = vs
  | [], us, h => by simpa [RV.rels] using h
  | v :: vs, us, h => by
    simp only [List.map_cons, RV.rels] at h
    obtain ⟨u, us', rfl, h1, h2⟩ := h
    simp only [RV.rel] at h1
    rw [h1, agg_flat vs us' h2]
end
end Go.Proofs.Ytnecoghfhcimeaa
/- The arguments of a law, opened to data; data of plain types, by its parts. Over any program. -/
namespace Go.Proofs.Ytnecoghfhcimeaa
set_option linter.unusedSimpArgs false
set_option linter.unusedVariables false
open Go.RowKit Go.ChangeShapes Go.WideShapes
section
variable {H : Type} {enc : TypeId × Value → H} {P : Program} {w : World} {base : Nat} {spare : Nat → Bool} {held : Bool} {T : List Nat} {r : Reach} {b0 : Nat} {t e : TypeId} {v : Value} {d : DataW H} {p : List MemPlace}
theorem open_cell (hT : (T.all (typB P T)) = true) (ht : nmem T t = true) (hc : v.cells.toList = [v]) (h : DataW.Trod enc P w base spare held t v d p) : ∃ r, TyC P t [r] ∧ RV.Rels w [r] [v] := by
  obtain ⟨rcs', h1, h2, _⟩ := open_arg hT ht h
  rw [hc] at h2
  match rcs', h2 with
  | [], h2 => simp [RV.Rels, RV.rels] at h2
  | [r], h2 => exact ⟨r, h1, h2⟩
  | _ :: _ :: _, h2 => simp [RV.Rels, RV.rels] at h2; obtain ⟨_, _, ⟨_, rfl⟩, _, _, _, h, _⟩ := h2; cases h
theorem open_slice1 (hT : (T.all (typB P T)) = true) (ht : nmem T t = true) (hu : P.underlying t = some (.slice e)) (hv : Value.okWide P w r b0 t v) (h : DataW.Trod enc P w base spare held t v d p) : ∃ r, TyC P t [r] ∧ RV.Rels w [r] [v] := by
  obtain ⟨a, n, c, rfl⟩ := okWide_slice hu hv
  exact open_cell hT ht (by rfl) h
end
section
variable {P : Program} {t e : TypeId} {rcs : List RV} {r : RV}
def TyCs (P : Program) : List TypeId → List (List RV) → Prop
  | [], cs => cs = []
  | t :: ts, cs => ∃ c cs', cs = c :: cs' ∧ TyC P t c ∧ TyCs P ts cs'
theorem TyCs.of : ∀ (fs : List Field) (cells : List (List RV)), cells.length = fs.length → (∀ (j : Nat) f c, fs[j]? = some f → cells[j]? = some c → TyC P f.type c) → TyCs P (fs.map (·.type)) cells
  | [], cells, hl, _ => by simpa [TyCs] using List.eq_nil_of_length_eq_zero hl
  | f :: fs, [], hl, _ => by simp at hl
  | f :: fs, c :: cs, hl, h => by
    simp only [List.map_cons, TyCs]
    exact ⟨c, cs, rfl, h 0 f c rfl rfl, TyCs.of fs cs (by simpa using hl) fun j f' c' e1 e2 => h (j + 1) f' c' (by simpa using e1) (by simpa using e2)⟩
theorem TyC.parts {fs : Array Field} (h : TyC P t rcs) (hu : P.underlying t = some (.struct fs)) : ∃ cells : List (List RV), rcs = cells.flatten ∧ TyCs P (fs.toList.map (·.type)) cells := by
  obtain ⟨cells, h1, h2, h3⟩ := h.inv_struct hu
  exact ⟨cells, h1, TyCs.of fs.toList cells (by simpa using h2) fun j f c e1 e2 => h3 j f c (by simpa using e1) e2⟩
theorem TyC.i64 (h : TyC P t rcs) (hu : P.underlying t = some (.int .i64)) : ∃ n, rcs = [.int n] ∧ I64 n := by
  obtain ⟨n, e, hw⟩ := h.inv_int hu
  exact ⟨n, e, bounds_i64 hw⟩
theorem TyC.byte (h : TyC P t rcs) (hu : P.underlying t = some (.int .u8)) : ∃ c : UInt8, rcs = [.u8 c] := by
  obtain ⟨n, e, hw⟩ := h.inv_int hu
  obtain ⟨c, rfl⟩ := u8_of_wf hw
  exact ⟨c, e⟩
theorem TyC.ints (h : TyC P t rcs) (hu : P.underlying t = some (.slice e)) (he : P.underlying e = some (.int .i64)) (hc : P.cellsOf e = 1) : ∃ l : List Int, rcs = [intsR l] ∧ l.length ≤ maxLen ∧ ∀ z ∈ l, I64 z := by
  obtain ⟨els, rfl, hl, hels⟩ := h.inv_slice hu
  obtain ⟨l, rfl, hq⟩ := els_of (f := fun z : Int => [RV.int z]) (Q := I64) fun el hel => (hels el hel).i64 he
  exact ⟨l, by rw [hc]; rfl, by simpa using hl, hq⟩
theorem TyC.bytes (h : TyC P t rcs) (hu : P.underlying t = some (.slice e)) (he : P.underlying e = some (.int .u8)) (hc : P.cellsOf e = 1) : ∃ l : List UInt8, rcs = [bytesR l] ∧ l.length ≤ maxLen := by
  obtain ⟨els, rfl, hl, hels⟩ := h.inv_slice hu
  obtain ⟨l, rfl, _⟩ := els_of (f := fun z : UInt8 => [RV.u8 z]) (Q := fun _ => True) fun el hel => (by obtain ⟨c, e⟩ := (hels el hel).byte he; exact ⟨c, e, trivial⟩)
  exact ⟨l, by rw [hc]; rfl, by simpa using hl⟩
end
theorem cons_rels {w : World} {r : RV} {rs : List RV} {u : Value} {us : List Value} (h : RV.Rels w [r] [u]) (hs : RV.Rels w rs us) : RV.Rels w (r :: rs) (u :: us) := by
  simp only [RV.Rels, RV.rels] at h hs ⊢
  obtain ⟨u', us', e, h1, rfl⟩ := h
  injection e with e1 e2; subst e1
  exact ⟨u, us, rfl, h1, hs⟩
theorem nil_rels {w : World} : RV.Rels w [] [] := by simp [RV.Rels, RV.rels]
end Go.Proofs.Ytnecoghfhcimeaa
/- Slice expressions on data. Over any program. -/
namespace Go.Proofs.Ytnecoghfhcimeaa
set_option linter.unusedSimpArgs false
set_option linter.unusedVariables false
open Go.RowKit
open AV (Mem Keeps)
theorem rel_sliced {w : World} {ok : Nat → Prop} {A : Option Addr} {n c sz l h : Nat} {els : List (List RV)} (hr : RV.rel w ok (.seq sz els) (.slice A n c)) (hl : l ≤ h) (hh : h ≤ els.length) : RV.rel w ok (.seq sz ((els.take h).drop l)) (sliced A l h c sz) := by
  simp only [RV.rel] at hr ⊢
  obtain ⟨A', n', c', e, hn, h1, h2, h3⟩ := hr
  injection e with e1 e2 e3; subst e1; subst e2; subst e3
  refine ⟨_, h - l, c - l, rfl, by rw [List.length_drop, List.length_take]; omega, by omega, by omega, fun h0 => ?_⟩
  obtain ⟨b, o, rfl, hb, hok, hE⟩ := h3 (by omega)
  rw [if_neg (by omega)]
  refine ⟨b, o + l * sz, by simp [Addr.add_lit], hb, hok, RV.relE_of _ _ _ fun k e hk => ?_⟩
  rw [List.getElem?_drop, List.getElem?_take] at hk
  split at hk
  · have := RV.relE_at _ o sz hE (l + k) e hk
    rwa [Nat.add_mul, ← Nat.add_assoc] at this
  · cases hk
section
variable {P : Program} {C : Ctx} {env : Env} {σ : List Ob} {t : Nat} {ty : TypeId} {pos : String} {after : Array Edge} {gd : Option (Nat × Bool)}
variable {tt e : TypeId} {z : Value} {sz bytes : Nat} {x y y' : Operand} {kd kd' : IntKind} {p q : Int} {els : List (List RV)} {α : Type} {l : List α} {f : α → List RV}
theorem SL.under [hs : SL P tt e z sz bytes] : P.underlying tt = some (.slice (P.elem tt)) := by
  have h := hs.el.ht
  have : P.elem tt = e := by simp [Program.elem, h]
  rw [this]; exact h
theorem SL.size [hs : SL P tt e z sz bytes] (w : World) : (sizeOf (P.elem tt)).run P w = .ok sz w := by
  have h := hs.el.ht
  have he : P.elem tt = e := by simp [Program.elem, h]
  obtain ⟨i, i1, i2, i3, i4⟩ := hs.el.hi
  simp [he, sizeOf, typeInfo, i1, i3]
theorem pu_slice_h [hs : SL P tt e z sz bytes] (hx : ev env x = .ro (.seq sz els)) (hy : ev env y = .ro (.c (.int kd p))) (h0 : 0 ≤ p) (h1 : p ≤ els.length) : Pur P C ⟨some t, .slice tt x none (some y) none, ty, pos, after, gd⟩ env σ (.ro (.seq sz (els.take p.toNat))) :=
  Pur.of (fun a m hG hσ hH => by
    have h := hH x (by simp [Op.operands])
    rw [hx] at h
    simp only [AV.rel] at h
    have h' := h
    simp only [RV.rel] at h'
    obtain ⟨A, n, c, ea, hn, k1, k2, _⟩ := h'
    rw [ea] at h
    have hr := rel_sliced h (Nat.zero_le p.toNat) (by omega)
    refine ⟨sliced A 0 p.toNat c sz, ?_, by simpa only [AV.rel, List.drop_zero] using hr⟩
    simp only [execOp, Option.map_some, Option.map_none, ev_c (hH _ (by simp [Op.operands])) hy, ea, Sem.run_bind, run_sliceAt_slice m.w tt _ _ _ _ SL.under, run_slice_h m.w tt A n c SL.under kd p h0 (by omega), SL.size, Result.andThen_ok]
    rfl)
theorem pu_slice_hM [hs : SL P tt e z sz bytes] (hx : ev env x = .ro (.seq sz (l.map f))) (hy : ev env y = .ro (.c (.int kd p))) (h0 : 0 ≤ p) (h1 : p ≤ l.length) : Pur P C ⟨some t, .slice tt x none (some y) none, ty, pos, after, gd⟩ env σ (.ro (.seq sz ((l.take p.toNat).map f))) := by
  have h := pu_slice_h (P := P) (tt := tt) (C := C) (σ := σ) (t := t) (ty := ty) (pos := pos) (after := after) (gd := gd) hx hy h0 (by simpa using h1)
  rwa [← List.map_take] at h
end
end Go.Proofs.Ytnecoghfhcimeaa
/- The context of a walk may change under way: rebasing; loops over changing contexts; iteration over a string. Over any program. -/
namespace Go.Proofs.Ytnecoghfhcimeaa
set_option linter.unusedSimpArgs false
set_option linter.unusedVariables false
open Go.RowKit
open AV (Mem Keeps)
section
variable {P : Program} {k : List Item} {R : Act → World → Prop}
def mine (φ : Nat → Option Nat) (n : Nat) (b : Nat) : Prop := ∃ i, i < n ∧ φ i = some b
theorem Runs.loopV {c : Code} (I : Nat → Ctx → St → Prop)
    (h : ∀ n C S, I n C S → (∀ m, m < n → ∀ C' S', I m C' S' → Runs P C' (.inLoop c :: k) R S') → Runs P C (.code c :: .inLoop c :: k) R S) (n : Nat) (C : Ctx) (S : St) (h0 : I n C S) : Runs P C (.code (.loop c) :: k) R S := by
  have key : ∀ n C S, I n C S → Runs P C (.code c :: .inLoop c :: k) R S := by
    intro n
    induction n using Nat.strongRecOn with
    | _ n ih => exact fun C S hS => h n C S hS fun m hm C' S' hS' => ⟨fun a w hs => ((ih m hm C' S' hS').run a w hs).step fun _ _ => step_inLoop⟩
  exact ⟨fun a w hs => ((key n C S h0).run a w hs).step fun _ _ => step_loop⟩
def cst : AV → Bool
  | .ro (.c _) | .junk => true
  | .ro (.tup vs) => vs.all fun r => match r with | .c _ => true | _ => false
  | _ => false
def CEnv : Env → Prop
  | [] => True
  | (_, v) :: e => cst v = true ∧ CEnv e
theorem rels_cst {w w' : World} {ok ok' : Nat → Prop} : ∀ (vs : List RV) (us : List Value), (vs.all fun r => match r with | .c _ => true | _ => false) = true → RV.rels w ok vs us → RV.rels w' ok' vs us
  | [], us, _, h => by simpa [RV.rels] using h
  | r :: vs, us, hc, h => by
    rw [List.all_cons, Bool.and_eq_true] at hc
    simp only [RV.rels] at h ⊢
    obtain ⟨u, us', e, h1, h2⟩ := h
    refine ⟨u, us', e, ?_, rels_cst vs us' hc.2 h2⟩
    cases r <;> simp at hc
    simpa only [RV.rel] using h1
theorem cst_rel {m m' : Mem} {v : AV} {u : Value} (hc : cst v = true) (h : AV.rel m v u) : AV.rel m' v u := by
  cases v with
  | ro r =>
    cases r <;> simp only [cst, Bool.false_eq_true] at hc <;> simp only [AV.rel, RV.rel] at h ⊢
    · exact h
    · obtain ⟨us, e, h1⟩ := h
      exact ⟨us, e, rels_cst _ _ hc h1⟩
  | junk => simp [AV.rel]
  | _ => simp [cst] at hc
theorem CEnv.look {env : Env} (h : CEnv env) (t : Nat) : cst (look env t) = true := by
  induction env with
  | nil => rfl
  | cons p e ih =>
    obtain ⟨s, v⟩ := p
    simp only [CEnv] at h
    rw [look_put]
    split
    · exact h.1
    · exact ih h.2
theorem CEnv.holds {m m' : Mem} {env : Env} {a : Act} (h : CEnv env) (hH : Holds m env a) : Holds m' env a := fun t => cst_rel (h.look t) (hH t)
theorem decode_high (s : ByteArray) (i : Nat) (h : i < s.size) (hc : 128 ≤ (s[i]'h).toNat) : 128 ≤ (Utf8.decode s i).1 := by
  have e : s.get! (i + 0) = s[i]'h := by
    show s.get! i = _
    simp [ByteArray.get!, getElem!_pos, h]
    rfl
  unfold Utf8.decode
  simp only [e]
  rw [if_neg (by omega)]
  split
  · split
    · assumption
    · decide
  · split
    · split
      · rename_i h1; simp only [Bool.and_eq_true, decide_eq_true_eq] at h1; simp only; omega
      · decide
    · split
      · split
        · rename_i h1; simp only [Bool.and_eq_true, decide_eq_true_eq] at h1; simp only; omega
        · decide
      · decide
section
variable {C : Ctx} {ops : Array Oper} {rest : List Oper} {env : Env} {t : Nat} {ty : TypeId} {pos : String} {after : Array Edge} {x : Operand} {s : ByteArray}
theorem op_rangeS {tt : TypeId} [hs : TS P tt] (hx : ev env x = .str s) (ht : t < C.n) (hce : CEnv env) (hm : ∀ b, ¬ C.mu b)
    (hk : ∀ (C' : Ctx) (g : Nat), C'.n = C.n → (∀ b, ¬ C'.mu b) → C'.w0.heap[g]? = some (.stringIter s 0) → C.w0.heap.size ≤ g → Below C.w0.heap.size C.w0 C'.w0 → RunsL P C' ops rest k R ⟨(t, .ro (.c (.pointer (some ⟨g, 0, none⟩)))) :: env, []⟩) :
    RunsL P C ops (⟨some t, .range tt x, ty, pos, after, none⟩ :: rest) k R ⟨env, []⟩ := by
  refine ⟨fun a w hsim => ?_⟩
  obtain ⟨h1, h2, φ, hG, hH⟩ := hsim
  have hxx := ev_c (ev_rel hH x) hx
  refine wpList_plain rfl fun K hK' => ?_
  unfold Oper.wp
  have hrun : (execOp a.eval ⟨some t, .range tt x, ty, pos, after, none⟩).run P w = .ok (.value (.pointer (some ⟨w.heap.size, 0, none⟩))) (w.iter s 0) := by
    simp [execOp, hxx, run_range_string w tt s hs.h]
  rw [hrun]
  simp only [Oper.upon]
  have hb : Below w.heap.size w (w.iter s 0) := below_one w _
  have hb0 : Below C.w0.heap.size C.w0 (w.iter s 0) := (hG.frm.below0 hm).trans (hb.mono hG.frm.size)
  refine hK' _ _ ((hk ⟨w.iter s 0, C.ok, fun _ => False, C.n⟩ w.heap.size rfl (fun _ h => h) (World.iter_heap w s 0) hG.frm.size hb0).run _ _ ?_)
  refine ⟨h1, by simp [Act.put, h2], φ, ⟨rfl, fun i j g hi => by simp at hi, fun i o hi => by simp at hi, fun i g hi => by simp at hi, ⟨rfl, rfl, rfl, Nat.le_refl _, fun _ _ _ => rfl, fun b hbb => hG.frm.new b (Nat.le_trans hG.frm.size (Nat.le_trans hb.size hbb))⟩⟩, ?_⟩
  exact (hce.holds hH).put (by rw [h2]; exact ht) (by simp [AV.rel, RV.rel])
theorem iter_world {w w' : World} {g : Nat} {o : Obj} (hg : w.heap[g]? = some o) (o' : Obj) (hw : w' = { w with heap := w.heap.setIfInBounds g o' }) : Below g w w' ∧ w'.heap[g]? = some o' ∧ w'.heap.size = w.heap.size := by
  subst hw
  have hlt : g < w.heap.size := (Array.getElem?_eq_some_iff.1 hg).1
  refine ⟨⟨rfl, rfl, rfl, by simp, fun b hb => ?_⟩, ?_, by simp⟩
  · show (w.heap.setIfInBounds g o')[b]? = _
    rw [Array.getElem?_setIfInBounds_ne (by omega)]
  · show (w.heap.setIfInBounds g o')[g]? = _
    rw [Array.getElem?_setIfInBounds_self_of_lt hlt]
theorem op_nextS {g p : Nat} (hx : ev env x = .ro (.c (.pointer (some ⟨g, 0, none⟩)))) (hg : C.w0.heap[g]? = some (.stringIter s p)) (hp : p < s.size) (ht : t < C.n) (hce : CEnv env) (hm : ∀ b, ¬ C.mu b)
    (hk : ∀ (C' : Ctx), C'.n = C.n → (∀ b, ¬ C'.mu b) → C'.w0.heap[g]? = some (.stringIter s (p + (Utf8.decode s p).2)) → Below g C.w0 C'.w0 → RunsL P C' ops rest k R ⟨(t, .ro (.tup [.bool true, .int (p : Int), .c (.int .i32 ((Utf8.decode s p).1 : Int))])) :: env, []⟩) :
    RunsL P C ops (⟨some t, .next x true, ty, pos, after, none⟩ :: rest) k R ⟨env, []⟩ := by
  refine ⟨fun a w hsim => ?_⟩
  obtain ⟨h1, h2, φ, hG, hH⟩ := hsim
  have hxx := ev_c (ev_rel hH x) hx
  have hlt : g < C.w0.heap.size := (Array.getElem?_eq_some_iff.1 hg).1
  have hb0 := hG.frm.below0 hm
  have hgw : w.heap[g]? = some (.stringIter s p) := (hb0.block g hlt).trans hg
  refine wpList_plain rfl fun K hK' => ?_
  unfold Oper.wp
  obtain ⟨k1, k2, k3⟩ := iter_world hgw (.stringIter s (p + (Utf8.decode s p).2)) rfl
  have hrun : (execOp a.eval ⟨some t, .next x true, ty, pos, after, none⟩).run P w = .ok (.value (.tuple #[.bool true, .int .i64 p, .int .i32 ((Utf8.decode s p).1 : Int)])) { w with heap := w.heap.setIfInBounds g (.stringIter s (p + (Utf8.decode s p).2)) } := by
    simp [execOp, hxx, Instr.next, getObj, setObj, Sem.run, Result.andThen, hgw, hp, goInt]
  rw [hrun]
  simp only [Oper.upon]
  have hb1 : Below g C.w0 { w with heap := w.heap.setIfInBounds g (.stringIter s (p + (Utf8.decode s p).2)) } := (hb0.mono (Nat.le_of_lt hlt)).trans k1
  refine hK' _ _ ((hk ⟨_, C.ok, fun _ => False, C.n⟩ rfl (fun _ h => h) k2 hb1).run _ _ ?_)
  refine ⟨h1, by simp [Act.put, h2], φ, ⟨rfl, fun i j g hi => by simp at hi, fun i o hi => by simp at hi, fun i g hi => by simp at hi, ⟨rfl, rfl, rfl, Nat.le_refl _, fun _ _ _ => rfl, fun b hbb => hG.frm.new b (Nat.le_trans hb1.size hbb)⟩⟩, ?_⟩
  exact (hce.holds hH).put (by rw [h2]; exact ht) (by simp [AV.rel, RV.rel, RV.rels])
theorem op_nextEnd {g p : Nat} (hx : ev env x = .ro (.c (.pointer (some ⟨g, 0, none⟩)))) (hg : C.w0.heap[g]? = some (.stringIter s p)) (hp : ¬ p < s.size) (ht : t < C.n) (hm : ∀ b, ¬ C.mu b)
    (hk : RunsL P C ops rest k R ⟨(t, .ro (.tup [.bool false])) :: env, []⟩) :
    RunsL P C ops (⟨some t, .next x true, ty, pos, after, none⟩ :: rest) k R ⟨env, []⟩ := by
  refine ⟨fun a w hsim => ?_⟩
  obtain ⟨h1, h2, φ, hG, hH⟩ := hsim
  have hxx := ev_c (ev_rel hH x) hx
  have hlt : g < C.w0.heap.size := (Array.getElem?_eq_some_iff.1 hg).1
  have hgw : w.heap[g]? = some (.stringIter s p) := ((hG.frm.below0 hm).block g hlt).trans hg
  refine wpList_plain rfl fun K hK' => ?_
  unfold Oper.wp
  have hrun : (execOp a.eval ⟨some t, .next x true, ty, pos, after, none⟩).run P w = .ok (.value (.tuple #[.bool false])) w := by
    simp [execOp, hxx, Instr.next, getObj, Sem.run, Result.andThen, hgw, hp]
  rw [hrun]
  simp only [Oper.upon]
  exact hK' _ _ (hk.run _ _ ⟨h1, by simp [Act.put, h2], φ, hG, hH.put (by rw [h2]; exact ht) (by simp [AV.rel, RV.rel, RV.rels])⟩)
end
theorem endsB {C C' : Ctx} {fn : Func} {R0 : RR → Prop} {S : St} {t : Nat} {v : Value} (hB : Below C.w0.heap.size C.w0 C'.w0) (hm : ∀ b, ¬ C'.mu b) (hr : fn.results = #[.tmp t]) (hx : look S.env t = .ro (.c v)) (hR : R0 (.ro (.c v))) : ∀ a w, Sim C' S a w → Ends P C fn R0 a w := by
  intro a w hs
  obtain ⟨h1, v', h2, rr, bs, rfl, h4, h5, h6, h7⟩ := ends_ro (R := fun r => r = .ro (.c v)) hm hr hx rfl a w hs
  simp only [RR.rel, RV.rel] at h4
  obtain ⟨rfl, rfl⟩ := h4
  exact ⟨h1, v', h2, .ro (.c v'), [], hR, by simp [RR.rel, RV.rel], by simp, by simp, hB.trans (h7.mono hB.size)⟩
end
end Go.Proofs.Ytnecoghfhcimeaa
/- Arrays of truth values in a frame. Over any program. -/
namespace Go.Proofs.Ytnecoghfhcimeaa
set_option linter.unusedSimpArgs false
set_option linter.unusedVariables false
open Go.RowKit
open AV (Mem Keeps)
def bools (n : Nat) (u : Nat → Bool) : List AV := (List.range n).map fun j => .bool (u j)
def boolsR (n : Nat) (u : Nat → Bool) : List RV := (List.range n).map fun j => .bool (u j)
def put1 (u : Nat → Bool) (k : Nat) (b : Bool) : Nat → Bool := fun j => if j = k then b else u j
theorem bools_len (n : Nat) (u : Nat → Bool) : (bools n u).length = n := by simp [bools]
theorem boolsR_len (n : Nat) (u : Nat → Bool) : (boolsR n u).length = n := by simp [boolsR]
theorem bools_at {n : Nat} {u : Nat → Bool} {k : Nat} (h : k < n) : (bools n u)[k]? = some (.bool (u k)) := by simp [bools, h]
theorem boolsR_at {n : Nat} {u : Nat → Bool} {k : Nat} (h : k < n) : (boolsR n u)[k]? = some (.bool (u k)) := by simp [boolsR, h]
theorem bools_map (n : Nat) (u : Nat → Bool) : bools n u = (boolsR n u).map .ro := by simp [bools, boolsR]
theorem bools_one (n : Nat) (u : Nat → Bool) : (boolsR n u).all RV.one = true := by
  rw [List.all_eq_true]
  intro x hx
  obtain ⟨j, _, rfl⟩ := List.mem_map.1 hx
  rfl
theorem bools_set {n : Nat} {u : Nat → Bool} {k : Nat} (b : Bool) : (bools n u).set k (.bool b) = bools n (put1 u k b) := by
  apply List.ext_getElem?
  intro j
  rw [List.getElem?_set]
  by_cases hj : j < n
  · rw [bools_at hj, bools_len]
    by_cases e : k = j
    · subst e; rw [if_pos rfl, if_pos hj, bools_at hj]; simp [put1]
    · rw [if_neg e, bools_at hj]
      have : ¬ j = k := fun h => e h.symm
      simp [put1, this]
  · have h1 : (bools n (put1 u k b))[j]? = none := by rw [List.getElem?_eq_none]; rw [bools_len]; omega
    have h2 : (bools n u)[j]? = none := by rw [List.getElem?_eq_none]; rw [bools_len]; omega
    rw [h1, h2]
    split
    · split
      · rename_i h; rw [bools_len] at h; omega
      · rfl
    · rfl
theorem bools_zero (n : Nat) : ((List.replicate n (Value.bool false)).map fun v => AV.ro (.c v)) = bools n fun _ => false := by
  apply List.ext_getElem?
  intro j
  by_cases hj : j < n
  · rw [bools_at hj]; simp [hj]
  · have h1 : (bools n fun _ => false)[j]? = none := by rw [List.getElem?_eq_none]; rw [bools_len]; omega
    rw [h1, List.getElem?_eq_none]; simp; omega
theorem setsAt_nil : ∀ (vs cs : List AV) (off : Nat), off + vs.length = cs.length → setsAt cs off vs = cs.take off ++ vs
  | [], cs, off, h => by simp [setsAt]; rw [List.take_of_length_le]; simp at h; omega
  | v :: vs, cs, off, h => by
    rw [setsAt, setsAt_nil vs _ (off + 1) (by simp at h ⊢; omega)]
    have hlt : off < cs.length := by simp at h; omega
    rw [List.take_succ_eq_append_getElem (by simpa using hlt), List.take_set_of_le (Nat.le_refl _)]
    simp
theorem setsAt_all {vs cs : List AV} (h : vs.length = cs.length) : setsAt cs 0 vs = vs := by
  rw [setsAt_nil vs cs 0 (by omega)]; simp
attribute [irreducible] bools boolsR
section
variable {P : Program} {C : Ctx} {ops : Array Oper} {rest : List Oper} {k : List Item} {R : Act → World → Prop} {env : Env} {σ : List Ob} {t : Nat} {ty : TypeId} {pos : String} {after : Array Edge} {gd : Option (Nat × Bool)}
theorem pu_loadA {tt : TypeId} {x : Operand} {i n : Nat} {o : Ob} {u : Nat → Bool} [TN P tt n] (hx : ev env x = .obj i 0) (ho : σ[i]? = some o) (hc : o.cs = bools n u) :
    Pur P C ⟨some t, .load tt x, ty, pos, after, gd⟩ env σ (.ro (.agg (boolsR n u))) :=
  pu_loadN_objR hx ho (hc.trans (bools_map n u)) (boolsR_len n u)
theorem pu_load_at {tt : TypeId} {x : Operand} {i off n : Nat} {o : Ob} {u : Nat → Bool} [T1 P tt] (hx : ev env x = .obj i off) (ho : σ[i]? = some o) (hc : o.cs = bools n u) (hlt : off < n) : Pur P C ⟨some t, .load tt x, ty, pos, after, gd⟩ env σ (.bool (u off)) :=
  pu_load_obj hx ho (by rw [hc]; exact bools_at hlt)
theorem op_storeA {tt : TypeId} {x y : Operand} {i n : Nat} {o : Ob} {u : Nat → Bool} [TN P tt n] (hx : ev env x = .obj i 0) (hy : ev env y = .ro (.agg (boolsR n u))) (ho : σ[i]? = some o) (hl : o.cs.length = n)
    (hk : RunsL P C ops rest k R ⟨env, σ.set i ⟨o.t, o.sz, bools n u⟩⟩) : RunsL P C ops (⟨none, .store tt x y, ty, pos, after, none⟩ :: rest) k R ⟨env, σ⟩ :=
  op_storeN (vs := (boolsR n u).map .ro) hx (by rw [hy]; simp only [cells?]; rw [if_pos (bools_one n u)]) (by simp [boolsR_len]) ho (by omega) (by
    rw [setsAt_all (by simp [boolsR_len, hl]), ← bools_map]; exact hk)
theorem op_store1 {tt : TypeId} {x y : Operand} {i off n : Nat} {o : Ob} {u : Nat → Bool} {b : Bool} [T1 P tt] (hx : ev env x = .obj i off) (hy : ev env y = .bool b) (ho : σ[i]? = some o) (hc : o.cs = bools n u) (hlt : off < n)
    (hk : RunsL P C ops rest k R ⟨env, σ.set i ⟨o.t, o.sz, bools n (put1 u off b)⟩⟩) : RunsL P C ops (⟨none, .store tt x y, ty, pos, after, none⟩ :: rest) k R ⟨env, σ⟩ :=
  op_store hx hy rfl ho (by rw [hc, bools_len]; exact hlt) (by rw [hc, bools_set]; exact hk)
theorem pu_indexA {tt e : TypeId} {x ix : Operand} {kd : IntKind} {p : Int} {n m : Nat} {u : Nat → Bool} [h1 : T1 P e] (hu : P.underlying tt = some (.array m e)) (hx : ev env x = .ro (.agg (boolsR n u))) (hi : ev env ix = .ro (.c (.int kd p))) (h0 : 0 ≤ p) (hlt : p < m) (hnm : m = n) :
    Pur P C ⟨some t, .index tt x ix, ty, pos, after, gd⟩ env σ (.bool (u p.toNat)) :=
  Pur.of fun a mm hG hσ hH => by
    have h := hH x (by simp [Op.operands])
    rw [hx] at h
    simp only [AV.rel, RV.rel] at h
    obtain ⟨us, e, hr⟩ := h
    obtain ⟨v, k1, k2⟩ := RV.rels_at _ _ hr p.toNat _ (boolsR_at (u := u) (by omega : p.toNat < n))
    simp only [RV.rel] at k2
    subst k2
    refine ⟨.bool (u p.toNat), ?_, by simp [AV.rel, RV.rel]⟩
    have k1' : us[p.toNat]? = some (.bool (u p.toNat)) := by simpa using k1
    simp [execOp, e, ev_c (hH _ (by simp [Op.operands])) hi, Instr.index, asIntOf, run_underlying hu, h0, hlt, run_size1 (P := P), part, run_isAgg1 (P := P), k1']
end
end Go.Proofs.Ytnecoghfhcimeaa
/- An empty literal of a slice is a row of the frame's own. Over any program. -/
namespace Go.Proofs.Ytnecoghfhcimeaa
set_option linter.unusedSimpArgs false
set_option linter.unusedVariables false
open Go.RowKit
open AV (Mem Keeps)
def FreeI (i : Nat) : List Ob → Prop
  | [] => True
  | o :: os => AV.onlys (fun k => k ≠ i) o.cs ∧ FreeI i os
theorem FreeI.at_ {i : Nat} : ∀ {os : List Ob}, FreeI i os → ∀ (j : Nat) o, os[j]? = some o → AV.onlys (fun k => k ≠ i) o.cs
  | [], _, j, o, hj => by simp at hj
  | o :: os, h, j, o', hj => by
    simp only [FreeI] at h
    cases j with
    | zero => simp at hj; subst hj; exact h.1
    | succ j => exact FreeI.at_ h.2 j o' (by simpa using hj)
section
variable {P : Program} {C : Ctx} {ops : Array Oper} {rest : List Oper} {k : List Item} {R : Act → World → Prop} {env : Env} {σ : List Ob} {t : Nat} {ty : TypeId} {pos : String} {after : Array Edge}
theorem op_callOR {f : FuncId} {fn : Func} {xs : Array Operand} {ats : Array TypeId} {args : List RV} {rr : RR} [hfn : FN P f fn] (hf : AC P f args fun r => r = rr) (ha : xs.toList.map (ev env) = args.map .ro) (ht : t < C.n)
    (hk : RunsL P C ops rest k R ⟨(t, instA σ.length rr) :: env, σ ++ obs rr⟩) :
    RunsL P C ops (⟨some t, .call { callee := .value (.func f), args := xs, argTypes := ats }, ty, pos, after, none⟩ :: rest) k R ⟨env, σ⟩ := op_callO hf (ha ▸ FitsL.ros args) ht hk
theorem pu_len_seqN {tt e : TypeId} {z : Value} {sz bytes sz' : Nat} {x : Operand} {els : List (List RV)} {gd : Option (Nat × Bool)} (n : Nat) [hs : SL P tt e z sz bytes] (hx : ev env x = .ro (.seq sz' els)) (hl : els.length = n) :
    Pur P C ⟨some t, .call { callee := .builtin .len, args := #[x], argTypes := #[tt] }, ty, pos, after, gd⟩ env σ (.int (n : Int)) := hl ▸ pu_len_seq hx
theorem op_appendA {tt e : TypeId} {z : Value} {bytes i : Nat} {o : Ob} {rs : List RV} {els : List (List RV)} {x y : Operand} [hs : SL P tt e z 1 bytes] (hx : ev env x = .own i) (ho : σ[i]? = some o) (hc : allRo o.cs = some rs) (hy : ev env y = .ro (.seq 1 els)) (het : o.t = e) (hes : o.sz = 1)
    (hfree : FreeI i (σ.set i ⟨o.t, o.sz, []⟩)) (b1 : rs.length + els.length ≤ 4294967296) (b2 : Nat.ble bytes 256 = true) (ht : t < C.n)
    (hk : RunsL P C ops rest k R ⟨(t, .own i) :: killEnv i env, σ.set i ⟨e, 1, (rs ++ els.flatten).map .ro⟩⟩) :
    RunsL P C ops (⟨some t, .call { callee := .builtin .append, args := #[x, y], argTypes := #[tt, tt] }, ty, pos, after, none⟩ :: rest) k R ⟨env, σ⟩ :=
  op_append (n := rs.length) hx ho (allRo_eq hc) hy het hes (Nat.mul_one _).symm (fun j ob hj => by
    by_cases hji : j = i
    · subst hji
      rw [ho] at hj; injection hj with hj; subst hj
      rw [allRo_eq hc]; exact onlys_ro _ _
    · exact hfree.at_ j ob (by rw [List.getElem?_set_ne (Ne.symm hji)]; exact hj)) (by omega) (by
    have h := Nat.le_of_ble_eq_true b2
    have := Nat.mul_le_mul b1 h
    omega) ht hk
theorem run_build0 {tt e : TypeId} {z : Value} {sz bytes : Nat} [hs : SL P tt e z sz bytes] (w : World) : (Instr.buildSlice tt 0 #[]).run P w = .ok (.slice (some ⟨w.heap.size, 0, none⟩) 0 0) (w.alloc (.cells #[] e)) := by
  obtain ⟨i, hi, hz0, hsz', hb⟩ := hs.el.hi
  simp [Instr.buildSlice, run_underlying hs.el.ht, sizeOf, typeInfo, hi, newRow, newObj, Instr.fill, show Array.range 0 = #[] by rfl]
  rfl
theorem op_build0 {tt e : TypeId} {z : Value} {sz bytes : Nat} [hs : SL P tt e z sz bytes] (ht : t < C.n) (hk : RunsL P C ops rest k R ⟨(t, .own σ.length) :: env, σ ++ [⟨e, sz, []⟩]⟩) :
    RunsL P C ops (⟨some t, .buildSlice tt 0 #[], ty, pos, after, none⟩ :: rest) k R ⟨env, σ⟩ :=
  RunsL.val rfl rfl ht (fun a w φ hG hH => by
    have hg := good_alloc hG #[] e sz [] (by simp) (fun j v hj => by simp at hj)
    refine ⟨_, _, _, by simp only [execOp, Sem.run_bind]; rw [show (#[] : Array (Nat × Operand)).map (fun p => (p.1, a.eval p.2)) = #[] from by simp, run_build0 (P := P) (tt := tt) w]; rfl, hg.1, hg.2, ?_⟩
    simp only [AV.rel]
    exact ⟨⟨e, sz, []⟩, 0, by rw [List.getElem?_append_right (Nat.le_refl _), Nat.sub_self]; rfl, by simp, hs.el.hs, .inr ⟨w.heap.size, 0, _, upd_eq, rfl, heap_alloc_new w _, Nat.le_refl _, Nat.zero_le _, by simp⟩⟩) hk
end
end Go.Proofs.Ytnecoghfhcimeaa
/- Functions that are handed objects of their caller's and write into them. Over any program. -/
namespace Go.Proofs.Ytnecoghfhcimeaa
set_option linter.unusedSimpArgs false
set_option linter.unusedVariables false
open Go.RowKit
open AV (Mem Keeps)
theorem good_junk {C : Ctx} {w : World} {φ : Nat → Option Nat} {σ : List Ob} (hG : Good C ⟨w, φ, σ, C.ok⟩) {j p : Nat} {o : Ob} (ho : σ[j]? = some o) :
    Good C ⟨w, φ, σ.set j ⟨o.t, o.sz, o.cs.set p .junk⟩, C.ok⟩ ∧ Keeps (fun _ => True) ⟨w, φ, σ, C.ok⟩ ⟨w, φ, σ.set j ⟨o.t, o.sz, o.cs.set p .junk⟩, C.ok⟩ := by
  have hj := (List.getElem?_eq_some_iff.1 ho).1
  have hK : Keeps (fun _ => True) ⟨w, φ, σ, C.ok⟩ ⟨w, φ, σ.set j ⟨o.t, o.sz, o.cs.set p .junk⟩, C.ok⟩ := by
    refine ⟨⟨Nat.le_refl _, fun b _ hb => ⟨⟨hb.1, fun i hi => hb.2 i (by simpa using hi)⟩, rfl⟩⟩, fun i _ hi => ⟨by simpa using hi, rfl⟩, fun i ob _ hi => ?_, fun i g us t _ _ _ hh => ⟨us, hh, rfl⟩⟩
    by_cases e : i = j
    · subst e
      have : ob = o := Option.some.inj (hi.symm.trans ho)
      subst this
      exact ⟨ob.cs.set p .junk, by simp [hj], by simp⟩
    · exact ⟨ob.cs, by simp only [List.getElem?_set_ne (Ne.symm e)]; exact hi, rfl⟩
  refine ⟨⟨rfl, fun a b g ha hb => hG.inj a b g (by simpa using ha) (by simpa using hb), fun i ob hi => ?_, fun i g hi => hG.mine i g (by simpa using hi), hG.frm⟩, hK⟩
  by_cases e : i = j
  · subst e
    simp only [List.getElem?_set_self hj, Option.some.injEq] at hi
    subst hi
    have h := hG.ob i o ho
    show ObRel _ _ (φ i)
    simp only at h
    cases hφ : φ i with
    | none =>
      rw [hφ] at h
      simp only [ObRel] at h ⊢
      simp [h]
    | some g =>
      rw [hφ] at h
      obtain ⟨us, h1, h2, h3⟩ := h
      refine ⟨us, h1, by simpa using h2, fun k v hk => ?_⟩
      simp only [List.getElem?_set] at hk
      split at hk
      · rename_i hpk
        subst hpk
        split at hk
        · rename_i hlt
          injection hk with hk; subst hk
          obtain ⟨u, e1, e2, _⟩ := h3 p _ (List.getElem?_eq_getElem hlt)
          exact ⟨u, e1, e2, by simp [AV.rel]⟩
        · cases hk
      · obtain ⟨u, e1, e2, e3⟩ := h3 k v hk
        exact ⟨u, e1, e2, AV.rel_keeps hK _ _ (AV.only_true _) e3⟩
  · rw [List.getElem?_set_ne (Ne.symm e)] at hi
    exact (hG.ob i ob hi).keeps hK fun _ _ => rfl
section
variable {P : Program} {C : Ctx} {ops : Array Oper} {rest : List Oper} {k : List Item} {R : Act → World → Prop} {env : Env} {σ : List Ob} {t : Nat} {ty : TypeId} {pos : String} {after : Array Edge}
theorem RunsL.junk {l : List Oper} (j p : Nat) {o : Ob} (ho : σ[j]? = some o) (hk : RunsL P C ops l k R ⟨env, σ.set j ⟨o.t, o.sz, o.cs.set p .junk⟩⟩) : RunsL P C ops l k R ⟨env, σ⟩ :=
  ⟨fun a w ⟨h1, h2, φ, h3, h4⟩ => by
    obtain ⟨g1, g2⟩ := good_junk (p := p) h3 ho
    exact hk.run a w ⟨h1, h2, φ, g1, h4.keeps g2⟩⟩
end
section
variable {P : Program} {C : Ctx} {fn : Func} {S : St} {gs : Nat → Nat} {st : List Nat} {σ' : List Ob} {v : AV}
end
mutual
def AV.ren (r : Nat → Nat) : AV → AV
  | .ro v => .ro v
  | .junk => .junk
  | .obj i off => .obj (r i) off
  | .pin i off g => .pin (r i) off g
  | .own i => .own (r i)
  | .agg cs => .agg (AV.rens r cs)
  | .tup vs => .tup (AV.rens r vs)
  | .fn f a b => .fn f (AV.rens r a) (AV.rens r b)
def AV.rens (r : Nat → Nat) : List AV → List AV
  | [] => []
  | x :: xs => AV.ren r x :: AV.rens r xs
end
def Ob.ren (r : Nat → Nat) (o : Ob) : Ob := ⟨o.t, o.sz, AV.rens r o.cs⟩
theorem rens_len (r : Nat → Nat) : ∀ l : List AV, (AV.rens r l).length = l.length
  | [] => rfl
  | x :: xs => by simp [AV.rens, rens_len r xs]
theorem rens_at (r : Nat → Nat) : ∀ (l : List AV) (j : Nat), (AV.rens r l)[j]? = (l[j]?).map (AV.ren r)
  | [], j => by simp [AV.rens]
  | x :: xs, 0 => by simp [AV.rens]
  | x :: xs, j + 1 => by simp [AV.rens, rens_at r xs j]
mutual
def AV.rid (lent st : Nat → Bool) : AV → AV
  | .ro v => .ro v
  | .junk => .junk
  | .obj i off => match lent i, st i with
    | true, false => .junk
    | _, _ => .obj i off
  | .pin i off g => match lent i, st i with
    | true, false => .junk
    | _, _ => .pin i off g
  | .own i => match lent i with
    | true => .junk
    | false => .own i
  | .agg cs => .agg (AV.rids lent st cs)
  | .tup vs => .tup (AV.rids lent st vs)
  | .fn f a b => .fn f (AV.rids lent st a) (AV.rids lent st b)
def AV.rids (lent st : Nat → Bool) : List AV → List AV
  | [] => []
  | x :: xs => AV.rid lent st x :: AV.rids lent st xs
end
section
variable {m m' : Mem} {r : Nat → Nat} {lent st : Nat → Bool}
mutual
theorem rel_unren {n : Nat} (hw : m'.w = m.w) (hok : ∀ b, m.ok b → m'.ok b) (hφ : ∀ i, i < n → m'.φ i = m.φ (r i)) (hn : m'.σ.length = n) (hσ : ∀ (i : Nat) o, i < n → m.σ[r i]? = some o → ∃ cs, m'.σ[i]? = some ⟨o.t, o.sz, cs⟩ ∧ cs.length = o.cs.length) :
    ∀ (v : AV) (u : Value), v.only (fun i => i < n) → AV.rel m (v.ren r) u → AV.rel m' v u
  | .ro v, u, _, h => by
    simp only [AV.ren, AV.rel] at h ⊢
    exact RV.rel_mono ⟨by rw [hw]; exact Nat.le_refl _, fun b _ hb => ⟨hok b hb, by rw [hw]⟩⟩ v u h
  | .junk, u, _, _ => by simp [AV.rel]
  | .obj i off, u, ho, h => by
    simp only [AV.ren, AV.rel, AV.only] at h ho ⊢
    obtain ⟨_, g, h2, h3⟩ := h
    exact ⟨by omega, g, (hφ i ho).trans h2, h3⟩
  | .pin i off g, u, ho, h => by
    simp only [AV.ren, AV.rel, AV.only] at h ho ⊢
    obtain ⟨_, h2, h3⟩ := h
    exact ⟨by omega, (hφ i ho).trans h2, h3⟩
  | .own i, u, ho, h => by
    simp only [AV.ren, AV.rel, AV.only] at h ho ⊢
    obtain ⟨ob, k, h1, h2, h3, h4⟩ := h
    obtain ⟨cs, e1, e2⟩ := hσ i ob ho h1
    refine ⟨_, k, e1, by simp only; rw [e2]; exact h2, h3, ?_⟩
    rcases h4 with ⟨q1, q2, q3⟩ | ⟨g, cap, us, q1, q2, q3, q4⟩
    · exact .inl ⟨q1, q2, (hφ i ho).trans q3⟩
    · exact .inr ⟨g, cap, us, (hφ i ho).trans q1, q2, by rw [hw]; exact q3, q4⟩
  | .agg cs, u, ho, h => by
    simp only [AV.ren, AV.rel, AV.only] at h ho ⊢
    obtain ⟨us, e, h1⟩ := h
    exact ⟨us, e, rels_unren hw hok hφ hn hσ cs _ ho h1⟩
  | .tup cs, u, ho, h => by
    simp only [AV.ren, AV.rel, AV.only] at h ho ⊢
    obtain ⟨us, e, h1⟩ := h
    exact ⟨us, e, rels_unren hw hok hφ hn hσ cs _ ho h1⟩
  | .fn f a b, u, ho, h => by
    simp only [AV.ren, AV.rel, AV.only] at h ho ⊢
    obtain ⟨us, vs, e, h1, h2⟩ := h
    exact ⟨us, vs, e, rels_unren hw hok hφ hn hσ a _ ho.1 h1, rels_unren hw hok hφ hn hσ b _ ho.2 h2⟩
theorem rels_unren {n : Nat} (hw : m'.w = m.w) (hok : ∀ b, m.ok b → m'.ok b) (hφ : ∀ i, i < n → m'.φ i = m.φ (r i)) (hn : m'.σ.length = n) (hσ : ∀ (i : Nat) o, i < n → m.σ[r i]? = some o → ∃ cs, m'.σ[i]? = some ⟨o.t, o.sz, cs⟩ ∧ cs.length = o.cs.length) :
    ∀ (vs : List AV) (us : List Value), AV.onlys (fun i => i < n) vs → AV.rels m (AV.rens r vs) us → AV.rels m' vs us
  | [], us, _, h => by simpa [AV.rens, AV.rels] using h
  | x :: xs, us, ho, h => by
    simp only [AV.rens, AV.rels, AV.onlys] at h ho ⊢
    obtain ⟨u, us', e, h1, h2⟩ := h
    exact ⟨u, us', e, rel_unren hw hok hφ hn hσ x u ho.1 h1, rels_unren hw hok hφ hn hσ xs us' ho.2 h2⟩
end
mutual
theorem rel_ren {n : Nat} (hw : m'.w = m.w) (hok : ∀ b, m.ok b → m'.ok b) (hφ : ∀ i, i < n → m'.φ (r i) = m.φ i) (hr : ∀ i, i < n → r i < m'.σ.length) (hn : m.σ.length = n) (hσ : ∀ (i : Nat) o, m.σ[i]? = some o → ∃ cs, m'.σ[r i]? = some ⟨o.t, o.sz, cs⟩ ∧ cs.length = o.cs.length) :
    ∀ (v : AV) (u : Value), AV.rel m v u → AV.rel m' (v.ren r) u
  | .ro v, u, h => by
    simp only [AV.ren, AV.rel] at h ⊢
    exact RV.rel_mono ⟨by rw [hw]; exact Nat.le_refl _, fun b _ hb => ⟨hok b hb, by rw [hw]⟩⟩ v u h
  | .junk, u, _ => by simp [AV.rel, AV.ren]
  | .obj i off, u, h => by
    simp only [AV.ren, AV.rel] at h ⊢
    obtain ⟨h1, g, h2, h3⟩ := h
    exact ⟨hr i (by omega), g, (hφ i (by omega)).trans h2, h3⟩
  | .pin i off g, u, h => by
    simp only [AV.ren, AV.rel] at h ⊢
    obtain ⟨h1, h2, h3⟩ := h
    exact ⟨hr i (by omega), (hφ i (by omega)).trans h2, h3⟩
  | .own i, u, h => by
    simp only [AV.ren, AV.rel] at h ⊢
    obtain ⟨ob, k, h1, h2, h3, h4⟩ := h
    obtain ⟨cs, e1, e2⟩ := hσ i ob h1
    have hi : i < n := by have := (List.getElem?_eq_some_iff.1 h1).1; omega
    refine ⟨_, k, e1, by simp only; rw [e2]; exact h2, h3, ?_⟩
    rcases h4 with ⟨q1, q2, q3⟩ | ⟨g, cap, us, q1, q2, q3, q4⟩
    · exact .inl ⟨q1, q2, (hφ i hi).trans q3⟩
    · exact .inr ⟨g, cap, us, (hφ i hi).trans q1, q2, by rw [hw]; exact q3, q4⟩
  | .agg cs, u, h => by
    simp only [AV.ren, AV.rel] at h ⊢
    obtain ⟨us, e, h1⟩ := h
    exact ⟨us, e, rels_ren hw hok hφ hr hn hσ cs _ h1⟩
  | .tup cs, u, h => by
    simp only [AV.ren, AV.rel] at h ⊢
    obtain ⟨us, e, h1⟩ := h
    exact ⟨us, e, rels_ren hw hok hφ hr hn hσ cs _ h1⟩
  | .fn f a b, u, h => by
    simp only [AV.ren, AV.rel] at h ⊢
    obtain ⟨us, vs, e, h1, h2⟩ := h
    exact ⟨us, vs, e, rels_ren hw hok hφ hr hn hσ a _ h1, rels_ren hw hok hφ hr hn hσ b _ h2⟩
theorem rels_ren {n : Nat} (hw : m'.w = m.w) (hok : ∀ b, m.ok b → m'.ok b) (hφ : ∀ i, i < n → m'.φ (r i) = m.φ i) (hr : ∀ i, i < n → r i < m'.σ.length) (hn : m.σ.length = n) (hσ : ∀ (i : Nat) o, m.σ[i]? = some o → ∃ cs, m'.σ[r i]? = some ⟨o.t, o.sz, cs⟩ ∧ cs.length = o.cs.length) :
    ∀ (vs : List AV) (us : List Value), AV.rels m vs us → AV.rels m' (AV.rens r vs) us
  | [], us, h => by simpa [AV.rens, AV.rels] using h
  | x :: xs, us, h => by
    simp only [AV.rens, AV.rels] at h ⊢
    obtain ⟨u, us', e, h1, h2⟩ := h
    exact ⟨u, us', e, rel_ren hw hok hφ hr hn hσ x u h1, rels_ren hw hok hφ hr hn hσ xs us' h2⟩
end
mutual
theorem rel_rid (hro : RV.Kept m.w m.ok m'.w m'.ok) (hlen : m'.σ.length = m.σ.length) (hφ : ∀ i, i < m.σ.length → lent i = false ∨ st i = true → m'.φ i = m.φ i) (hσ : ∀ i, lent i = false → m'.σ[i]? = m.σ[i]?) (hb : ∀ i g, i < m.σ.length → lent i = false → m.φ i = some g → m'.w.heap[g]? = m.w.heap[g]?) :
    ∀ (v : AV) (u : Value), AV.rel m v u → AV.rel m' (v.rid lent st) u
  | .ro v, u, h => by
    simp only [AV.rid, AV.rel] at h ⊢
    exact RV.rel_mono hro v u h
  | .junk, u, _ => by simp [AV.rel, AV.rid]
  | .obj i off, u, h => by
    have key : lent i = false ∨ st i = true → AV.rel m' (.obj i off) u := fun hk => by
      simp only [AV.rel] at h ⊢
      obtain ⟨h1, g, h2, h3⟩ := h
      exact ⟨by omega, g, (hφ i h1 hk).trans h2, h3⟩
    unfold AV.rid
    cases h1 : lent i <;> cases h2 : st i <;> first | exact key (.inl h1) | exact key (.inr h2) | simp [AV.rel]
  | .pin i off g, u, h => by
    have key : lent i = false ∨ st i = true → AV.rel m' (.pin i off g) u := fun hk => by
      simp only [AV.rel] at h ⊢
      obtain ⟨h1, h2, h3⟩ := h
      exact ⟨by omega, (hφ i h1 hk).trans h2, h3⟩
    unfold AV.rid
    cases h1 : lent i <;> cases h2 : st i <;> first | exact key (.inl h1) | exact key (.inr h2) | simp [AV.rel]
  | .own i, u, h => by
    have key : lent i = false → AV.rel m' (.own i) u := fun hk => by
      simp only [AV.rel] at h ⊢
      obtain ⟨ob, k, h1, h2, h3, h4⟩ := h
      have hi := (List.getElem?_eq_some_iff.1 h1).1
      refine ⟨ob, k, (hσ i hk).trans h1, h2, h3, ?_⟩
      rcases h4 with ⟨q1, q2, q3⟩ | ⟨g, cap, us, q1, q2, q3, q4⟩
      · exact .inl ⟨q1, q2, (hφ i hi (.inl hk)).trans q3⟩
      · exact .inr ⟨g, cap, us, (hφ i hi (.inl hk)).trans q1, q2, (hb i g hi hk q1).trans q3, q4⟩
    unfold AV.rid
    cases h1 : lent i <;> first | exact key h1 | simp [AV.rel]
  | .agg cs, u, h => by
    simp only [AV.rid, AV.rel] at h ⊢
    obtain ⟨us, e, h1⟩ := h
    exact ⟨us, e, rels_rid hro hlen hφ hσ hb cs _ h1⟩
  | .tup cs, u, h => by
    simp only [AV.rid, AV.rel] at h ⊢
    obtain ⟨us, e, h1⟩ := h
    exact ⟨us, e, rels_rid hro hlen hφ hσ hb cs _ h1⟩
  | .fn f a b, u, h => by
    simp only [AV.rid, AV.rel] at h ⊢
    obtain ⟨us, vs, e, h1, h2⟩ := h
    exact ⟨us, vs, e, rels_rid hro hlen hφ hσ hb a _ h1, rels_rid hro hlen hφ hσ hb b _ h2⟩
theorem rels_rid (hro : RV.Kept m.w m.ok m'.w m'.ok) (hlen : m'.σ.length = m.σ.length) (hφ : ∀ i, i < m.σ.length → lent i = false ∨ st i = true → m'.φ i = m.φ i) (hσ : ∀ i, lent i = false → m'.σ[i]? = m.σ[i]?) (hb : ∀ i g, i < m.σ.length → lent i = false → m.φ i = some g → m'.w.heap[g]? = m.w.heap[g]?) :
    ∀ (vs : List AV) (us : List Value), AV.rels m vs us → AV.rels m' (AV.rids lent st vs) us
  | [], us, h => by simpa [AV.rids, AV.rels] using h
  | x :: xs, us, h => by
    simp only [AV.rids, AV.rels] at h ⊢
    obtain ⟨u, us', e, h1, h2⟩ := h
    exact ⟨u, us', e, rel_rid hro hlen hφ hσ hb x u h1, rels_rid hro hlen hφ hσ hb xs us' h2⟩
end
end
def rof (ι : List Nat) (i : Nat) : Nat := (ι[i]?).getD 0
def lentB (ι : List Nat) (i : Nat) : Bool := ι.any fun j => Nat.beq j i
def stB' (ι st : List Nat) (i : Nat) : Bool := st.any fun j => Nat.beq (rof ι j) i
def LentAt (ι : List Nat) (σ : List Ob) : List Ob → Nat → Prop
  | [], _ => True
  | o :: os, j => σ[rof ι j]? = some (o.ren (rof ι)) ∧ LentAt ι σ os (j + 1)
theorem LentAt.at_ {ι : List Nat} {σ : List Ob} : ∀ {os : List Ob} {j : Nat}, LentAt ι σ os j → ∀ (k : Nat) o, os[k]? = some o → σ[rof ι (j + k)]? = some (o.ren (rof ι))
  | [], j, _, k, o, h => by simp at h
  | x :: os, j, hl, k, o, h => by
    simp only [LentAt] at hl
    cases k with
    | zero => simp at h; subst h; exact hl.1
    | succ k =>
      simp at h
      have := LentAt.at_ hl.2 k o h
      rwa [show j + 1 + k = j + (k + 1) by omega] at this
def FreeR (ι st : List Nat) : Nat → List Ob → Prop
  | _, [] => True
  | i, o :: os => (lentB ι i = true ∨ AV.rids (lentB ι) (stB' ι st) o.cs = o.cs) ∧ FreeR ι st (i + 1) os
theorem FreeR.at_ {ι st : List Nat} : ∀ {os : List Ob} {i : Nat}, FreeR ι st i os → ∀ (k : Nat) o, os[k]? = some o → lentB ι (i + k) = true ∨ AV.rids (lentB ι) (stB' ι st) o.cs = o.cs
  | [], i, _, k, o, h => by simp at h
  | x :: os, i, hl, k, o, h => by
    simp only [FreeR] at hl
    cases k with
    | zero => simp at h; subst h; exact hl.1
    | succ k =>
      simp at h
      have := FreeR.at_ hl.2 k o h
      rwa [show i + 1 + k = i + (k + 1) by omega] at this
structure Lent (ι st : List Nat) (σ σ0 σ1 : List Ob) : Prop where
  len : Nat.beq σ0.length ι.length = true
  len1 : Nat.beq σ1.length ι.length = true
  lt : (ι.all fun i => Nat.ble (i + 1) σ.length) = true
  inj : ι.Nodup
  at_ : LentAt ι σ σ0 0
  closed : FreeO σ0.length σ0
  stl : (st.all fun j => Nat.ble (j + 1) ι.length) = true
  free : FreeR ι st 0 σ
def unpin : AV → AV
  | .pin i off _ => .obj i off
  | v => v
theorem unpin_rel {m : Mem} {v : AV} {u : Value} (h : AV.rel m v u) : AV.rel m (unpin v) u := by
  cases v <;> simp only [unpin] <;> try exact h
  case pin i off g =>
    simp only [AV.rel] at h ⊢
    exact ⟨h.1, g, h.2.1, h.2.2⟩
section
variable {P : Program} {C : Ctx} {ops : Array Oper} {rest : List Oper} {k : List Item} {R : Act → World → Prop} {env : Env} {σ : List Ob} {t : Nat} {ty : TypeId} {pos : String} {after : Array Edge}
end
end Go.Proofs.Ytnecoghfhcimeaa
/- Functions that are handed the first objects of their caller's. Over any program. -/
namespace Go.Proofs.Ytnecoghfhcimeaa
set_option linter.unusedSimpArgs false
set_option linter.unusedVariables false
open Go.RowKit
open AV (Mem Keeps)
def ltB (n i : Nat) : Bool := Nat.ble (i + 1) n
def memB (st : List Nat) (i : Nat) : Bool := st.any fun j => Nat.beq j i
def FreeP (n : Nat) (st : List Nat) : List Ob → Prop
  | [] => True
  | o :: os => AV.rids (ltB n) (memB st) o.cs = o.cs ∧ FreeP n st os
mutual
theorem ren_id {r : Nat → Nat} {n : Nat} (hr : ∀ i, i < n → r i = i) : ∀ v : AV, v.only (fun i => i < n) → v.ren r = v
  | .ro _, _ | .junk, _ => rfl
  | .obj i off, h => by simp only [AV.only] at h; simp only [AV.ren, hr i h]
  | .pin i off g, h => by simp only [AV.only] at h; simp only [AV.ren, hr i h]
  | .own i, h => by simp only [AV.only] at h; simp only [AV.ren, hr i h]
  | .agg cs, h => by simp only [AV.only] at h; simp only [AV.ren, rens_id hr cs h]
  | .tup cs, h => by simp only [AV.only] at h; simp only [AV.ren, rens_id hr cs h]
  | .fn f a b, h => by simp only [AV.only] at h; simp only [AV.ren, rens_id hr a h.1, rens_id hr b h.2]
theorem rens_id {r : Nat → Nat} {n : Nat} (hr : ∀ i, i < n → r i = i) : ∀ vs : List AV, AV.onlys (fun i => i < n) vs → AV.rens r vs = vs
  | [], _ => rfl
  | x :: xs, h => by simp only [AV.onlys] at h; simp only [AV.rens, ren_id hr x h.1, rens_id hr xs h.2]
end
theorem FreeP.at_ {n : Nat} {st : List Nat} : ∀ {os : List Ob}, FreeP n st os → ∀ (k : Nat) o, os[k]? = some o → AV.rids (ltB n) (memB st) o.cs = o.cs
  | [], _, k, o, h => by simp at h
  | x :: os, hl, k, o, h => by
    simp only [FreeP] at hl
    cases k with
    | zero => simp at h; subst h; exact hl.1
    | succ k => simp at h; exact FreeP.at_ hl.2 k o h
section
variable {P : Program} {C : Ctx} {ops : Array Oper} {rest : List Oper} {k : List Item} {R : Act → World → Prop} {env : Env} {σ : List Ob} {t : Nat} {ty : TypeId} {pos : String} {after : Array Edge}
theorem pu_nilCheckP {gd : Option (Nat × Bool)} {x : Operand} {i off g : Nat} (hx : ev env x = .pin i off g) : Pur P C ⟨some t, .nilCheck x, ty, pos, after, gd⟩ env σ (.pin i off g) :=
  Pur.of (fun a m hG hσ hH => by
    have h := hH x (by simp [Op.operands, Call.operands])
    rw [hx] at h
    have h' := h
    simp only [AV.rel] at h
    obtain ⟨_, _, e⟩ := h
    exact ⟨a.eval x, by simp [execOp, e], h'⟩)
theorem Lends.pin {i off g : Nat} {o : Ob} {rs : List RV} (ho : σ[i]? = some o) (h : LendsL C σ (o.cs.drop off) rs) : Lends C σ (.pin i off g) (.rp rs) := fun m u ok' hG hσ k1 k2 hu => by
  refine Lends.obj ho h m u ok' hG hσ k1 k2 ?_
  exact unpin_rel (v := .pin i off g) hu
theorem sim_nilCell (i p : Nat) {o : Ob} {e : TypeId} {sz : Nat} (hs : 0 < sz) (ho : σ[i]? = some o) (h : o.cs[p]? = some .nil) {a : Act} {w : World} (hsim : Sim C ⟨env, σ⟩ a w) : Sim C ⟨env, σ.set i ⟨o.t, o.sz, o.cs.set p (.own σ.length)⟩ ++ [⟨e, sz, []⟩]⟩ a w := by
  obtain ⟨h1, h2, φ, hG, hH⟩ := hsim
  have hil := (List.getElem?_eq_some_iff.1 ho).1
  obtain ⟨g1, g2⟩ := good_grow (φ' := upd φ σ.length none) (new := [⟨e, sz, []⟩]) hG (Below.refl _ _) (fun i hi => upd_ne (show i ≠ σ.length from Nat.ne_of_lt hi)) (fun j hj g hg => by
      simp at hj; subst hj; simp [upd_eq] at hg) (fun i j g hi hj _ _ => by simp at hi hj; omega) (fun j o hj => by
      cases j with
      | zero => simp at hj; subst hj; simp [upd_eq, ObRel]
      | succ j => simp at hj)
  -- the cell is that row
  have hlen : (σ.set i ⟨o.t, o.sz, o.cs.set p (.own σ.length)⟩ ++ [(⟨e, sz, []⟩ : Ob)]).length = (σ ++ [(⟨e, sz, []⟩ : Ob)]).length := by simp
  have hat : ∀ j, j ≠ i → (σ.set i ⟨o.t, o.sz, o.cs.set p (.own σ.length)⟩ ++ [(⟨e, sz, []⟩ : Ob)])[j]? = (σ ++ [(⟨e, sz, []⟩ : Ob)])[j]? := fun j hj => by
    rcases Nat.lt_or_ge j σ.length with h | h
    · rw [List.getElem?_append_left (by simpa using h), List.getElem?_append_left h, List.getElem?_set_ne (Ne.symm hj)]
    · rw [List.getElem?_append_right (by simpa using h), List.getElem?_append_right h]; simp
  have hati : (σ.set i ⟨o.t, o.sz, o.cs.set p (.own σ.length)⟩ ++ [(⟨e, sz, []⟩ : Ob)])[i]? = some ⟨o.t, o.sz, o.cs.set p (.own σ.length)⟩ := by
    rw [List.getElem?_append_left (by simpa using hil), List.getElem?_set_self hil]
  have hati0 : (σ ++ [(⟨e, sz, []⟩ : Ob)])[i]? = some o := by rw [List.getElem?_append_left hil]; exact ho
  have hK : Keeps (fun _ => True) ⟨w, upd φ σ.length none, σ ++ [⟨e, sz, []⟩], C.ok⟩ ⟨w, upd φ σ.length none, σ.set i ⟨o.t, o.sz, o.cs.set p (.own σ.length)⟩ ++ [⟨e, sz, []⟩], C.ok⟩ := by
    refine ⟨⟨Nat.le_refl _, fun b _ hb => ⟨⟨hb.1, fun j hj => hb.2 j (by rw [← hlen]; exact hj)⟩, rfl⟩⟩, fun j _ hj => ⟨by rw [← hlen] at hj; exact hj, rfl⟩, fun j ob _ hj => ?_, fun j g us t _ _ _ hh => ⟨us, hh, rfl⟩⟩
    by_cases e : j = i
    · subst e
      simp only at hj
      rw [hati0] at hj; injection hj with hj; subst hj
      exact ⟨_, hati, by simp⟩
    · exact ⟨ob.cs, by simp only; rw [hat j e]; exact hj, rfl⟩
  refine ⟨h1, h2, upd φ σ.length none, ⟨rfl, fun a b g ha hb => g1.inj a b g (by rw [← hlen]; exact ha) (by rw [← hlen]; exact hb), fun j ob hj => ?_, fun j g hj => g1.mine j g (by rw [← hlen]; exact hj), g1.frm⟩, (hH.keeps g2).keeps hK⟩
  by_cases e' : j = i
  · subst e'
    simp only at hj
    rw [hati] at hj; injection hj with hj; subst hj
    have h0 := g1.ob j o hati0
    show ObRel _ _ (upd φ σ.length none j)
    simp only at h0
    cases hφ : upd φ σ.length none j with
    | none =>
      rw [hφ] at h0
      simp only [ObRel] at h0
      rw [h0] at h; simp at h
    | some g =>
      rw [hφ] at h0
      obtain ⟨us, q1, q2, q3⟩ := h0
      refine ⟨us, q1, by simpa using q2, fun m v hm => ?_⟩
      simp only [List.getElem?_set] at hm
      split at hm
      · rename_i hpm
        subst hpm
        split at hm
        · injection hm with hm; subst hm
          obtain ⟨u, k1, k2, k3⟩ := q3 p _ h
          simp only [AV.rel, RV.rel] at k3
          subst k3
          refine ⟨_, k1, rfl, ?_⟩
          simp only [AV.rel]
          exact ⟨⟨e, sz, []⟩, 0, by rw [List.getElem?_append_right (by simp)]; simp, by simp, hs, .inl ⟨by first | rfl | trivial, by first | rfl | trivial, upd_eq⟩⟩
        · cases hm
      · obtain ⟨u, k1, k2, k3⟩ := q3 m v hm
        exact ⟨u, k1, k2, AV.rel_keeps hK _ _ (AV.only_true _) k3⟩
  · simp only at hj
    rw [hat j e'] at hj
    exact (g1.ob j ob hj).keeps hK fun _ _ => rfl
theorem RunsL.nilCell {l : List Oper} (i p : Nat) {o : Ob} {e : TypeId} {sz : Nat} (hs : 0 < sz) (ho : σ[i]? = some o) (h : o.cs[p]? = some .nil) (hk : RunsL P C ops l k R ⟨env, σ.set i ⟨o.t, o.sz, o.cs.set p (.own σ.length)⟩ ++ [⟨e, sz, []⟩]⟩) : RunsL P C ops l k R ⟨env, σ⟩ :=
  ⟨fun a w hsim => hk.run a w (sim_nilCell i p hs ho h hsim)⟩
theorem Runs.nilCell (i p : Nat) {o : Ob} {e : TypeId} {sz : Nat} (hs : 0 < sz) (ho : σ[i]? = some o) (h : o.cs[p]? = some .nil) (hk : Runs P C k R ⟨env, σ.set i ⟨o.t, o.sz, o.cs.set p (.own σ.length)⟩ ++ [⟨e, sz, []⟩]⟩) : Runs P C k R ⟨env, σ⟩ :=
  ⟨fun a w hsim => hk.run a w (sim_nilCell i p hs ho h hsim)⟩
end
end Go.Proofs.Ytnecoghfhcimeaa
/- Wrapping at 64 bits. -/
namespace Go.Proofs.Ytnecoghfhcimeaa
set_option linter.unusedSimpArgs false
set_option linter.unusedVariables false
open Go.RowKit
abbrev w64 (x : Int) : Int := IntKind.i64.wrap x
end Go.Proofs.Ytnecoghfhcimeaa
/- Functions that return a pointer at a new object. Over any program. -/
namespace Go.Proofs.Ytnecoghfhcimeaa
set_option linter.unusedSimpArgs false
set_option linter.unusedVariables false
open Go.RowKit
open AV (Mem Keeps)
section
variable {P : Program} {C : Ctx} {ops : Array Oper} {rest : List Oper} {k : List Item} {R : Act → World → Prop} {env : Env} {σ : List Ob} {t : Nat} {ty : TypeId} {pos : String} {after : Array Edge}
end
end Go.Proofs.Ytnecoghfhcimeaa
/- Functions that draw: they are handed a cursor, move it on, and return what they drew. Over any program. -/
namespace Go.Proofs.Ytnecoghfhcimeaa
set_option linter.unusedSimpArgs false
set_option linter.unusedVariables false
open Go.RowKit
open AV (Mem Keeps)
def curOb (ct : TypeId) (u : Value) (i h : Int) : Ob := ⟨ct, 0, [.ro (.c u), .int i, .int h]⟩
def CurAt (ct : TypeId) (w : World) (g : Nat) (u : Value) (i h : Int) : Prop :=
  ∃ us : Array Value, w.heap[g]? = some (.cells us ct (0, 0)) ∧ us[0]? = some u ∧ us[1]? = some (.int .i64 i) ∧ us[2]? = some (.int .i64 h)
def CurOk (b : List UInt8) (i : Int) : Prop := 0 ≤ i ∧ i ≤ b.length
structure Bx (g : Nat) (w w' : World) : Prop where
  os : w'.os = w.os
  tape : w'.tape = w.tape
  output : w'.output = w.output
  size : w.heap.size ≤ w'.heap.size
  block : ∀ b, b < w.heap.size → b ≠ g → w'.heap[b]? = w.heap[b]?
def Drw (P : Program) (ct : TypeId) (f : FuncId) (b : List UInt8) (args : List RV) (Q : RR → Prop) : Prop :=
  ∀ (w : World) (ok : Nat → Prop) (g : Nat) (u : Value) (i h : Int) (us : List Value), (∀ x, w.heap.size ≤ x → ok x) → CurAt ct w g u i h →
    RV.rel w (fun x => ok x ∧ x ≠ g) (bytesR b) u → CurOk b i → RV.rels w (fun x => ok x ∧ x ≠ g) args us →
    Calls P f (.pointer (some ⟨g, 0, none⟩) :: us).toArray w fun e w' => ∃ v rr bs i' h', e = .returned v ∧ Q rr ∧ RR.rel w' (fun x => (ok x ∧ x ≠ g) ∧ x ∉ bs) rr v bs ∧ bs.Nodup ∧
      (∀ x ∈ bs, w.heap.size ≤ x ∧ x < w'.heap.size) ∧ CurOk b i' ∧ CurAt ct w' g u i' h' ∧ Bx g w w'
theorem Drw.mono {P : Program} {ct : TypeId} {f : FuncId} {b : List UInt8} {args : List RV} {Q Q' : RR → Prop} (h : Drw P ct f b args Q) (hq : ∀ rr, Q rr → Q' rr) : Drw P ct f b args Q' :=
  fun w ok g u i hh us h0 h1 h2 h3 h4 => (h w ok g u i hh us h0 h1 h2 h3 h4).mono fun _ _ ⟨v, rr, bs, i', h', e, q, r⟩ => ⟨v, rr, bs, i', h', e, hq rr q, r⟩
def HU (C : Ctx) (b : List UInt8) (u : Value) : Prop := RV.rel C.w0 (fun x => C.ok x ∧ ¬ C.mu x) (bytesR b) u
theorem HU.now {C : Ctx} {b : List UInt8} {u : Value} (h : HU C b u) {m : Mem} (hG : Good C m) : RV.rel m.w (fun x => C.ok x ∧ ∀ j, j < m.σ.length → m.φ j ≠ some x) (bytesR b) u :=
  RV.rel_mono ⟨hG.frm.size, fun x hx ho => ⟨⟨ho.1, fun j hj e => by
    rcases hG.mine j x hj e with k | k
    · exact ho.2 k
    · omega⟩, hG.frm.block x hx ho.2⟩⟩ _ _ h
theorem HU.ok {C : Ctx} {b : List UInt8} {u : Value} (h : HU C b u) {m : Mem} (hG : Good C m) : RV.rel m.w m.ok (bytesR b) u :=
  RV.rel_mono ⟨Nat.le_refl _, fun x _ ho => ⟨⟨by rw [hG.ok0]; exact ho.1, ho.2⟩, rfl⟩⟩ _ _ (h.now hG)
theorem HU.shape {C : Ctx} {b : List UInt8} {u : Value} (h : HU C b u) : ∃ A n c, u = .slice A n c := by
  simp only [HU, bytesR, RV.rel] at h
  obtain ⟨A, n, c, e, _⟩ := h
  exact ⟨A, n, c, e⟩
section
variable {P : Program} {C : Ctx} {env : Env} {σ : List Ob} {o : Oper} {b : List UInt8} {u : Value}
theorem Pur.know (hu : HU C b u) (h : Pur P C o env σ (.ro (.c u))) : Pur P C o env σ (.ro (bytesR b)) :=
  ⟨fun a m hG hσ hH K Q hK => h.run a m hG hσ hH K Q fun x w' hb hv => hK x w' hb (by
    simp only [AV.rel, RV.rel] at hv ⊢
    subst hv
    have hG' : Good C { m with w := w' } := by
      have e : m = ⟨m.w, m.φ, m.σ, C.ok⟩ := by rw [← hG.ok0]
      have := (good_below (C := C) (w := m.w) (φ := m.φ) (σ := m.σ) (by rw [← e]; exact hG) hb).1
      rw [hG.ok0]; exact this
    exact hu.ok hG')⟩
end
mutual
def cln : AV → Bool
  | .own i => !(Nat.beq i 0)
  | .agg cs => clns cs
  | .tup vs => clns vs
  | .fn _ x y => clns x && clns y
  | _ => true
def clns : List AV → Bool
  | [] => true
  | x :: xs => cln x && clns xs
end
def clnE : Env → Bool
  | [] => true
  | (_, v) :: e => cln v && clnE e
def clnO : List Ob → Bool
  | [] => true
  | o :: os => clns o.cs && clnO os
theorem clnE.look {env : Env} (h : clnE env = true) (t : Nat) : cln (look env t) = true := by
  induction env with
  | nil => rfl
  | cons p e ih =>
    obtain ⟨s, v⟩ := p
    simp only [clnE, Bool.and_eq_true] at h
    rw [look_put]
    split
    · exact h.1
    · exact ih h.2
theorem clns_at : ∀ {cs : List AV}, clns cs = true → ∀ (j : Nat) v, cs[j]? = some v → cln v = true
  | [], _, j, v, hj => by simp at hj
  | x :: xs, h, j, v, hj => by
    simp only [clns, Bool.and_eq_true] at h
    cases j with
    | zero => simp at hj; subst hj; exact h.1
    | succ j => exact clns_at h.2 j v (by simpa using hj)
theorem clnO_at : ∀ {os : List Ob}, clnO os = true → ∀ (i : Nat) o, os[i]? = some o → clns o.cs = true
  | [], _, i, o, hi => by simp at hi
  | x :: os, h, i, o, hi => by
    simp only [clnO, Bool.and_eq_true] at h
    cases i with
    | zero => simp at hi; subst hi; exact h.1
    | succ i => exact clnO_at h.2 i o (by simpa using hi)
theorem clnO_cons {o : Ob} {os : List Ob} (h1 : clns o.cs = true) (h2 : clnO os = true) : clnO (o :: os) = true := by simp only [clnO, h1, h2, Bool.and_self]
theorem clns_ro : ∀ rs : List RV, clns (rs.map .ro) = true
  | [] => rfl
  | r :: rs => by simp only [List.map_cons, clns, cln, clns_ro rs, Bool.and_self]
section
variable {m m' : Mem}
mutual
theorem rel_cln (hro : RV.Kept m.w m.ok m'.w m'.ok) (hlen : m.σ.length ≤ m'.σ.length) (hφ : ∀ i, i < m.σ.length → m'.φ i = m.φ i) (hσ : ∀ i, i ≠ 0 → i < m.σ.length → m'.σ[i]? = m.σ[i]?) (hb : ∀ i g, i ≠ 0 → i < m.σ.length → m.φ i = some g → m'.w.heap[g]? = m.w.heap[g]?) :
    ∀ (v : AV) (u : Value), cln v = true → AV.rel m v u → AV.rel m' v u
  | .ro v, u, _, h => by
    simp only [AV.rel] at h ⊢
    exact RV.rel_mono hro v u h
  | .junk, u, _, _ => by simp [AV.rel]
  | .obj i off, u, _, h => by
    simp only [AV.rel] at h ⊢
    obtain ⟨h1, g, h2, h3⟩ := h
    exact ⟨by omega, g, (hφ i h1).trans h2, h3⟩
  | .pin i off g, u, _, h => by
    simp only [AV.rel] at h ⊢
    obtain ⟨h1, h2, h3⟩ := h
    exact ⟨by omega, (hφ i h1).trans h2, h3⟩
  | .own i, u, hc, h => by
    have hi0 : i ≠ 0 := by
      intro e; subst e; simp [cln] at hc
    simp only [AV.rel] at h ⊢
    obtain ⟨ob, k, h1, h2, h3, h4⟩ := h
    have hi := (List.getElem?_eq_some_iff.1 h1).1
    refine ⟨ob, k, (hσ i hi0 hi).trans h1, h2, h3, ?_⟩
    rcases h4 with ⟨q1, q2, q3⟩ | ⟨g, cap, us, q1, q2, q3, q4⟩
    · exact .inl ⟨q1, q2, (hφ i hi).trans q3⟩
    · exact .inr ⟨g, cap, us, (hφ i hi).trans q1, q2, (hb i g hi0 hi q1).trans q3, q4⟩
  | .agg cs, u, hc, h => by
    simp only [AV.rel] at h ⊢
    obtain ⟨us, e, h1⟩ := h
    exact ⟨us, e, rels_cln hro hlen hφ hσ hb cs _ (by simpa only [cln] using hc) h1⟩
  | .tup cs, u, hc, h => by
    simp only [AV.rel] at h ⊢
    obtain ⟨us, e, h1⟩ := h
    exact ⟨us, e, rels_cln hro hlen hφ hσ hb cs _ (by simpa only [cln] using hc) h1⟩
  | .fn f a b, u, hc, h => by
    simp only [AV.rel] at h ⊢
    simp only [cln, Bool.and_eq_true] at hc
    obtain ⟨us, vs, e, h1, h2⟩ := h
    exact ⟨us, vs, e, rels_cln hro hlen hφ hσ hb a _ hc.1 h1, rels_cln hro hlen hφ hσ hb b _ hc.2 h2⟩
theorem rels_cln (hro : RV.Kept m.w m.ok m'.w m'.ok) (hlen : m.σ.length ≤ m'.σ.length) (hφ : ∀ i, i < m.σ.length → m'.φ i = m.φ i) (hσ : ∀ i, i ≠ 0 → i < m.σ.length → m'.σ[i]? = m.σ[i]?) (hb : ∀ i g, i ≠ 0 → i < m.σ.length → m.φ i = some g → m'.w.heap[g]? = m.w.heap[g]?) :
    ∀ (vs : List AV) (us : List Value), clns vs = true → AV.rels m vs us → AV.rels m' vs us
  | [], us, _, h => by simpa [AV.rels] using h
  | x :: xs, us, hc, h => by
    simp only [AV.rels] at h ⊢
    simp only [clns, Bool.and_eq_true] at hc
    obtain ⟨u, us', e, h1, h2⟩ := h
    exact ⟨u, us', e, rel_cln hro hlen hφ hσ hb x u hc.1 h1, rels_cln hro hlen hφ hσ hb xs us' hc.2 h2⟩
end
end
theorem draw_good {C : Ctx} {ct : TypeId} {u : Value} {i h i' h' : Int} {more new : List Ob} {w w' : World} {φ φ' : Nat → Option Nat} {g : Nat} (hG : Good C ⟨w, φ, curOb ct u i h :: more, C.ok⟩) (hg : φ 0 = some g) (hu : u.oneCell' = true) (hat : CurAt ct w' g u i' h') (hb : Bx g w w') (hcl : clnO more = true)
    (hφ : ∀ j, j < more.length + 1 → φ' j = φ j) (hn : ∀ j, j < new.length → ∀ x, φ' (more.length + 1 + j) = some x → w.heap.size ≤ x) (hinj : ∀ a c x, a < new.length → c < new.length → φ' (more.length + 1 + a) = some x → φ' (more.length + 1 + c) = some x → a = c)
    (hob : ∀ (j : Nat) o, new[j]? = some o → ObRel ⟨w', φ', (curOb ct u i' h' :: more) ++ new, C.ok⟩ o (φ' (more.length + 1 + j))) :
    Good C ⟨w', φ', (curOb ct u i' h' :: more) ++ new, C.ok⟩ ∧ ∀ v x, cln v = true → AV.rel ⟨w, φ, curOb ct u i h :: more, C.ok⟩ v x → AV.rel ⟨w', φ', (curOb ct u i' h' :: more) ++ new, C.ok⟩ v x := by
  have hlt : ∀ j x, j < more.length + 1 → φ j = some x → x < w.heap.size := fun j x hj hx => hG.lt (m := ⟨w, φ, curOb ct u i h :: more, C.ok⟩) (by simpa using hj) hx
  have hne : ∀ j x, j ≠ 0 → j < more.length + 1 → φ j = some x → x ≠ g := fun j x h0 hj hx e => h0 (hG.inj j 0 g (by simpa using hj) (by simp) (e ▸ hx) hg)
  have hro : RV.Kept w (AV.Mem.ok ⟨w, φ, curOb ct u i h :: more, C.ok⟩) w' (AV.Mem.ok ⟨w', φ', (curOb ct u i' h' :: more) ++ new, C.ok⟩) := ⟨hb.size, fun x hx ho => ⟨⟨ho.1, fun j hj e => by
    simp only [List.length_append, List.length_cons] at hj
    rcases Nat.lt_or_ge j (more.length + 1) with k | k
    · exact ho.2 j (by simpa using k) ((hφ j k).symm.trans e)
    · have := hn (j - (more.length + 1)) (by omega) x (by rwa [show more.length + 1 + (j - (more.length + 1)) = j by omega])
      omega⟩, hb.block x hx fun e => ho.2 0 (by simp) (e ▸ hg)⟩⟩
  have key : ∀ v x, cln v = true → AV.rel ⟨w, φ, curOb ct u i h :: more, C.ok⟩ v x → AV.rel ⟨w', φ', (curOb ct u i' h' :: more) ++ new, C.ok⟩ v x :=
    rel_cln (m := ⟨w, φ, curOb ct u i h :: more, C.ok⟩) (m' := ⟨w', φ', (curOb ct u i' h' :: more) ++ new, C.ok⟩) hro (by simp) (fun j hj => hφ j (by simpa using hj)) (fun j h0 hj => by
      cases j with
      | zero => exact absurd rfl h0
      | succ j => simp only [List.cons_append, List.getElem?_cons_succ]; exact List.getElem?_append_left (by simpa using hj)) (fun j x h0 hj hx => hb.block x (hlt j x (by simpa using hj) hx) (hne j x h0 (by simpa using hj) hx))
  refine ⟨⟨rfl, fun a c x ha hc e1 e2 => ?_, fun j o hj => ?_, fun j x hj hx => ?_, ⟨hb.os.trans hG.frm.os, hb.tape.trans hG.frm.tape, hb.output.trans hG.frm.output, Nat.le_trans hG.frm.size hb.size, fun x hx hm => ?_, hG.frm.new⟩⟩, key⟩
  · simp only [List.length_append, List.length_cons] at ha hc
    rcases Nat.lt_or_ge a (more.length + 1) with k1 | k1 <;> rcases Nat.lt_or_ge c (more.length + 1) with k2 | k2
    · exact hG.inj a c x (by simpa using k1) (by simpa using k2) ((hφ a k1).symm.trans e1) ((hφ c k2).symm.trans e2)
    · have a1 := hlt a x k1 ((hφ a k1).symm.trans e1)
      have a2 := hn (c - (more.length + 1)) (by omega) x (by rwa [show more.length + 1 + (c - (more.length + 1)) = c by omega])
      omega
    · have a1 := hlt c x k2 ((hφ c k2).symm.trans e2)
      have a2 := hn (a - (more.length + 1)) (by omega) x (by rwa [show more.length + 1 + (a - (more.length + 1)) = a by omega])
      omega
    · have := hinj (a - (more.length + 1)) (c - (more.length + 1)) x (by omega) (by omega) (by rwa [show more.length + 1 + (a - (more.length + 1)) = a by omega]) (by rwa [show more.length + 1 + (c - (more.length + 1)) = c by omega])
      omega
  · rcases Nat.lt_or_ge j (more.length + 1) with k | k
    · cases j with
      | zero =>
        simp only [List.cons_append, List.getElem?_cons_zero, Option.some.injEq] at hj
        subst hj
        show ObRel _ _ (φ' 0)
        rw [hφ 0 k, hg]
        obtain ⟨us, q0, q1, q2, q3⟩ := hat
        refine ⟨us, q0, ?_, fun p v hp => ?_⟩
        · have := (Array.getElem?_eq_some_iff.1 q3).1
          simp [curOb]; omega
        · simp only [curOb] at hp
          match p, hp with
          | 0, hp => simp at hp; subst hp; exact ⟨u, q1, hu, by simp [AV.rel, RV.rel]⟩
          | 1, hp => simp at hp; subst hp; exact ⟨_, q2, rfl, by simp [AV.rel, RV.rel]⟩
          | 2, hp => simp at hp; subst hp; exact ⟨_, q3, rfl, by simp [AV.rel, RV.rel]⟩
          | p + 3, hp => simp at hp
      | succ j =>
        have hj' : more[j]? = some o := by
          simp only [List.cons_append, List.getElem?_cons_succ] at hj
          rwa [List.getElem?_append_left (by omega)] at hj
        have h0 := hG.ob (j + 1) o (by simpa using hj')
        show ObRel _ _ (φ' (j + 1))
        rw [hφ (j + 1) k]
        simp only at h0
        cases hx : φ (j + 1) with
        | none => rw [hx] at h0; exact h0
        | some x =>
          rw [hx] at h0
          obtain ⟨us, q1, q2, q3⟩ := h0
          refine ⟨us, (hb.block x (hlt _ x k hx) (hne _ x (by omega) k hx)).trans q1, q2, fun p v hp => ?_⟩
          obtain ⟨y, e1, e2, e3⟩ := q3 p v hp
          exact ⟨y, e1, e2, key v y (clns_at (clnO_at hcl j o hj') p v hp) e3⟩
    · have hj' : new[j - (more.length + 1)]? = some o := by
        rw [List.getElem?_append_right (by simpa using k)] at hj
        simpa using hj
      have := hob _ o hj'
      rwa [show more.length + 1 + (j - (more.length + 1)) = j by omega] at this
  · simp only [List.length_append, List.length_cons] at hj
    rcases Nat.lt_or_ge j (more.length + 1) with k | k
    · exact hG.mine j x (by simpa using k) ((hφ j k).symm.trans hx)
    · have := hn (j - (more.length + 1)) (by omega) x (by rwa [show more.length + 1 + (j - (more.length + 1)) = j by omega])
      exact .inr (Nat.le_trans hG.frm.size this)
  · have hgm := hG.mine 0 g (by simp) hg
    refine (hb.block x (Nat.lt_of_lt_of_le hx hG.frm.size) fun e => ?_).trans (hG.frm.block x hx hm)
    subst e
    rcases hgm with k | k
    · exact hm k
    · omega
mutual
def flatR : RR → Bool
  | .ro r => flat r
  | .row _ _ cs => cs.all flat
  | .agg rs => flatRs rs
  | .tup rs => flatRs rs
def flatRs : List RR → Bool
  | [] => true
  | x :: xs => flatR x && flatRs xs
end
section
variable {w : World} {ok ok' : Nat → Prop}
theorem flat_rels : ∀ (rs : List RV) (us : List Value), rs.all flat = true → RV.rels w ok rs us → RV.rels w ok' rs us
  | [], us, _, h => by simpa [RV.rels] using h
  | r :: rs, us, hf, h => by
    rw [List.all_cons, Bool.and_eq_true] at hf
    simp only [RV.rels] at h ⊢
    obtain ⟨u, us', e, h1, h2⟩ := h
    refine ⟨u, us', e, ?_, flat_rels rs us' hf.2 h2⟩
    cases r <;> simp [flat] at hf
    simpa only [RV.rel] using h1
mutual
theorem flatR_rel : ∀ (rr : RR) (u : Value) (bs : List Nat), flatR rr = true → rr.rel w ok u bs → rr.rel w ok' u bs
  | .ro r, u, bs, hf, h => by
    simp only [RR.rel] at h ⊢
    refine ⟨?_, h.2⟩
    cases r <;> simp [flatR, flat] at hf
    simpa only [RV.rel] using h.1
  | .row e sz cs, u, bs, hf, h => by
    simp only [RR.rel] at h ⊢
    obtain ⟨n, xs, h1, h2, h3, h4⟩ := h
    exact ⟨n, xs, h1, h2, flat_rels _ _ (by simpa only [flatR] using hf) h3, h4⟩
  | .agg rs, u, bs, hf, h => by
    simp only [RR.rel] at h ⊢
    obtain ⟨us, e, h⟩ := h
    exact ⟨us, e, flatRs_rel rs _ _ (by simpa only [flatR] using hf) h⟩
  | .tup rs, u, bs, hf, h => by
    simp only [RR.rel] at h ⊢
    obtain ⟨us, e, h⟩ := h
    exact ⟨us, e, flatRs_rel rs _ _ (by simpa only [flatR] using hf) h⟩
theorem flatRs_rel : ∀ (rs : List RR) (us : List Value) (bs : List Nat), flatRs rs = true → RR.rels w ok rs us bs → RR.rels w ok' rs us bs
  | [], us, bs, _, h => by simpa [RR.rels] using h
  | x :: xs, us, bs, hf, h => by
    simp only [flatRs, Bool.and_eq_true] at hf
    simp only [RR.rels] at h ⊢
    obtain ⟨u, us', b, bs', e1, e2, h1, h2⟩ := h
    exact ⟨u, us', b, bs', e1, e2, flatR_rel x u b hf.1 h1, flatRs_rel xs us' bs' hf.2 h2⟩
end
end
def LendsP (C : Ctx) (σ : List Ob) (v : AV) (r : RV) : Prop := ∀ (m : Mem) (u : Value) (ok' : Nat → Prop), Good C m → m.σ = σ → (∀ b, m.ok b → ok' b) → (∀ (i g : Nat), 0 < i → i < σ.length → m.φ i = some g → ok' g) → AV.rel m v u → RV.rel m.w ok' r u
inductive LendsPL (C : Ctx) (σ : List Ob) : List AV → List RV → Prop
  | nil : LendsPL C σ [] []
  | cons {v : AV} {r : RV} {vs : List AV} {rs : List RV} : LendsP C σ v r → LendsPL C σ vs rs → LendsPL C σ (v :: vs) (r :: rs)
section
variable {C : Ctx} {σ : List Ob}
theorem LendsP.ro {r : RV} : LendsP C σ (.ro r) r := fun m u _ _ _ h1 _ hu => RV.rel_mono ⟨Nat.le_refl _, fun b _ hb => ⟨h1 b hb, rfl⟩⟩ r u (by simpa only [AV.rel] using hu)
theorem LendsP.nil (sz : Nat) : LendsP C σ (.ro .nil) (.seq sz []) := fun m u ok' _ _ h1 _ hu => RV.rel_mono ⟨Nat.le_refl _, fun b _ hb => ⟨h1 b hb, rfl⟩⟩ _ u (Fits.nil sz m u hu)
theorem LendsPL.rels {m : Mem} {ok' : Nat → Prop} (hG : Good C m) (hσ : m.σ = σ) (k1 : ∀ b, m.ok b → ok' b) (k2 : ∀ (i g : Nat), 0 < i → i < σ.length → m.φ i = some g → ok' g) {vs : List AV} {rs : List RV} (h : LendsPL C σ vs rs) : ∀ us, AV.rels m vs us → RV.rels m.w ok' rs us := by
  induction h with
  | nil => intro us hu; simpa [AV.rels, RV.rels] using hu
  | cons h1 _ ih =>
    intro us hu
    simp only [AV.rels] at hu
    obtain ⟨u, us', rfl, k3, k4⟩ := hu
    simp only [RV.rels]
    exact ⟨u, us', rfl, h1 m u ok' hG hσ k1 k2 k3, ih us' k4⟩
theorem LendsP.agg {vs : List AV} {rs : List RV} (h : LendsPL C σ vs rs) : LendsP C σ (.agg vs) (.agg rs) := fun m u ok' hG hσ k1 k2 hu => by
  simp only [AV.rel, RV.rel] at hu ⊢
  obtain ⟨us, e, hr⟩ := hu
  exact ⟨us, e, h.rels hG hσ k1 k2 _ hr⟩
theorem LendsPL.ros : ∀ rs : List RV, LendsPL C σ (rs.map .ro) rs
  | [] => .nil
  | _ :: rs => .cons .ro (LendsPL.ros rs)
theorem LendsP.own {i : Nat} {o : Ob} {els : List (List RV)} (hi : 0 < i) (ho : σ[i]? = some o) (h : o.cs = els.flatten.map .ro) (hl : ∀ x ∈ els, x.length = o.sz) : LendsP C σ (.own i) (.seq o.sz els) := fun m u ok' hG hσ k1 k2 hu => by
  have hrow := row_own (cs := els.flatten) (e := o.t) (sz := o.sz) hG (by rw [hσ, ho]; cases o; simp_all) hu
  obtain ⟨n, xs, h1, h2, h3, h4, h5, h6⟩ := hrow
  refine seals_rel (ok := m.ok) k1 (.row o.t o.sz els.flatten) (.seq o.sz els) u u.ownBlock.toList (by simp only [Seals]; exact ⟨els, rfl, rfl, hl⟩) (by simp only [RR.rel]; exact ⟨n, xs, h1, h2, h3, h4, h5, trivial⟩) fun b hb => ?_
  rw [h6] at hb
  exact k2 i b hi (List.getElem?_eq_some_iff.1 ho).1 (by simpa [Option.mem_toList] using hb)
end
def EndsD (P : Program) (C : Ctx) (fn : Func) (ct : TypeId) (b : List UInt8) (g : Nat) (u : Value) (Q : RR → Prop) (a : Act) (w : World) : Prop :=
  a.defers = [] ∧ ∃ v, (results fn a.tmps).run P w = .ok v w ∧ ∃ rr bs i' h', Q rr ∧ RR.rel w (fun x => (C.ok x ∧ x ≠ g) ∧ x ∉ bs) rr v bs ∧ bs.Nodup ∧ (∀ x ∈ bs, C.w0.heap.size ≤ x ∧ x < w.heap.size) ∧ CurOk b i' ∧ CurAt ct w g u i' h' ∧ Bx g C.w0 w
theorem drw_enter {P : Program} {ct : TypeId} {f : FuncId} {fn : Func} {c : Code} {b : List UInt8} {args : List RV} {Q : RR → Prop} (hf : P.funcs[f]? = some fn) (hb : fn.body = some c) (n : Nat) (hn : fn.ntmps = n) (hl : args.length + 1 ≤ n)
    (h : ∀ (C : Ctx) (g : Nat) (u : Value) (i hh : Int), C.n = n → (∀ x, C.mu x → x = g) → HU C b u → CurOk b i → Runs P C [.code c] (EndsD P C fn ct b g u Q) ⟨(0, .pin 0 0 g) :: startEnv 1 args, [curOb ct u i hh]⟩) : Drw P ct f b args Q := by
  intro w ok g u i hh us h0 hat hu hi hus
  have hlen := RV.rels_len args _ hus
  have hu1 : u.oneCell' = true := RV.rel_one (bytesR b) u rfl hu
  obtain ⟨cs, a0, a1, a2, a3⟩ := hat
  have hgl : g < w.heap.size := (Array.getElem?_eq_some_iff.1 a0).1
  refine calls_of_fin hf hb ?_
  have hs : Sim ⟨w, ok, fun x => x = g, n⟩ ⟨(0, .pin 0 0 g) :: startEnv 1 args, [curOb ct u i hh]⟩ { tmps := (.pointer (some ⟨g, 0, none⟩) :: us).toArray ++ Array.replicate (fn.ntmps - (.pointer (some ⟨g, 0, none⟩) :: us).toArray.size) undef, defers := [] } w := by
    refine ⟨rfl, by simp; omega, fun j => if j = 0 then some g else none, ⟨rfl, fun p q x hp hq _ _ => by simp at hp hq; omega, fun p o hp => ?_, fun p x hp hx => ?_, ⟨rfl, rfl, rfl, Nat.le_refl _, fun _ _ _ => rfl, h0⟩⟩, fun t => ?_⟩
    · cases p with
      | succ p => simp at hp
      | zero =>
        simp at hp; subst hp
        simp only [if_true]
        refine ⟨cs, a0, ?_, fun p v hp => ?_⟩
        · have := (Array.getElem?_eq_some_iff.1 a3).1
          simp [curOb]; omega
        · simp only [curOb] at hp
          match p, hp with
          | 0, hp => simp at hp; subst hp; exact ⟨u, a1, hu1, by simp [AV.rel, RV.rel]⟩
          | 1, hp => simp at hp; subst hp; exact ⟨_, a2, rfl, by simp [AV.rel, RV.rel]⟩
          | 2, hp => simp at hp; subst hp; exact ⟨_, a3, rfl, by simp [AV.rel, RV.rel]⟩
          | p + 3, hp => simp at hp
    · simp at hp; subst hp; simp at hx; exact .inl hx.symm
    · rw [look_put]
      split
      · rename_i e; subst e
        simp only [AV.rel]
        refine ⟨by simp, rfl, ?_⟩
        rw [Array.getD_eq_getD_getElem?, Array.getElem?_append_left (by simp)]
        simp
      · rename_i e
        rw [start_look]
        by_cases h1 : 1 ≤ t
        · rw [if_pos h1]
          cases hr : args[t - 1]? with
          | none => simp [AV.rel]
          | some r =>
            obtain ⟨x, e1, e2⟩ := RV.rels_at args _ hus (t - 1) r hr
            have ht : t - 1 < us.length := (List.getElem?_eq_some_iff.1 e1).1
            simp only [AV.rel]
            have : ((.pointer (some ⟨g, 0, none⟩) :: us).toArray ++ Array.replicate (fn.ntmps - (.pointer (some ⟨g, 0, none⟩) :: us).toArray.size) undef).getD t undef = x := by
              rw [Array.getD_eq_getD_getElem?, Array.getElem?_append_left (by simp; omega)]
              obtain ⟨t', rfl⟩ : ∃ t', t = t' + 1 := ⟨t - 1, by omega⟩
              simp at e1 ⊢
              simp [e1]
            rw [this]
            refine RV.rel_mono ⟨Nat.le_refl _, fun x _ hx => ⟨⟨hx.1, fun j hj he => ?_⟩, rfl⟩⟩ r x e2
            simp at hj; subst hj
            simp at he; exact hx.2 he.symm
        · omega
  have hr := (h ⟨w, ok, fun x => x = g, n⟩ g u i hh rfl (fun _ h => h) (RV.rel_mono ⟨Nat.le_refl _, fun x _ hx => ⟨hx, rfl⟩⟩ _ _ hu) hi).run _ w hs
  intro bb cc
  obtain ⟨a', w', todo, ⟨hd, v, hv, rr, bs, i', h', q1, q2, q3, q4, q5, q6, q7⟩, hst⟩ := hr bb cc
  exact ⟨a', w', todo, ⟨hd, v, hv, v, rr, bs, i', h', rfl, q1, q2, q3, q4, q5, q6, q7⟩, hst⟩
theorem Frm.bx {C : Ctx} {w : World} {g : Nat} (h : Frm C w) (hm : ∀ x, C.mu x → x = g) : Bx g C.w0 w := ⟨h.os, h.tape, h.output, h.size, fun x hx hn => h.block x hx fun k => hn (hm x k)⟩
section
variable {P : Program} {C : Ctx} {fn : Func} {ct : TypeId} {b : List UInt8} {g : Nat} {u : Value} {Q : RR → Prop} {S : St} {i h : Int} {more : List Ob}
theorem cur_at {m : Mem} (hG : Good C m) (hσ : m.σ = curOb ct u i h :: more) (hg : m.φ 0 = some g) : CurAt ct m.w g u i h := by
  have h0 := hG.ob 0 (curOb ct u i h) (by rw [hσ]; rfl)
  rw [hg] at h0
  obtain ⟨us, q1, q2, q3⟩ := h0
  obtain ⟨x0, e0, _, r0⟩ := q3 0 (.ro (.c u)) rfl
  obtain ⟨x1, e1, _, r1⟩ := q3 1 (.int i) rfl
  obtain ⟨x2, e2, _, r2⟩ := q3 2 (.int h) rfl
  simp only [AV.rel, RV.rel] at r0 r1 r2
  subst r0; subst r1; subst r2
  exact ⟨us, q1, e0, e1, e2⟩
theorem endsD_of (hm : ∀ x, C.mu x → x = g) {a : Act} {w : World} {φ : Nat → Option Nat} (hd : a.defers = []) (hG : Good C ⟨w, φ, S.σ, C.ok⟩) (hσ : S.σ = curOb ct u i h :: more) (hg : φ 0 = some g) (hi : CurOk b i) {v : AV} {x : Value} (hx : (results fn a.tmps).run P w = .ok x w) (hv : AV.rel ⟨w, φ, S.σ, C.ok⟩ v x)
    (rr : RR) (is : List Nat) (hh : Harv S.σ rr v is) (hn : is.Nodup) (h0 : 0 ∉ is) (hQ : Q rr) : EndsD P C fn ct b g u Q a w := by
  have hne : ∀ y ∈ blocks φ is, y ≠ g := fun y hy e => by
    obtain ⟨j, hj, e'⟩ := mem_blocks.1 hy
    have hjl := harv_lt _ _ _ _ hh j hj
    have := hG.inj j 0 g hjl (by simp only [hσ, List.length_cons]; omega) (e ▸ e') hg
    exact h0 (this ▸ hj)
  refine ⟨hd, x, hx, rr, blocks φ is, i, h, hQ, ?_, blocks_nodup hG is hn (harv_lt _ _ _ _ hh), fun y hy => ?_, hi, cur_at hG hσ hg, hG.frm.bx hm⟩
  · have := harv_rel hG rr _ _ is hh hv
    refine RR.rel_mono (fun y hy => ⟨⟨hy.1, fun e => hy.2 0 (by simp only [hσ, List.length_cons]; omega) (e ▸ hg)⟩, fun hmm => ?_⟩) _ _ _ this
    obtain ⟨j, hj, e⟩ := mem_blocks.1 hmm
    exact hy.2 j (harv_lt _ _ _ _ hh j hj) e
  · obtain ⟨j, hj, e⟩ := mem_blocks.1 hy
    have hjl := harv_lt _ _ _ _ hh j hj
    refine ⟨?_, hG.lt hjl e⟩
    rcases hG.mine j y hjl e with k | k
    · exact absurd (hm y k) (hne y hy)
    · exact k
theorem pin_at {t : Nat} {φ : Nat → Option Nat} {w : World} {a : Act} (hH : Holds ⟨w, φ, S.σ, C.ok⟩ S.env a) (ht : look S.env t = .pin 0 0 g) : φ 0 = some g := by
  have := hH t
  rw [ht] at this
  simp only [AV.rel] at this
  exact this.2.1
theorem endsD1 {x : ResultVar} (hm : ∀ x, C.mu x → x = g) (hr : fn.results = #[x]) (hσ : S.σ = curOb ct u i h :: more) (ht : look S.env 0 = .pin 0 0 g) (hi : CurOk b i) (v : AV) (hx : ResV P S x v) (rr : RR) (is : List Nat) (hh : Harv S.σ rr v is) (hn : is.Nodup) (h0 : 0 ∉ is) (hQ : Q rr) :
    ∀ a w, Sim C S a w → EndsD P C fn ct b g u Q a w := by
  intro a w ⟨h1, h2, φ, hG, hH⟩
  obtain ⟨y, k1, k2⟩ := resV_run (P := P) hG hH x v hx
  exact endsD_of hm h1 hG hσ (pin_at hH ht) hi (by rw [results_eq, hr]; simp [k1]) k2 rr is hh hn h0 hQ
theorem endsD_ro {t : Nat} {r : RV} (hm : ∀ x, C.mu x → x = g) (hr : fn.results = #[.tmp t]) (hσ : S.σ = curOb ct u i h :: more) (ht : look S.env 0 = .pin 0 0 g) (hi : CurOk b i) (hx : look S.env t = .ro r) (hQ : Q (.ro r)) : ∀ a w, Sim C S a w → EndsD P C fn ct b g u Q a w :=
  endsD1 hm hr hσ ht hi _ rfl (.ro r) [] (by simp only [Harv]; exact ⟨hx, trivial⟩) List.nodup_nil (by simp) hQ
theorem endsD_own {t j sz : Nat} {e : TypeId} {rs : List RV} (hm : ∀ x, C.mu x → x = g) (hr : fn.results = #[.tmp t]) (hσ : S.σ = curOb ct u i h :: more) (ht : look S.env 0 = .pin 0 0 g) (hi : CurOk b i) (hx : look S.env t = .own j) (hj : 0 < j) (ho : S.σ[j]? = some ⟨e, sz, rs.map .ro⟩) (hQ : Q (.row e sz rs)) : ∀ a w, Sim C S a w → EndsD P C fn ct b g u Q a w :=
  endsD1 hm hr hσ ht hi _ rfl (.row e sz rs) [j] (by simp only [Harv]; exact ⟨j, hx, ho, rfl⟩) (by simp) (by simp; omega) hQ
end
section
variable {P : Program} {C : Ctx} {ops : Array Oper} {rest : List Oper} {k : List Item} {R : Act → World → Prop} {env : Env} {σ : List Ob} {t : Nat} {ty : TypeId} {pos : String} {after : Array Edge} {ct : TypeId} {b : List UInt8} {u : Value} {i h : Int} {more : List Ob}
structure Drawn (C : Ctx) (ct : TypeId) (b : List UInt8) (u : Value) (m : Mem) (rr : RR) (v : Value) (w' : World) (i' h' : Int) (bs : List Nat) (g : Nat) : Prop where
  g0 : m.φ 0 = some g
  res : RR.rel w' (fun x => (C.ok x ∧ ∀ j, j < m.σ.length → m.φ j ≠ some x) ∧ x ∉ bs) rr v bs
  nodup : bs.Nodup
  fresh : ∀ x ∈ bs, m.w.heap.size ≤ x ∧ x < w'.heap.size
  ok : CurOk b i'
  at_ : CurAt ct w' g u i' h'
  bx : Bx g m.w w'
theorem cur_block {m : Mem} (hG : Good C m) (hσ : m.σ = curOb ct u i h :: more) : ∃ g, m.φ 0 = some g := by
  have h0 := hG.ob 0 (curOb ct u i h) (by rw [hσ]; rfl)
  cases hg : m.φ 0 with
  | none => rw [hg] at h0; simp [ObRel, curOb] at h0
  | some g => exact ⟨g, rfl⟩
theorem draw_wpF {f : FuncId} {fn : Func} {x0 : Operand} {xs : List Operand} {ats : Array TypeId} {args : List RV} {Q : RR → Prop} {d : Option Nat} {gd : Option (Nat × Bool)} [hfn : FN P f fn] (hf : Drw P ct f b args Q) (hq : ∀ rr, Q rr → flatR rr = true) (hc : unpin (ev env x0) = .obj 0 0) (hu : HU C b u) (hi : CurOk b i)
    {m : Mem} {a : Act} (hG : Good C m) (hσ : m.σ = curOb ct u i h :: more) (ha : LendsPL C m.σ (xs.map (ev env)) args) (hH : ∀ x ∈ x0 :: xs, AV.rel m (ev env x) (a.eval x)) {K : Act → World → Prop} {Q' : Exit → Act → World → Prop}
    (hK : ∀ rr v w' i' h' bs g, Q rr → Drawn C ct b u m rr v w' i' h' bs g → K (a.put d v) w') : (⟨d, .call { callee := .value (.func f), args := (x0 :: xs).toArray, argTypes := ats }, ty, pos, after, gd⟩ : Oper).wp P a m.w K Q' := by
  obtain ⟨g, hg⟩ := cur_block hG hσ
  have hp := unpin_rel (hH x0 (by simp))
  rw [hc] at hp
  simp only [AV.rel] at hp
  obtain ⟨_, g', hg', ep⟩ := hp
  rw [hg] at hg'; injection hg' with hg'; subst hg'
  have hne : ∀ j z, 0 < j → j < m.σ.length → m.φ j = some z → z ≠ g := fun j z h0 hj hz e => by
    have := hG.inj j 0 g hj (by simp only [hσ, List.length_cons]; omega) (e ▸ hz) hg
    omega
  have hokm : ∀ j z, 0 < j → j < m.σ.length → m.φ j = some z → (m.w.heap.size ≤ z ∨ C.ok z ∨ C.mu z) := fun j z _ hj hz => by
    rcases hG.mine j z hj hz with q | q
    · exact .inr (.inr q)
    · exact .inr (.inl (hG.frm.new z q))
  have hr := ha.rels (ok' := fun z => (C.ok z ∨ ∃ j, 0 < j ∧ j < m.σ.length ∧ m.φ j = some z) ∧ z ≠ g) hG rfl (fun z hz => ⟨.inl (by rw [← hG.ok0]; exact hz.1), fun e => hz.2 0 (by simp only [hσ, List.length_cons]; omega) (e ▸ hg)⟩) (fun j z h0 hj hz => ⟨.inr ⟨j, h0, hj, hz⟩, hne j z h0 hj hz⟩) _ (rels_eval (a := a) (m := m) xs fun x hx => hH x (by simp [hx]))
  unfold Oper.wp
  rw [execOp_call_go, run_call hfn]
  simp only [Oper.upon]
  have e0 : ((x0 :: xs).toArray.map a.eval) = (.pointer (some ⟨g, 0, none⟩) :: xs.map a.eval).toArray := by simp [ep]
  rw [e0]
  simp only [Array.empty_append, Array.append_empty]
  refine (hf m.w (fun z => C.ok z ∨ ∃ j, 0 < j ∧ j < m.σ.length ∧ m.φ j = some z) g u i h _ (fun z hz => .inl (hG.frm.new z (Nat.le_trans hG.frm.size hz))) (cur_at hG hσ hg) (RV.rel_mono ⟨Nat.le_refl _, fun z _ hz => ⟨⟨.inl hz.1, fun e => hz.2 0 (by simp only [hσ, List.length_cons]; omega) (e ▸ hg)⟩, rfl⟩⟩ _ _ (hu.now hG)) hi hr).mono ?_
  rintro e w' ⟨v, rr, bs, i', h', rfl, hQ, q1, q2, q3, q4, q5, q6⟩
  exact hK rr v w' i' h' bs g hQ ⟨hg, flatR_rel rr v bs (hq rr hQ) q1, q2, q3, q4, q5, q6⟩
theorem draw_wpN {f : FuncId} {fn : Func} {x0 : Operand} {xs : List Operand} {ats : Array TypeId} {args : List RV} {Q : RR → Prop} {d : Option Nat} {gd : Option (Nat × Bool)} [hfn : FN P f fn] (hf : Drw P ct f b args Q) (hc : unpin (ev env x0) = .obj 0 0) (hu : HU C b u) (hi : CurOk b i)
    {m : Mem} {a : Act} (hG : Good C m) (hσ : m.σ = curOb ct u i h :: more) (ha : FitsL (xs.map (ev env)) args) (hH : ∀ x ∈ x0 :: xs, AV.rel m (ev env x) (a.eval x)) {K : Act → World → Prop} {Q' : Exit → Act → World → Prop}
    (hK : ∀ rr v w' i' h' bs g, Q rr → Drawn C ct b u m rr v w' i' h' bs g → K (a.put d v) w') : (⟨d, .call { callee := .value (.func f), args := (x0 :: xs).toArray, argTypes := ats }, ty, pos, after, gd⟩ : Oper).wp P a m.w K Q' := by
  obtain ⟨g, hg⟩ := cur_block hG hσ
  have hp := unpin_rel (hH x0 (by simp))
  rw [hc] at hp
  simp only [AV.rel] at hp
  obtain ⟨_, g', hg', ep⟩ := hp
  rw [hg] at hg'; injection hg' with hg'; subst hg'
  have hl0 : 0 < m.σ.length := by simp only [hσ, List.length_cons]; omega
  have hr := ha.rels (m := m) _ (rels_eval (a := a) (m := m) xs fun x hx => hH x (by simp [hx]))
  unfold Oper.wp
  rw [execOp_call_go, run_call hfn]
  simp only [Oper.upon]
  have e0 : ((x0 :: xs).toArray.map a.eval) = (.pointer (some ⟨g, 0, none⟩) :: xs.map a.eval).toArray := by simp [ep]
  rw [e0]
  simp only [Array.empty_append, Array.append_empty]
  refine (hf m.w (fun z => C.ok z ∧ ∀ j, 0 < j → j < m.σ.length → m.φ j ≠ some z) g u i h _ (fun z hz => ⟨hG.frm.new z (Nat.le_trans hG.frm.size hz), fun j _ hj e => by have := hG.lt hj e; omega⟩) (cur_at hG hσ hg) (RV.rel_mono ⟨Nat.le_refl _, fun z _ hz => ⟨⟨⟨hz.1, fun j _ hj => hz.2 j hj⟩, fun e => hz.2 0 hl0 (e ▸ hg)⟩, rfl⟩⟩ _ _ (hu.now hG)) hi
    (RV.rels_mono ⟨Nat.le_refl _, fun z _ hz => ⟨⟨⟨by rw [← hG.ok0]; exact hz.1, fun j _ hj => hz.2 j hj⟩, fun e => hz.2 0 hl0 (e ▸ hg)⟩, rfl⟩⟩ _ _ hr)).mono ?_
  rintro e w' ⟨v, rr, bs, i', h', rfl, hQ, q1, q2, q3, q4, q5, q6⟩
  refine hK rr v w' i' h' bs g hQ ⟨hg, RR.rel_mono (fun z hz => ⟨⟨hz.1.1.1, fun j hj e => ?_⟩, hz.2⟩) _ _ _ q1, q2, q3, q4, q5, q6⟩
  by_cases h0 : j = 0
  · subst h0; rw [hg] at e; injection e with e; exact hz.1.2 e.symm
  · exact hz.1.1.2 j (by omega) hj e
theorem Drawn.simS {m : Mem} {rr : RR} {r : RV} {v : Value} {w' : World} {i' h' : Int} {bs : List Nat} {g : Nat} (hD : Drawn C ct b u m rr v w' i' h' bs g) (hG : Good C m) (hσ : m.σ = curOb ct u i h :: more) (hu : u.oneCell' = true) (hcl : clnO more = true) (hs : Seals rr r) :
    Good C ⟨w', m.φ, curOb ct u i' h' :: more, C.ok⟩ ∧ (∀ y x, cln y = true → AV.rel m y x → AV.rel ⟨w', m.φ, curOb ct u i' h' :: more, C.ok⟩ y x) ∧ AV.rel ⟨w', m.φ, curOb ct u i' h' :: more, C.ok⟩ (.ro r) v := by
  obtain ⟨w, φ, s, ok0⟩ := m
  have h0 := hG.ok0
  simp only at h0 hσ
  subst h0; subst hσ
  obtain ⟨g1, g2⟩ := draw_good (new := []) (φ' := φ) hG hD.g0 hu hD.at_ hD.bx hcl (fun _ _ => rfl) (fun j hj => by simp at hj) (fun a c x ha => by simp at ha) (fun j o hj => by simp at hj)
  simp only [List.append_nil] at g1 g2
  refine ⟨g1, g2, ?_⟩
  simp only [AV.rel]
  refine seals_rel (ok := fun x => (C.ok x ∧ ∀ j, j < (curOb ct u i h :: more).length → φ j ≠ some x) ∧ x ∉ bs) (fun x hx => ⟨hx.1.1, fun j hj => hx.1.2 j (by simpa using hj)⟩) rr r v bs hs hD.res fun x hx => ⟨hG.frm.new x (Nat.le_trans hG.frm.size (hD.fresh x hx).1), fun j hj e => ?_⟩
  have := hG.lt (by simpa using hj) e
  have := (hD.fresh x hx).1
  simp only at *
  omega
theorem Drawn.simO {m : Mem} {rr : RR} {v : Value} {w' : World} {i' h' : Int} {bs : List Nat} {g : Nat} (hD : Drawn C ct b u m rr v w' i' h' bs g) (hG : Good C m) (hσ : m.σ = curOb ct u i h :: more) (hu : u.oneCell' = true) (hcl : clnO more = true) :
    ∃ φ', Good C ⟨w', φ', (curOb ct u i' h' :: more) ++ obs rr, C.ok⟩ ∧ (∀ y x, cln y = true → AV.rel m y x → AV.rel ⟨w', φ', (curOb ct u i' h' :: more) ++ obs rr, C.ok⟩ y x) ∧ AV.rel ⟨w', φ', (curOb ct u i' h' :: more) ++ obs rr, C.ok⟩ (instA (more.length + 1) rr) v := by
  obtain ⟨w, φ, s, ok0⟩ := m
  have h0 := hG.ok0
  simp only at h0 hσ
  subst h0; subst hσ
  obtain ⟨ps, p1, p2, p3⟩ := inst_rel rr v bs hD.res
  subst p2
  let φ' : Nat → Option Nat := fun i => if i < more.length + 1 then φ i else (ps[i - (more.length + 1)]?).getD none
  have e1 : ∀ i, i < more.length + 1 → φ' i = φ i := fun i hi => if_pos hi
  have e2 : ∀ j, φ' (more.length + 1 + j) = (ps[j]?).getD none := fun j => by show (if more.length + 1 + j < more.length + 1 then _ else _) = _; rw [if_neg (by omega)]; simp
  have e3 : ∀ (j g : Nat), φ' (more.length + 1 + j) = some g → ps[j]? = some (some g) := fun j g hg => by
    rw [e2] at hg
    cases hp : ps[j]? with
    | none => simp [hp] at hg
    | some p => simp [hp] at hg; rw [hg]
  have hnew : ∀ (j g : Nat), φ' (more.length + 1 + j) = some g → g ∈ ps.flatMap Option.toList := fun j g hg => List.mem_flatMap.2 ⟨some g, List.mem_of_getElem? (e3 j g hg), by simp⟩
  have hLie : Lies ⟨w', φ', (curOb ct u i' h' :: more) ++ obs rr, C.ok⟩ (more.length + 1) ps (obs rr) := ⟨fun j p hj => by show φ' (more.length + 1 + j) = p; rw [e2, hj]; rfl, fun j o hj => by show ((curOb ct u i' h' :: more) ++ obs rr)[more.length + 1 + j]? = _; rw [List.getElem?_append_right (by simp), show more.length + 1 + j - (curOb ct u i' h' :: more).length = j by simp]; exact hj⟩
  have hok : ∀ x, ((C.ok x ∧ ∀ j, j < (curOb ct u i h :: more).length → φ j ≠ some x) ∧ x ∉ ps.flatMap Option.toList) → AV.Mem.ok ⟨w', φ', (curOb ct u i' h' :: more) ++ obs rr, C.ok⟩ x := fun x hx => ⟨hx.1.1, fun j hj he => by
    simp only at he
    rcases Nat.lt_or_ge j (more.length + 1) with hlt | hge
    · exact hx.1.2 j (by simpa using hlt) ((e1 j hlt).symm.trans he)
    · exact hx.2 (hnew (j - (more.length + 1)) x (by rwa [show more.length + 1 + (j - (more.length + 1)) = j by omega]))⟩
  obtain ⟨q1, q2⟩ := p3 ⟨w', φ', (curOb ct u i' h' :: more) ++ obs rr, C.ok⟩ (more.length + 1) rfl hok hLie
  obtain ⟨g1, g2⟩ := draw_good (new := obs rr) (φ' := φ') hG hD.g0 hu hD.at_ hD.bx hcl e1 (fun j hj x hx => (hD.fresh x (hnew j x hx)).1) (fun a c x ha hc ea ec => flat_nodup_inj hD.nodup a c x (e3 a x ea) (e3 c x ec)) q2
  exact ⟨φ', g1, g2, q1⟩
theorem HU.one (hu : HU C b u) : u.oneCell' = true := RV.rel_one (bytesR b) u rfl hu
theorem sim_put {S S' : St} {φ : Nat → Option Nat} {w w' : World} {a : Act} {t : Nat} {y : AV} {v : Value} {φ' : Nat → Option Nat} (s1 : a.defers = []) (s2 : a.tmps.size = C.n) (hH : Holds ⟨w, φ, S.σ, C.ok⟩ S.env a) (hG' : Good C ⟨w', φ', S'.σ, C.ok⟩) (he : S'.env = (t, y) :: S.env) (hcl : clnE S.env = true)
    (hk : ∀ y x, cln y = true → AV.rel ⟨w, φ, S.σ, C.ok⟩ y x → AV.rel ⟨w', φ', S'.σ, C.ok⟩ y x) (ht : t < C.n) (hv : AV.rel ⟨w', φ', S'.σ, C.ok⟩ y v) : Sim C S' (a.put (some t) v) w' :=
  ⟨s1, by simp [Act.put, s2], φ', hG', by rw [he]; exact Holds.put (fun s => hk _ _ (clnE.look hcl s) (hH s)) (by rw [s2]; exact ht) hv⟩
theorem op_drawF {f : FuncId} {fn : Func} {x0 : Operand} {xs : List Operand} {ats : Array TypeId} {args : List RV} {Q : RR → Prop} {Q' : RV → Prop} [hfn : FN P f fn] (hf : Drw P ct f b args Q) (hq : ∀ rr, Q rr → flatR rr = true ∧ ∃ r, Seals rr r ∧ Q' r) (hc : unpin (ev env x0) = .obj 0 0) (hu : HU C b u) (hi : CurOk b i) (hσ : σ = curOb ct u i h :: more) (ha : LendsPL C σ (xs.map (ev env)) args)
    (hce : clnE env = true) (hcl : clnO more = true) (ht : t < C.n) (hk : ∀ i' h' r, CurOk b i' → Q' r → RunsL P C ops rest k R ⟨(t, .ro r) :: env, curOb ct u i' h' :: more⟩) :
    RunsL P C ops (⟨some t, .call { callee := .value (.func f), args := (x0 :: xs).toArray, argTypes := ats }, ty, pos, after, none⟩ :: rest) k R ⟨env, σ⟩ := by
  refine ⟨fun a w ⟨s1, s2, φ, hG, hH⟩ => ?_⟩
  refine wpList_plain rfl fun K hK' => ?_
  refine draw_wpF hf (fun rr h => (hq rr h).1) hc hu hi (m := ⟨w, φ, σ, C.ok⟩) hG hσ ha (fun x _ => ev_rel hH x) fun rr v w' i' h' bs g hQ hD => ?_
  obtain ⟨_, r, hs, hr⟩ := hq rr hQ
  obtain ⟨g1, g2, g3⟩ := hD.simS hG hσ hu.one hcl hs
  exact hK' _ _ ((hk i' h' r hD.ok hr).run _ _ (sim_put (S := ⟨env, σ⟩) s1 s2 hH g1 rfl hce g2 ht g3))
theorem op_drawN {f : FuncId} {fn : Func} {x0 : Operand} {xs : List Operand} {ats : Array TypeId} {args : List RV} {Q : RR → Prop} {Q' : RV → Prop} [hfn : FN P f fn] (hf : Drw P ct f b args Q) (hq : ∀ rr, Q rr → ∃ r, Seals rr r ∧ Q' r) (hc : unpin (ev env x0) = .obj 0 0) (hu : HU C b u) (hi : CurOk b i) (hσ : σ = curOb ct u i h :: more) (ha : xs.map (ev env) = args.map .ro)
    (hce : clnE env = true) (hcl : clnO more = true) (ht : t < C.n) (hk : ∀ i' h' r, CurOk b i' → Q' r → RunsL P C ops rest k R ⟨(t, .ro r) :: env, curOb ct u i' h' :: more⟩) :
    RunsL P C ops (⟨some t, .call { callee := .value (.func f), args := (x0 :: xs).toArray, argTypes := ats }, ty, pos, after, none⟩ :: rest) k R ⟨env, σ⟩ := by
  refine ⟨fun a w ⟨s1, s2, φ, hG, hH⟩ => ?_⟩
  refine wpList_plain rfl fun K hK' => ?_
  refine draw_wpN hf hc hu hi (m := ⟨w, φ, σ, C.ok⟩) hG hσ (ha ▸ FitsL.ros args) (fun x _ => ev_rel hH x) fun rr v w' i' h' bs g hQ hD => ?_
  obtain ⟨r, hs, hr⟩ := hq rr hQ
  obtain ⟨g1, g2, g3⟩ := hD.simS hG hσ hu.one hcl hs
  exact hK' _ _ ((hk i' h' r hD.ok hr).run _ _ (sim_put (S := ⟨env, σ⟩) s1 s2 hH g1 rfl hce g2 ht g3))
theorem op_drawO {f : FuncId} {fn : Func} {x0 : Operand} {xs : List Operand} {ats : Array TypeId} {args : List RV} {Q : RR → Prop} [hfn : FN P f fn] (hf : Drw P ct f b args Q) (hc : unpin (ev env x0) = .obj 0 0) (hu : HU C b u) (hi : CurOk b i) (hσ : σ = curOb ct u i h :: more) (ha : xs.map (ev env) = args.map .ro)
    (hce : clnE env = true) (hcl : clnO more = true) (ht : t < C.n) (hk : ∀ i' h' rr, CurOk b i' → Q rr → RunsL P C ops rest k R ⟨(t, instA (more.length + 1) rr) :: env, (curOb ct u i' h' :: more) ++ obs rr⟩) :
    RunsL P C ops (⟨some t, .call { callee := .value (.func f), args := (x0 :: xs).toArray, argTypes := ats }, ty, pos, after, none⟩ :: rest) k R ⟨env, σ⟩ := by
  refine ⟨fun a w ⟨s1, s2, φ, hG, hH⟩ => ?_⟩
  refine wpList_plain rfl fun K hK' => ?_
  refine draw_wpN hf hc hu hi (m := ⟨w, φ, σ, C.ok⟩) hG hσ (ha ▸ FitsL.ros args) (fun x _ => ev_rel hH x) fun rr v w' i' h' bs g hQ hD => ?_
  obtain ⟨φ', g1, g2, g3⟩ := hD.simO hG hσ hu.one hcl
  exact hK' _ _ ((hk i' h' rr hD.ok hQ).run _ _ (sim_put (S := ⟨env, σ⟩) s1 s2 hH g1 rfl hce g2 ht g3))
end
end Go.Proofs.Ytnecoghfhcimeaa
/- Regions that draw their order, with allocations and a tail of effects: plain moves first, then pure operations and allocations in any order, then the rest as the text says. Over any program. -/
namespace Go.Proofs.Ytnecoghfhcimeaa
set_option linter.unusedSimpArgs false
set_option linter.unusedVariables false
open Go.RowKit
open AV (Mem Keeps)
section
variable {C : Ctx} {w : World} {φ : Nat → Option Nat} {σ : List Ob} {q : Nat} {e : TypeId} {cs : List AV} {us : Array Value}
mutual
theorem rel_fill (hq : σ[q]? = some ⟨e, 0, []⟩) (hφ : φ q = none) : ∀ (v : AV) (u : Value), AV.rel ⟨w, φ, σ, C.ok⟩ v u → AV.rel ⟨w.alloc (.cells us e), upd φ q (some w.heap.size), σ.set q ⟨e, 0, cs⟩, C.ok⟩ v u
  | .ro r, u, h => by
    simp only [AV.rel] at h ⊢
    refine RV.rel_mono ⟨(below_one w _).size, fun b hlt hok => ⟨⟨hok.1, fun i hi he => ?_⟩, (below_one w _).block b hlt⟩⟩ r u h
    by_cases hiq : i = q
    · subst hiq; simp only [upd_eq, Option.some.injEq] at he; omega
    · simp only [upd_ne hiq] at he; exact hok.2 i (by simpa using hi) he
  | .junk, u, _ => by simp [AV.rel]
  | .obj i off, u, h => by
    simp only [AV.rel] at h ⊢
    obtain ⟨h1, g, h2, h3⟩ := h
    have hiq : i ≠ q := by rintro rfl; rw [hφ] at h2; cases h2
    exact ⟨by simpa using h1, g, (upd_ne hiq).trans h2, h3⟩
  | .pin i off g, u, h => by
    simp only [AV.rel] at h ⊢
    obtain ⟨h1, h2, h3⟩ := h
    have hiq : i ≠ q := by rintro rfl; rw [hφ] at h2; cases h2
    exact ⟨by simpa using h1, (upd_ne hiq).trans h2, h3⟩
  | .own i, u, h => by
    simp only [AV.rel] at h ⊢
    obtain ⟨ob, n, h1, h2, h3, h4⟩ := h
    have hiq : i ≠ q := by rintro rfl; rw [hq] at h1; injection h1 with h1; subst h1; exact absurd h3 (Nat.lt_irrefl 0)
    refine ⟨ob, n, by rw [List.getElem?_set_ne (Ne.symm hiq)]; exact h1, h2, h3, ?_⟩
    rcases h4 with ⟨e1, e2, e3⟩ | ⟨g, cap, vs, hg, e1, hh, c1⟩
    · exact .inl ⟨e1, e2, (upd_ne hiq).trans e3⟩
    · exact .inr ⟨g, cap, vs, (upd_ne hiq).trans hg, e1, ((below_one w _).block g (Array.getElem?_eq_some_iff.1 hh).1).trans hh, c1⟩
  | .agg vs, u, h => by
    simp only [AV.rel] at h ⊢
    obtain ⟨us', e1, h1⟩ := h
    exact ⟨us', e1, rels_fill hq hφ vs _ h1⟩
  | .tup vs, u, h => by
    simp only [AV.rel] at h ⊢
    obtain ⟨us', e1, h1⟩ := h
    exact ⟨us', e1, rels_fill hq hφ vs _ h1⟩
  | .fn f a b, u, h => by
    simp only [AV.rel] at h ⊢
    obtain ⟨us', vs', e1, h1, h2⟩ := h
    exact ⟨us', vs', e1, rels_fill hq hφ a _ h1, rels_fill hq hφ b _ h2⟩
theorem rels_fill (hq : σ[q]? = some ⟨e, 0, []⟩) (hφ : φ q = none) : ∀ (vs : List AV) (us' : List Value), AV.rels ⟨w, φ, σ, C.ok⟩ vs us' → AV.rels ⟨w.alloc (.cells us e), upd φ q (some w.heap.size), σ.set q ⟨e, 0, cs⟩, C.ok⟩ vs us'
  | [], us', h => by simpa [AV.rels] using h
  | x :: xs, us', h => by
    simp only [AV.rels] at h ⊢
    obtain ⟨u, us'', e1, h1, h2⟩ := h
    exact ⟨u, us'', e1, rel_fill hq hφ x u h1, rels_fill hq hφ xs us'' h2⟩
end
theorem good_fill (hG : Good C ⟨w, φ, σ, C.ok⟩) (hq : σ[q]? = some ⟨e, 0, []⟩) (hφ : φ q = none) (zs : List Value) (h1 : ∀ x ∈ zs, x.oneCell' = true) :
    Good C ⟨w.alloc (.cells zs.toArray e), upd φ q (some w.heap.size), σ.set q ⟨e, 0, zs.map fun v => .ro (.c v)⟩, C.ok⟩ := by
  have hql : q < σ.length := (List.getElem?_eq_some_iff.1 hq).1
  have hb := below_one w (.cells zs.toArray e)
  refine ⟨rfl, fun i j g hi hj e1 e2 => ?_, fun i o hi => ?_, fun i g hi hg => ?_, hG.frm.below hb⟩
  · simp only [List.length_set] at hi hj
    by_cases hiq : i = q <;> by_cases hjq : j = q
    · omega
    · subst hiq; simp only [upd_eq, Option.some.injEq] at e1; simp only [upd_ne hjq] at e2
      have := hG.lt hj e2; simp only at this; omega
    · subst hjq; simp only [upd_eq, Option.some.injEq] at e2; simp only [upd_ne hiq] at e1
      have := hG.lt hi e1; simp only at this; omega
    · simp only [upd_ne hiq] at e1; simp only [upd_ne hjq] at e2
      exact hG.inj i j g hi hj e1 e2
  · by_cases hiq : i = q
    · subst hiq
      simp only [List.getElem?_set_self hql, Option.some.injEq] at hi
      subst hi
      simp only [upd_eq, ObRel]
      refine ⟨zs.toArray, heap_alloc_new w _, by simp, fun j v hj => ?_⟩
      rw [List.getElem?_map, Option.map_eq_some_iff] at hj
      obtain ⟨x, hx, rfl⟩ := hj
      exact ⟨x, by simpa using hx, h1 x (List.mem_of_getElem? hx), by simp [AV.rel, RV.rel]⟩
    · simp only [List.getElem?_set_ne (Ne.symm hiq)] at hi
      have h := hG.ob i o hi
      simp only [upd_ne hiq]
      simp only at h
      cases hg : φ i with
      | none => rw [hg] at h; exact h
      | some g =>
        rw [hg] at h
        obtain ⟨vs, q1, q2, q3⟩ := h
        refine ⟨vs, (hb.block g (Array.getElem?_eq_some_iff.1 q1).1).trans q1, q2, fun j v hj => ?_⟩
        obtain ⟨x, k1, k2, k3⟩ := q3 j v hj
        exact ⟨x, k1, k2, rel_fill hq hφ v x k3⟩
  · simp only [List.length_set] at hi
    by_cases hiq : i = q
    · subst hiq; simp only [upd_eq, Option.some.injEq] at hg; subst hg; exact .inr hG.frm.size
    · simp only [upd_ne hiq] at hg; exact hG.mine i g hi hg
end
abbrev Res := List (Nat × TypeId × List Value)
def resOb (listed : Array Bool) (r : Nat × TypeId × List Value) : Ob := ⟨r.2.1, 0, if listed.getD r.1 false = true then r.2.2.map (fun v => .ro (.c v)) else []⟩
def res (rs : Res) (listed : Array Bool) : List Ob := rs.map (resOb listed)
def full (rs : Res) : List Ob := rs.map fun r => ⟨r.2.1, 0, r.2.2.map fun v => .ro (.c v)⟩
def YF (P : Program) (C : Ctx) (ops : Array Oper) (σ : List Ob) (rs : Res) (i : Nat) (o : Oper) (v : AV) (E : EE) : Prop :=
  ((∀ r ∈ rs, r.1 ≠ i) ∧ ((gsayE ops E o.guard = some true ∧ ∀ more, PurF P C o E (σ ++ more) v) ∨ (gsayE ops E o.guard = some false ∧ v = .ro (.c undef)))) ∨
  (∃ p e zs, rs[p]? = some (i, e, zs) ∧ o.op = .alloc e ∧ o.guard = none ∧ o.dst.isSome = true ∧ TZ P e zs ∧ v = .obj (σ.length + p) 0)
section
variable {P : Program} {C : Ctx} {ops : Array Oper} {σ : List Ob} {md : Region.Mode} {rs : Res}
theorem YF.put {i : Nat} {oi oj : Oper} {v u : AV} {E : EE} (hy : YF P C ops σ rs i oi v E) (h3 : ∀ d, oj.dst = some d → d ∉ oi.looksAt ops) : YF P C ops σ rs i oi v (putE E oj.dst u) := by
  unfold YF at *
  rw [gsay_put h3]
  rcases hy with ⟨h0, ⟨hw, hv⟩ | hy⟩ | hy
  · exact .inl ⟨h0, .inl ⟨hw, fun more => (hv more).congr fun x hx => evE_put fun t ht => mem_looks_op (h3 t ht) x hx⟩⟩
  · exact .inl ⟨h0, .inr hy⟩
  · exact .inr hy
theorem YF.unput {i : Nat} {oi : Oper} {d : Option Nat} {v u : AV} {E : EE} (hy : YF P C ops σ rs i oi v (putE E d u)) (h3 : ∀ t, d = some t → t ∉ oi.looksAt ops) : YF P C ops σ rs i oi v E := by
  unfold YF at *
  rw [gsay_put h3] at hy
  rcases hy with ⟨h0, ⟨hw, hv⟩ | hy⟩ | hy
  · exact .inl ⟨h0, .inl ⟨hw, fun more => (hv more).congr fun x hx => (evE_put fun t ht => mem_looks_op (h3 t ht) x hx).symm⟩⟩
  · exact .inl ⟨h0, .inr hy⟩
  · exact .inr hy
def aOpR (P : Program) (C : Ctx) (ops : Array Oper) (σ : List Ob) (rs : Res) (i : Nat) (K : EE → Prop) (E : EE) : Prop := ∃ o v, ops[i]? = some o ∧ YF P C ops σ rs i o v E ∧ K (putE E o.dst v)
theorem aOpR_mono {i : Nat} {E : EE} {K K' : EE → Prop} (h : ∀ E, K E → K' E) (hh : aOpR P C ops σ rs i K E) : aOpR P C ops σ rs i K' E := by
  obtain ⟨o, v, h1, h2, h3⟩ := hh
  exact ⟨o, v, h1, h2, h _ h3⟩
theorem aOpR_put {i j : Nat} {oi oj : Oper} {v : AV} (hj : ops[j]? = some oj) (hap : oi.apart ops oj = true) {K : EE → Prop} {E : EE} (hy : YF P C ops σ rs i oi v E) (h : aOpR P C ops σ rs j K (putE E oi.dst v)) :
    aOpR P C ops σ rs j (fun E' => YF P C ops σ rs i oi v E' ∧ K (putE E' oi.dst v)) E := by
  obtain ⟨h1, h2, h3⟩ := Oper.apart_spec hap
  obtain ⟨o, u, k1, k2, k3⟩ := h
  rw [hj] at k1; injection k1 with k1; subst k1
  refine ⟨oj, u, hj, k2.unput h1, hy.put h3, ?_⟩
  rw [← putE_comm h2]; exact k3
def wpAnyR (P : Program) (C : Ctx) (md : Region.Mode) (ops : Array Oper) (σ : List Ob) (rs : Res) (n : Nat) (L : Array Bool → EE → Prop) : Nat → Array Bool → EE → Prop
  | 0, listed, E => L listed E
  | f + 1, listed, E => Region.ready md ops listed ≠ [] ∧ ∀ i ∈ Region.ready md ops listed, i < n ∧ aOpR P C ops σ rs i (wpAnyR P C md ops σ rs n L f (listed.setIfInBounds i true)) E
def sinkP (md : Region.Mode) (ops : Array Oper) (pre : List Nat) (n : Nat) : Bool :=
  (List.range n).all fun i => pre.contains i || (List.range (n + 1)).any fun j => decide (i < j) && Region.waitsFor md ops j i
theorem tail_waitsP {n : Nat} {pre : List Nat} {listed : Array Bool} (hs : sinkP md ops pre n = true) (hc : Region.chainB md ops n = true) (hn : n < ops.size) (inv : HeadInv md ops n listed) (hp : ∀ i ∈ pre, listed.getD i true = true) :
    ∀ (d i : Nat), n - i = d → i < n → listed.getD i true = false → ∀ t, n ≤ t → t ∉ Region.ready md ops listed := by
  intro d
  induction d using Nat.strongRecOn with
  | _ d ih =>
    intro i hd hi hun t ht hr
    obtain ⟨_, ot, hot, hall⟩ := mem_ready.1 hr
    have htlt : t < ops.size := (Array.getElem?_eq_some_iff.1 hot).1
    by_cases htn : t = n
    · subst htn
      have h1 := List.all_eq_true.1 hs i (List.mem_range.2 hi)
      rw [Bool.or_eq_true] at h1
      rcases h1 with h1 | h1
      · have := hp i (by simpa using h1)
        rw [hun] at this; cases this
      obtain ⟨j, hj, hj2⟩ := List.any_eq_true.1 h1
      simp only [Bool.and_eq_true, decide_eq_true_eq] at hj2
      obtain ⟨oj, hoj, e, he, hb, hon⟩ := Region.waitsFor_spec hj2.2
      have hjle : j ≤ t := by have := List.mem_range.1 hj; omega
      by_cases hjt : j = t
      · subst hjt
        have : oj = ot := Option.some.inj (hoj.symm.trans hot)
        subst this
        have h2 := hall e he hb
        rw [hon, getD_both hun] at h2
        cases h2
      · cases hl : listed.getD j false with
        | true =>
          have h2 := inv.closed j oj hoj hl e he hb
          rw [hon, getD_both hun] at h2
          cases h2
        | false =>
          have hjs : j < listed.size := by rw [inv.size]; omega
          exact ih (t - j) (by omega) j rfl (by omega) (getD_in hjs hl) t (Nat.le_refl _) hr
    · have h1 := List.all_eq_true.1 hc t (List.mem_range.2 htlt)
      simp only [Bool.or_eq_true, decide_eq_true_eq] at h1
      rcases h1 with h1 | h1
      · omega
      · obtain ⟨o', ho', e, he, hb, hon⟩ := Region.waitsFor_spec h1
        have : o' = ot := Option.some.inj (ho'.symm.trans hot)
        subst this
        have h2 := hall e he hb
        rw [hon, getD_both (inv.tail (t - 1) (by omega) (by omega))] at h2
        cases h2
theorem getD_set_keep {listed : Array Bool} {i j : Nat} (h : listed.getD i true = true) : (listed.setIfInBounds j true).getD i true = true := by
  by_cases e : j = i
  · subst e
    simp only [Array.getD_eq_getD_getElem?, Array.getElem?_setIfInBounds, if_true]
    split <;> rfl
  · rw [getD_set_ne true e]; exact h
theorem wpAnyR_first {n i : Nat} {pre : List Nat} {oi : Oper} {v : AV} {L : Array Bool → EE → Prop} (hi : ops[i]? = some oi)
    (hs : sinkP md ops pre n = true) (hc : Region.chainB md ops n = true) (hn : n < ops.size) (hin : i < n)
    (hdone : ∀ listed E, L listed E → ∀ j ∈ Region.ready md ops listed, n ≤ j) :
    ∀ (f : Nat) (listed : Array Bool) (E : EE), HeadInv md ops n listed → (∀ i ∈ pre, listed.getD i true = true) →
      (∀ j oj, ops[j]? = some oj → j ≠ i → listed.getD j true = false → (∀ e ∈ oj.after, Region.binds md e = true → e.on ≠ i) → oi.apart ops oj = true) →
      i ∈ Region.ready md ops listed → YF P C ops σ rs i oi v E →
      wpAnyR P C md ops σ rs n L f (listed.setIfInBounds i true) (putE E oi.dst v) → wpAnyR P C md ops σ rs n L (f + 1) listed E := by
  intro f
  induction f with
  | zero =>
    intro listed E inv hp _ hr hy H
    have hun := (mem_ready.1 hr).1
    refine ⟨fun h => (by rw [h] at hr; cases hr), fun j hj => ?_⟩
    have hjn : j < n := by
      rcases Nat.lt_or_ge j n with h | h
      · exact h
      · exact absurd hj (tail_waitsP hs hc hn inv hp _ i rfl hin hun j h)
    refine ⟨hjn, ?_⟩
    by_cases hji : j = i
    · subst hji; exact ⟨oi, v, hi, hy, H⟩
    · have := hdone _ _ H j (ready_mono hj hji)
      omega
  | succ f ih =>
    intro listed E inv hp hfree hr hy H
    have hun := (mem_ready.1 hr).1
    refine ⟨fun h => (by rw [h] at hr; cases hr), fun j hj => ?_⟩
    have hjn : j < n := by
      rcases Nat.lt_or_ge j n with h | h
      · exact h
      · exact absurd hj (tail_waitsP hs hc hn inv hp _ i rfl hin hun j h)
    refine ⟨hjn, ?_⟩
    by_cases hji : j = i
    · subst hji; exact ⟨oi, v, hi, hy, H⟩
    · have h1 := (H.2 j (ready_mono hj hji)).2
      obtain ⟨hjun, oj, hoj, hall⟩ := mem_ready.1 hj
      have hnot : ∀ e ∈ oj.after, Region.binds md e = true → e.on ≠ i := fun e he hb heq => by
        have h1 := hall e he hb
        rw [heq, getD_both hun] at h1
        cases h1
      have h2 := aOpR_put hoj (hfree j oj hoj hji hjun hnot) hy h1
      have hfree' : ∀ k ok, ops[k]? = some ok → k ≠ i → (listed.setIfInBounds j true).getD k true = false →
          (∀ e ∈ ok.after, Region.binds md e = true → e.on ≠ i) → oi.apart ops ok = true := fun k ok hk hki hun hno => by
        refine hfree k ok hk hki ?_ hno
        by_cases hjk : j = k
        · subst hjk; exact hjun
        · rw [getD_set_ne true hjk] at hun; exact hun
      refine aOpR_mono (fun a' h3 => ih (listed.setIfInBounds j true) a' (inv.set hj hjn) (fun i hi => getD_set_keep (hp i hi)) hfree' (ready_mono hr (Ne.symm hji)) h3.1 ?_) h2
      rw [Array.setIfInBounds_comm _ _ hji]
      exact h3.2
def wpLexR (P : Program) (C : Ctx) (ops : Array Oper) (σ : List Ob) (rs : Res) (Q : EE → Prop) : List (Nat × Oper) → EE → Prop
  | [], E => Q E
  | (i, o) :: rest, E => ∃ v, YF P C ops σ rs i o v E ∧ wpLexR P C ops σ rs Q rest (putE E o.dst v)
def lexIdx (md : Region.Mode) (ops : Array Oper) (g n : Nat) : List Nat → Array Bool → Bool
  | [], listed => Region.seqB md ops g n listed && (List.range n).all fun j => listed.getD j false
  | k :: is, listed => (Region.ready md ops listed).contains k && Region.free md ops listed k && decide (k < n) && lexIdx md ops g n is (listed.setIfInBounds k true)
theorem wpAnyR_lex {n g : Nat} {pre : List Nat} {Lq : EE → Prop} (hs : sinkP md ops pre n = true) (hc : Region.chainB md ops n = true) (hn : n < ops.size) :
    ∀ (l : List (Nat × Oper)) (listed : Array Bool) (E : EE), (∀ p ∈ l, ops[p.1]? = some p.2) → HeadInv md ops n listed → (∀ i ∈ pre, listed.getD i true = true) →
    lexIdx md ops g n (l.map (·.1)) listed = true → wpLexR P C ops σ rs Lq l E →
    wpAnyR P C md ops σ rs n (fun listed' E' => Region.seqB md ops g n listed' = true ∧ (∀ j, j < n → listed'.getD j false = true) ∧ Lq E') l.length listed E
  | [], listed, E, _, _, _, hB, h => by
    simp only [List.map_nil, lexIdx, Bool.and_eq_true] at hB
    exact ⟨hB.1, fun j hj => List.all_eq_true.1 hB.2 j (List.mem_range.2 hj), h⟩
  | (k, o) :: l, listed, E, hl, inv, hp, hB, h => by
    have h0 : ops[k]? = some o := hl (k, o) (by simp)
    simp only [List.map_cons, lexIdx, Bool.and_eq_true, decide_eq_true_eq] at hB
    obtain ⟨⟨⟨hr, hf⟩, hkn⟩, hB'⟩ := hB
    have hr' : k ∈ Region.ready md ops listed := by simpa using hr
    obtain ⟨v, hy, hK⟩ := h
    exact wpAnyR_first h0 hs hc hn hkn (fun listed' E' hL => seqB_ready hL.1) l.length listed E inv hp (Region.free_spec h0 hf) hr' hy
      (wpAnyR_lex hs hc hn l _ _ (fun p hp => hl p (by simp [hp])) (inv.set hr' hkn) (fun i hi => getD_set_keep (hp i hi)) hB' hK)
end
structure SimR (C : Ctx) (σ : List Ob) (rs : Res) (listed : Array Bool) (E : EE) (a : Act) (w : World) : Prop where
  defers : a.defers = []
  size : a.tmps.size = C.n
  mem : ∃ φ, Good C ⟨w, φ, σ ++ res rs listed, C.ok⟩ ∧ (∀ p r, rs[p]? = some r → listed.getD r.1 false = false → φ (σ.length + p) = none) ∧ ∀ t, AV.rel ⟨w, φ, σ ++ res rs listed, C.ok⟩ (E t) (a.tmps.getD t undef)
theorem res_same {rs : Res} {listed : Array Bool} {i : Nat} (h : ∀ r ∈ rs, r.1 ≠ i) : res rs (listed.setIfInBounds i true) = res rs listed := by
  unfold res
  refine List.map_congr_left fun r hr => ?_
  unfold resOb
  rw [getD_set_ne false (Ne.symm (h r hr))]
theorem res_set {rs : Res} {listed : Array Bool} {i p : Nat} {e : TypeId} {zs : List Value} (hnd : (rs.map (·.1)).Nodup) (hp : rs[p]? = some (i, e, zs)) (hi : i < listed.size) :
    res rs (listed.setIfInBounds i true) = (res rs listed).set p ⟨e, 0, zs.map fun v => .ro (.c v)⟩ := by
  apply List.ext_getElem?
  intro j
  rw [List.getElem?_set]
  unfold res
  rw [List.getElem?_map]
  by_cases e : p = j
  · subst e
    have hlt : p < rs.length := (List.getElem?_eq_some_iff.1 hp).1
    rw [hp]
    simp [resOb, hlt, hi]
  · rw [if_neg e, List.getElem?_map]
    cases hj : rs[j]? with
    | none => rfl
    | some r =>
      simp only [Option.map_some, Option.some.injEq]
      have hne : r.1 ≠ i := by
        intro he
        have h1 : (rs.map (·.1))[p]? = some i := by simp [hp]
        have h2 : (rs.map (·.1))[j]? = some i := by simp [hj, he]
        have hpl := (List.getElem?_eq_some_iff.1 h1).1
        exact e ((List.getElem?_inj hpl hnd).1 (h1.trans h2.symm))
      unfold resOb
      rw [getD_set_ne false (Ne.symm hne)]
section
variable {P : Program} {C : Ctx} {ops : Array Oper} {σ : List Ob} {md : Region.Mode} {rs : Res} {listed : Array Bool} {E : EE} {a : Act} {w : World}
theorem ev_evE' {m : Mem} {a : Act} {E : EE} (hE : ∀ t, AV.rel m (E t) (a.tmps.getD t undef)) (x : Operand) : AV.rel m (evE E x) (a.eval x) := by
  have := ev_rel (env := []) (m := m) (a := a) (fun t => by simp [look, AV.rel]) x
  cases x with
  | tmp t => exact hE t
  | const c => cases c <;> simpa [ev, evE] using this
  | func f => simpa [ev, evE] using this
  | global g => simp [evE, AV.rel]
theorem SimR.op {Q : Exit → Act → World → Prop} {i : Nat} {o : Oper} {v : AV} {K : Act → World → Prop} (hnd : (rs.map (·.1)).Nodup) (hs : SimR C σ rs listed E a w) (hi : listed.getD i true = false) (ho : ops[i]? = some o) (hd : ∀ t, o.dst = some t → t < C.n)
    (hy : YF P C ops σ rs i o v E) (hK : ∀ a' w', SimR C σ rs (listed.setIfInBounds i true) (putE E o.dst v) a' w' → K a' w') : wpOp P ops Q i K a w := by
  obtain ⟨s1, s2, φ, hG, hφ, hE⟩ := hs
  obtain ⟨dst, op, ty, pos, after, g⟩ := o
  have putR : ∀ {φ' : Nat → Option Nat} {σ' : List Ob} {w' : World} {u : Value}, (∀ t, AV.rel ⟨w', φ', σ', C.ok⟩ (E t) (a.tmps.getD t undef)) → AV.rel ⟨w', φ', σ', C.ok⟩ v u → ∀ t, AV.rel ⟨w', φ', σ', C.ok⟩ (putE E dst v t) ((a.put dst u).tmps.getD t undef) := by
    intro φ' σ' w' u h1 h2 t
    cases dst with
    | none => exact h1 t
    | some s =>
      rw [getD_put a s t u (by rw [s2]; exact hd s rfl)]
      simp only [putE]
      split
      · exact h2
      · exact h1 t
  have szR : ∀ u, (a.put dst u).tmps.size = C.n := fun u => by cases dst <;> simp [Act.put, s2]
  have dfR : ∀ u, (a.put dst u).defers = [] := fun u => by cases dst <;> exact s1
  unfold wpOp
  simp only [ho]
  rcases hy with ⟨h0, ⟨hg, hv⟩ | ⟨hg, rfl⟩⟩ | ⟨p, e, zs, hp, hop, hgd, hds, hz, rfl⟩
  · rw [if_pos (gsay_yes hg a _ hE)]
    refine .inl (hv (res rs listed) a ⟨w, φ, σ ++ res rs listed, C.ok⟩ hG rfl (fun x _ => ev_evE' hE x) _ _ fun u w' hb hu => hK _ _ ?_)
    obtain ⟨g1, g2⟩ := good_below hG hb
    refine ⟨dfR u, szR u, φ, ?_, fun p r hp hl => hφ p r hp ?_, ?_⟩
    · rw [res_same h0]; exact g1
    · rwa [getD_set_ne false (Ne.symm (h0 r (List.mem_of_getElem? hp)))] at hl
    · rw [res_same h0]; exact putR (fun t => AV.rel_keeps g2 _ _ (AV.only_true _) (hE t)) hu
  · rw [gsay_no hg a _ hE, if_neg (by simp)]
    refine hK _ _ ⟨dfR _, szR _, φ, ?_, fun p r hp hl => hφ p r hp ?_, ?_⟩
    · rw [res_same h0]; exact hG
    · rwa [getD_set_ne false (Ne.symm (h0 r (List.mem_of_getElem? hp)))] at hl
    · rw [res_same h0]; exact putR hE (by simp [AV.rel, RV.rel])
  · simp only at hop hgd hds
    subst hop; subst hgd
    have his : i < listed.size := by
      rcases Nat.lt_or_ge i listed.size with h | h
      · exact h
      · simp [Array.getElem?_eq_none h] at hi
    have hlf : listed.getD i false = false := getD_both hi
    rw [if_pos (by simp [Region.wanted])]
    refine .inl ?_
    obtain ⟨inf, z, h1, h2, h3, h4⟩ := hz.h
    unfold Oper.wp
    have hrun : (execOp a.eval ⟨dst, .alloc e, ty, pos, after, none⟩).run P w = .ok (.value (.pointer (some ⟨w.heap.size, 0, none⟩))) (w.alloc (.cells zs.toArray e)) := by
      simp [execOp, Instr.alloc, zeroValue, typeInfo, h1, h2, newVar, newRow, newObj, h3]; rfl
    rw [hrun]
    simp only [Oper.upon]
    have hpl : p < rs.length := (List.getElem?_eq_some_iff.1 hp).1
    have hlf' : ¬ listed.getD i false = true := by rw [hlf]; simp
    have hq : (σ ++ res rs listed)[σ.length + p]? = some ⟨e, 0, []⟩ := by
      rw [List.getElem?_append_right (by omega), show σ.length + p - σ.length = p by omega]
      unfold res
      rw [List.getElem?_map, hp]
      simp only [Option.map_some, resOb]
      rw [if_neg hlf']
    have hφq := hφ p _ hp hlf
    refine hK _ _ ⟨dfR _, szR _, upd φ (σ.length + p) (some w.heap.size), ?_, fun p' r hp' hl => ?_, ?_⟩
    · have := good_fill hG hq hφq zs h4
      rwa [List.set_append_right _ _ (by omega), show σ.length + p - σ.length = p by omega, ← res_set hnd hp his] at this
    · by_cases hpp : p' = p
      · subst hpp
        rw [hp] at hp'; injection hp' with hp'; subst hp'
        simp [his] at hl
      · have hri : r.1 ≠ i := fun he => by rw [he] at hl; simp [his] at hl
        rw [getD_set_ne false (Ne.symm hri)] at hl
        rw [upd_ne (by omega)]
        exact hφ p' r hp' hl
    · have hall : ∀ t, AV.rel ⟨w.alloc (.cells zs.toArray e), upd φ (σ.length + p) (some w.heap.size), (σ ++ res rs listed).set (σ.length + p) ⟨e, 0, zs.map fun v => .ro (.c v)⟩, C.ok⟩ (E t) (a.tmps.getD t undef) := fun t => rel_fill hq hφq _ _ (hE t)
      rw [List.set_append_right _ _ (by omega), show σ.length + p - σ.length = p by omega, ← res_set hnd hp his] at hall
      refine putR hall ?_
      simp only [AV.rel]
      exact ⟨by simp [res]; omega, w.heap.size, upd_eq, rfl⟩
theorem wpAny_of_R {n g : Nat} {L : Array Bool → EE → Prop} {Q' : Exit → Act → World → Prop} (hnd : (rs.map (·.1)).Nodup) (hd : ∀ (i : Nat) o t, ops[i]? = some o → o.dst = some t → t < C.n)
    (hL : ∀ listed E a w, L listed E → SimR C σ rs listed E a w → wpAny P md ops Q' g listed a w) :
    ∀ (f : Nat) (listed : Array Bool) (E : EE) (a : Act) (w : World), SimR C σ rs listed E a w → wpAnyR P C md ops σ rs n L f listed E → wpAny P md ops Q' (f + g) listed a w
  | 0, listed, E, a, w, hs, h => by rw [Nat.zero_add]; exact hL _ _ _ _ h hs
  | f + 1, listed, E, a, w, hs, h => by
    rw [show f + 1 + g = (f + g) + 1 by omega]
    refine ⟨fun h0 => absurd h0 h.1, fun i hi => ?_⟩
    obtain ⟨o, v, ho, hy, hK⟩ := (h.2 i hi).2
    exact SimR.op hnd hs (mem_ready.1 hi).1 ho (fun t ht => hd i o t ho ht) hy fun a' w' hs' => wpAny_of_R hnd hd hL f _ _ a' w' hs' hK
end
section
variable {P : Program} {md : Region.Mode} {ops : Array Oper} {Q' : Exit → Act → World → Prop}
def isMove (o : Oper) : Bool := match o with
  | ⟨some _, .move _, _, _, _, none⟩ => true
  | _ => false
def movedTo (o : Oper) (a : Act) : Value := match o.op with
  | .move x => a.eval x
  | _ => undef
theorem run_move {o : Oper} (h : isMove o = true) (a : Act) (w : World) : Region.wanted o (yielded ops a.tmps) = true ∧ (execOp a.eval o).run P w = .ok (.value (movedTo o a)) w := by
  obtain ⟨dst, op, ty, pos, after, g⟩ := o
  unfold isMove at h
  split at h
  · rename_i he; injection he with e1 e2 e3 e4 e5 e6; subst e1; subst e2; subst e6
    exact ⟨by simp [Region.wanted], by simp [execOp, movedTo]⟩
  · cases h
theorem movedTo_put {oi oj : Oper} (hm : isMove oi = true) (a : Act) (u : Value) (h3 : ∀ d, oj.dst = some d → d ∉ oi.looksAt ops) : movedTo oi (a.put oj.dst u) = movedTo oi a := by
  obtain ⟨dst, op, ty, pos, after, g⟩ := oi
  unfold isMove at hm
  split at hm
  · rename_i x _ _ _ he; injection he with e1 e2 e3 e4 e5 e6; subst e1; subst e2; subst e6
    simp only [movedTo]
    refine Act.eval_put fun d hd hxd => h3 d hd ?_
    subst hxd
    exact List.mem_append_left _ (List.mem_filterMap.2 ⟨.tmp d, by simp [Op.operands], rfl⟩)
  · cases hm
theorem wpOp_move {F : Act → World → Prop} {j : Nat} {oi oj : Oper} (hj : ops[j]? = some oj) (hm : isMove oi = true) (hap : oi.apart ops oj = true) (hsj : ∀ cs b, oj.op ≠ .select cs b) {K K' : Act → World → Prop} {a : Act} {w : World}
    (h : wpOp P ops (nrm F) j K' (a.put oi.dst (movedTo oi a)) w) (hK : ∀ a' w', movedTo oi a' = movedTo oi a → K' (a'.put oi.dst (movedTo oi a)) w' → K a' w') : wpOp P ops (nrm F) j K a w := by
  obtain ⟨h1, h2, h3⟩ := Oper.apart_spec hap
  unfold wpOp at *
  simp only [hj] at *
  rw [wanted_put oj a oi.dst _ h1] at h
  have key : ∀ u w', K' ((a.put oi.dst (movedTo oi a)).put oj.dst u) w' → K (a.put oj.dst u) w' := fun u w' hk => hK _ _ (movedTo_put hm a u h3) (by rwa [← Act.put_comm a (movedTo oi a) u h2])
  split
  · rename_i hw
    simp only [hw, if_true] at h
    refine h.imp (fun h => ?_) (fun h => ⟨?_, h.2⟩)
    · unfold Oper.wp at *
      rw [execOp_put oj hsj a oi.dst _ h1] at h
      generalize (execOp a.eval oj).run P w = r at *
      cases r with
      | ok n w' =>
        cases n with
        | value u => exact key u w' h
        | skip => exact key undef w' h
        | enter f args => exact Calls.mono h (fun e w'' he => by cases e <;> first | exact key _ w'' he | exact he | exact he.elim)
        | row r args => exact Rows.mono h fun v w'' he => key v w'' he
        | defer d =>
          simp only [Oper.upon] at h ⊢
          have e : ({ a.put oi.dst (movedTo oi a) with defers := d :: (a.put oi.dst (movedTo oi a)).defers } : Act).put oj.dst undef = (({ a with defers := d :: a.defers } : Act).put oj.dst undef).put oi.dst (movedTo oi a) := by
            have := Act.put_comm ({ a with defers := d :: a.defers } : Act) (movedTo oi a) undef h2
            rw [← this]
            cases oi.dst <;> rfl
          rw [e] at h
          refine hK _ _ ?_ h
          have := movedTo_put (ops := ops) (oj := oj) hm ({ a with defers := d :: a.defers } : Act) undef h3
          rw [this]
          cases hop : oi.op <;> simp [movedTo, hop]
          rfl
        | _ => exact h
      | halt x w' => cases x <;> exact h
    · have := h.1
      unfold Oper.asks at this ⊢
      rwa [execOp_put oj hsj a oi.dst _ h1] at this
  · rename_i hw
    simp only [hw] at h
    exact key undef w h
theorem wpAny_move {F : Act → World → Prop} {i : Nat} {oi : Oper} (hi : ops[i]? = some oi) (hm : isMove oi = true) (hsel : ∀ (j : Nat) (o : Oper) cs b, ops[j]? = some o → o.op ≠ .select cs b) :
    ∀ (fuel : Nat) (listed : Array Bool) (a : Act) (w : World),
      (∀ j oj, ops[j]? = some oj → j ≠ i → listed.getD j true = false → (∀ e ∈ oj.after, Region.binds md e = true → e.on ≠ i) → oi.apart ops oj = true) →
      i ∈ Region.ready md ops listed →
      wpAny P md ops (nrm F) fuel (listed.setIfInBounds i true) (a.put oi.dst (movedTo oi a)) w → wpAny P md ops (nrm F) (fuel + 1) listed a w := by
  have own : ∀ {K : Act → World → Prop} {a : Act} {w : World}, K (a.put oi.dst (movedTo oi a)) w → wpOp P ops (nrm F) i K a w := by
    intro K a w h
    obtain ⟨e1, e2⟩ := run_move (P := P) (ops := ops) hm a w
    unfold wpOp
    simp only [hi]
    rw [if_pos e1]
    refine .inl ?_
    unfold Oper.wp
    rw [e2]
    exact h
  intro fuel
  induction fuel with
  | zero =>
    intro listed a w _ hr H
    refine ⟨fun h => (by rw [h] at hr; cases hr), fun j hj => ?_⟩
    by_cases hji : j = i
    · subst hji; exact own H
    · have := ready_mono hj hji
      rw [H.1] at this
      cases this
  | succ fuel ih =>
    intro listed a w hfree hr H
    refine ⟨fun h => (by rw [h] at hr; cases hr), fun j hj => ?_⟩
    by_cases hji : j = i
    · subst hji; exact own H
    · have h1 := H.2 j (ready_mono hj hji)
      obtain ⟨hjun, oj, hoj, hall⟩ := mem_ready.1 hj
      have hnot : ∀ e ∈ oj.after, Region.binds md e = true → e.on ≠ i := fun e he hb heq => by
        have h1 := hall e he hb
        have h0 := (mem_ready.1 hr).1
        rw [heq, getD_both h0] at h1
        cases h1
      have hfree' : ∀ k ok, ops[k]? = some ok → k ≠ i → (listed.setIfInBounds j true).getD k true = false →
          (∀ e ∈ ok.after, Region.binds md e = true → e.on ≠ i) → oi.apart ops ok = true := fun k ok hk hki hun hno => by
        refine hfree k ok hk hki ?_ hno
        by_cases hjk : j = k
        · subst hjk; exact hjun
        · rw [getD_set_ne true hjk] at hun; exact hun
      refine wpOp_move hoj hm (hfree j oj hoj hji hjun hnot) (fun cs b => hsel j oj cs b hoj) h1 fun a' w' he h3 => ih (listed.setIfInBounds j true) a' w' hfree' (ready_mono hr (Ne.symm hji)) ?_
      rw [he, Array.setIfInBounds_comm _ _ hji]
      exact h3
end
def pick (l : List Oper) : List Nat → List (Nat × Oper)
  | [] => []
  | i :: is => match l[i]? with
    | some o => (i, o) :: pick l is
    | none => pick l is
theorem pick_mem {l : List Oper} : ∀ {is : List Nat} {p : Nat × Oper}, p ∈ pick l is → l[p.1]? = some p.2
  | [], p, h => by simp [pick] at h
  | i :: is, p, h => by
    unfold pick at h
    split at h
    · rename_i o ho
      rcases List.mem_cons.1 h with rfl | h
      · exact ho
      · exact pick_mem h
    · exact pick_mem h
def mvE (E : EE) (o : Oper) : AV := match o.op with
  | .move x => evE E x
  | _ => .junk
def preE : EE → List (Nat × Oper) → EE
  | E, [] => E
  | E, (_, o) :: l => preE (putE E o.dst (mvE E o)) l
inductive Moved : Env → List (Nat × Oper) → Env → Prop
  | nil {env : Env} : Moved env [] env
  | cons {env env' : Env} {l : List (Nat × Oper)} {i t : Nat} {x : Operand} {v : AV} {ty : TypeId} {pos : String} {after : Array Edge} {g : Option (Nat × Bool)} : ev env x = v → Moved ((t, v) :: env) l env' → Moved env ((i, ⟨some t, .move x, ty, pos, after, g⟩) :: l) env'
theorem Moved.eq {env env' : Env} {l : List (Nat × Oper)} (h : Moved env l env') : preE (look env) l = look env' := by
  induction h with
  | nil => rfl
  | cons hx _ ih =>
    rw [← ih]
    simp only [preE, mvE, ← ev_evE, hx, ← look_putE]
def preIdx (md : Region.Mode) (ops : Array Oper) (n : Nat) : List (Nat × Oper) → Array Bool → Option (Array Bool)
  | [], listed => some listed
  | (k, o) :: is, listed => if (Region.ready md ops listed).contains k && Region.free md ops listed k && decide (k < n) && isMove o then preIdx md ops n is (listed.setIfInBounds k true) else none
def drawTB (l : List Oper) (pre head : List Nat) (n : Nat) : Bool :=
  Region.noSelect l.toArray && decide (n < l.length) && sinkP .any l.toArray pre n && Region.chainB .any l.toArray n && decide ((pick l pre).length + (pick l head).length = n) && decide ((pick l pre).map (·.1) = pre) &&
  match preIdx .any l.toArray n (pick l pre) (Array.replicate l.length false) with
  | some listed => pre.all (fun i => listed.getD i true) && lexIdx .any l.toArray (l.length - n) n ((pick l head).map (·.1)) listed
  | none => false
section
variable {P : Program} {C : Ctx} {k : List Item} {R : Act → World → Prop} {env : Env} {σ : List Ob}
theorem wpAny_pre {F : Act → World → Prop} {ops : Array Oper} {n : Nat} (hsel : Region.noSelect ops = true) (hd : ∀ (i : Nat) o t, ops[i]? = some o → o.dst = some t → t < C.n) {w : World} {φ : Nat → Option Nat} (hG : Good C ⟨w, φ, σ, C.ok⟩) :
    ∀ (pre : List (Nat × Oper)) (listed listed' : Array Bool) (E : EE) (a : Act) (f : Nat), (∀ p ∈ pre, ops[p.1]? = some p.2) → preIdx .any ops n pre listed = some listed' → HeadInv .any ops n listed →
    a.defers = [] → a.tmps.size = C.n → (∀ t, AV.rel ⟨w, φ, σ, C.ok⟩ (E t) (a.tmps.getD t undef)) →
    (HeadInv .any ops n listed' → ∀ a', a'.defers = [] → a'.tmps.size = C.n → (∀ t, AV.rel ⟨w, φ, σ, C.ok⟩ (preE E pre t) (a'.tmps.getD t undef)) → wpAny P .any ops (nrm F) f listed' a' w) →
    wpAny P .any ops (nrm F) (pre.length + f) listed a w
  | [], listed, listed', E, a, f, _, hp, inv, s1, s2, hE, h => by
    simp only [preIdx, Option.some.injEq] at hp; subst hp
    rw [List.length_nil, Nat.zero_add]
    exact h inv a s1 s2 hE
  | (i, o) :: pre, listed, listed', E, a, f, hl, hp, inv, s1, s2, hE, h => by
    unfold preIdx at hp
    split at hp
    · rename_i hc
      simp only [Bool.and_eq_true, decide_eq_true_eq] at hc
      obtain ⟨⟨⟨hr, hf⟩, hin⟩, hm⟩ := hc
      have h0 : ops[i]? = some o := hl (i, o) (by simp)
      have hr' : i ∈ Region.ready .any ops listed := by simpa using hr
      rw [show ((i, o) :: pre).length + f = (pre.length + f) + 1 by simp; omega]
      refine wpAny_move h0 hm (Region.noSelect_spec hsel) _ listed a w (Region.free_spec h0 hf) hr' ?_
      have hmv : AV.rel ⟨w, φ, σ, C.ok⟩ (mvE E o) (movedTo o a) := by
        unfold mvE movedTo
        cases o.op <;> simp only <;> first | exact ev_evE' hE _ | simp [AV.rel]
      refine wpAny_pre hsel hd hG pre _ listed' (putE E o.dst (mvE E o)) _ f (fun p hp => hl p (by simp [hp])) hp (inv.set hr' hin) ?_ ?_ ?_ h
      · cases o.dst <;> exact s1
      · cases o.dst <;> simp [Act.put, s2]
      · intro t
        cases hdst : o.dst with
        | none => exact hE t
        | some s =>
          rw [getD_put a s t _ (by rw [s2]; exact hd i o s h0 hdst)]
          simp only [putE]
          split
          · exact hmv
          · exact hE t
    · cases hp
structure RunsT (P : Program) (C : Ctx) (ops : Array Oper) (rs : Res) (tail : List Oper) (l : List (Nat × Oper)) (k : List Item) (R : Act → World → Prop) (S : St) : Prop where
  run : wpLexR P C ops S.σ rs (fun E => ∃ env', E = look env' ∧ RunsL P C ops tail k R ⟨env', S.σ ++ full rs⟩) l (look S.env)
theorem res_none {rs : Res} {m : Nat} : ∀ (j : Nat) o, (res rs (Array.replicate m false))[j]? = some o → o.cs = [] := by
  intro j o h
  unfold res at h
  rw [List.getElem?_map, Option.map_eq_some_iff] at h
  obtain ⟨r, _, rfl⟩ := h
  unfold resOb
  rw [getD_replicate_false]
  rfl
theorem res_full {rs : Res} {listed : Array Bool} (h : ∀ r ∈ rs, listed.getD r.1 false = true) : res rs listed = full rs := by
  unfold res full
  refine List.map_congr_left fun r hr => ?_
  unfold resOb
  rw [if_pos (h r hr)]
theorem res_blank {rs : Res} {l l' : Array Bool} (h : ∀ r ∈ rs, l.getD r.1 false = l'.getD r.1 false) : res rs l = res rs l' := by
  unfold res
  refine List.map_congr_left fun r hr => ?_
  unfold resOb
  rw [h r hr]
theorem preIdx_off {ops : Array Oper} {n : Nat} {i : Nat} : ∀ (pre : List (Nat × Oper)) (listed listed' : Array Bool), preIdx .any ops n pre listed = some listed' → (∀ p ∈ pre, p.1 ≠ i) → listed'.getD i false = listed.getD i false
  | [], listed, listed', h, _ => by simp only [preIdx, Option.some.injEq] at h; rw [h]
  | (k, o) :: pre, listed, listed', h, hp => by
    unfold preIdx at h
    split at h
    · rw [preIdx_off pre _ listed' h fun p hq => hp p (by simp [hq]), getD_set_ne false (hp (k, o) (by simp))]
    · cases h
theorem Runs.drawT {id : Nat} {l : List Oper} {cn : Nat} {env' : Env} (pre head : List Nat) (n : Nat) (rs : Res) (hf : P.follows .mixedOrders = true) (hn : C.n = cn) (hB : drawTB l pre head n = true) (hd : dstOk cn l = true)
    (hpre : Moved env (pick l pre) env') (hnd : (rs.map (·.1)).Nodup) (hrs : ∀ r ∈ rs, r.1 < n) (hrp : ∀ r ∈ rs, ∀ p ∈ pre, p ≠ r.1)
    (h : RunsT P C l.toArray rs (l.drop n) (pick l head) k R ⟨env', σ⟩) : Runs P C (.code (.region id l.toArray true) :: k) R ⟨env, σ⟩ := by
  refine ⟨fun a w hs => Fin.of_wp (wp_region_any hf ?_)⟩
  unfold drawTB at hB
  simp only [Bool.and_eq_true, decide_eq_true_eq] at hB
  obtain ⟨⟨⟨⟨⟨⟨hsel, hnl⟩, hsk⟩, hch⟩, hlen⟩, hpm⟩, hx⟩ := hB
  split at hx
  · rename_i listed hli
    simp only [Bool.and_eq_true] at hx
    obtain ⟨hpa, hlex⟩ := hx
    obtain ⟨s1, s2, φ, hG, hE⟩ := hs
    have hb : Below w.heap.size w { w with drawn := w.drawn + 1 } := ⟨rfl, rfl, rfl, Nat.le_refl _, fun _ _ => rfl⟩
    obtain ⟨g1, g2⟩ := good_below hG hb
    -- the places that are kept for what is allocated
    let φ0 : Nat → Option Nat := fun i => if i < σ.length then φ i else none
    have hφ0 : ∀ j, φ0 (σ.length + j) = none := fun j => if_neg (by omega)
    obtain ⟨G1, G2⟩ := good_grow (φ' := φ0) (new := res rs (Array.replicate l.length false)) g1 (Below.refl _ _) (fun i hi => if_pos hi) (fun j hj g hg => by rw [hφ0] at hg; cases hg) (fun i j g hi hj e1 e2 => by rw [hφ0] at e1; cases e1) (fun j o hj => by rw [hφ0]; exact res_none j o hj)
    have hE1 : ∀ t, AV.rel ⟨{ w with drawn := w.drawn + 1 }, φ0, σ ++ res rs (Array.replicate l.length false), C.ok⟩ (look env t) (a.tmps.getD t undef) := fun t => AV.rel_keeps G2 _ _ (AV.only_true _) (AV.rel_keeps g2 _ _ (AV.only_true _) (hE t))
    have hdd : ∀ (i : Nat) o t, l.toArray[i]? = some o → o.dst = some t → t < C.n := fun i o t hi ht => by rw [hn]; exact dstOk_at hd i o t (by simpa using hi) ht
    have inv0 : HeadInv .any l.toArray n (Array.replicate l.length false) :=
      ⟨by simp, fun j oj _ hl => (by rw [getD_replicate_false] at hl; cases hl), fun t _ ht => getD_in (by simpa using ht) (getD_replicate_false _ _)⟩
    have hmemP : ∀ p ∈ pick l pre, l.toArray[p.1]? = some p.2 := fun p hp => by simpa using pick_mem hp
    have hmemH : ∀ p ∈ pick l head, l.toArray[p.1]? = some p.2 := fun p hp => by simpa using pick_mem hp
    have hsz : l.toArray.size = (pick l pre).length + ((pick l head).length + (l.length - n)) := by simp; omega
    refine (show ∀ m, m = l.toArray.size → wpAny P .any l.toArray (nrm (Fin P k R)) m (Array.replicate l.toArray.size false) a { w with drawn := w.drawn + 1 } from ?_) _ rfl
    intro m hm
    obtain rfl := hm.trans hsz
    refine wpAny_pre (σ := σ ++ res rs (Array.replicate l.length false)) hsel hdd G1 (pick l pre) (Array.replicate l.toArray.size false) listed (look env) a _ hmemP (by simpa using hli) (by simpa using inv0) s1 s2 hE1 fun inv a' t1 t2 hE' => ?_
    have hE2 : preE (look env) (pick l pre) = look env' := hpre.eq
    rw [hE2] at hE'
    have hprel : ∀ i ∈ pre, listed.getD i true = true := fun i hi => List.all_eq_true.1 hpa i hi
    have hoff : ∀ r ∈ rs, listed.getD r.1 false = (Array.replicate l.length false).getD r.1 false := fun r hr => preIdx_off _ _ _ hli fun p hp => by
      refine hrp r hr p.1 ?_
      rw [← hpm]; exact List.mem_map_of_mem hp
    have hres : res rs (Array.replicate l.length false) = res rs listed := res_blank fun r hr => (hoff r hr).symm
    rw [hres] at hE' G1
    have H := wpAnyR_lex (P := P) (C := C) (σ := σ) (md := .any) (ops := l.toArray) (g := l.length - n) hsk hch (by simpa using hnl) (pick l head) listed (look env') hmemH inv hprel hlex h.run
    refine wpAny_of_R hnd hdd (fun listed' E' a'' w'' hL hS => ?_) _ listed (look env') a' _ ⟨t1, t2, φ0, G1, fun p r _ _ => hφ0 p, hE'⟩ H
    obtain ⟨hsq, hall, env'', rfl, hR⟩ := hL
    have hfl := res_full (rs := rs) (listed := listed') fun r hr => hall r.1 (hrs r hr)
    obtain ⟨u1, u2, φ', G', _, hE''⟩ := hS
    rw [hfl] at G' hE''
    have := wpAny_of_seq (md := .any) (Q' := nrm (Fin P k R)) (l.drop n) n listed' a'' w'' (fun j => by simp [List.getElem?_drop]) (by rw [List.length_drop]; exact hsq) (hR.run a'' w'' ⟨u1, u2, φ', G', hE''⟩)
    rwa [List.length_drop] at this
  · cases hx
variable {ops : Array Oper} {rs : Res} {tail : List Oper} {rest : List (Nat × Oper)} {i t : Nat} {o : Oper}
theorem Runs.toDrawT {id : Nat} {l : List Oper} {k' : List Item} {cn : Nat} {env' : Env} (m : Nat) (pre head : List Nat) (n : Nat) (rs : Res) (hf : P.follows .mixedOrders = true) (hn : C.n = cn) (hc : Proofs.Ytnecoghfhcimeaa.ctls m k = .code (.region id l.toArray true) :: k') (hB : drawTB l pre head n = true) (hd : dstOk cn l = true)
    (hpre : Moved env (pick l pre) env') (hnd : (rs.map (·.1)).Nodup) (hrs : ∀ r ∈ rs, r.1 < n) (hrp : ∀ r ∈ rs, ∀ p ∈ pre, p ≠ r.1)
    (h : RunsT P C l.toArray rs (l.drop n) (pick l head) k' R ⟨env', σ⟩) : Runs P C k R ⟨env, σ⟩ := Runs.ctls m hc (Runs.drawT pre head n rs hf hn hB hd hpre hnd hrs hrp h)
theorem RunsT.nil (h : RunsL P C ops tail k R ⟨env, σ ++ full rs⟩) : RunsT P C ops rs tail [] k R ⟨env, σ⟩ := ⟨⟨env, rfl, h⟩⟩
theorem RunsT.pur {v : AV} (h : ∀ more, Pur P C o env (σ ++ more) v) (hi : ∀ r ∈ rs, r.1 ≠ i) (hg : gsay ops env o.guard = some true) (hd : o.dst = some t) (hk : RunsT P C ops rs tail rest k R ⟨(t, v) :: env, σ⟩) : RunsT P C ops rs tail ((i, o) :: rest) k R ⟨env, σ⟩ := by
  refine ⟨v, .inl ⟨hi, .inl ⟨hg, fun more => (h more).toF⟩⟩, ?_⟩
  rw [hd, show (⟨env, σ⟩ : St).env = env from rfl, ← look_putE]
  exact hk.run
theorem RunsT.alloc {p : Nat} {e : TypeId} {zs : List Value} {ty : TypeId} {pos : String} {after : Array Edge} (hr : rs[p]? = some (i, e, zs)) (hz : TZ P e zs) (hk : RunsT P C ops rs tail rest k R ⟨(t, .obj (σ.length + p) 0) :: env, σ⟩) :
    RunsT P C ops rs tail ((i, ⟨some t, .alloc e, ty, pos, after, none⟩) :: rest) k R ⟨env, σ⟩ := by
  refine ⟨.obj (σ.length + p) 0, .inr ⟨p, e, zs, hr, rfl, rfl, rfl, hz, rfl⟩, ?_⟩
  rw [show (⟨env, σ⟩ : St).env = env from rfl, ← look_putE]
  exact hk.run
theorem RunsT.off (hi : ∀ r ∈ rs, r.1 ≠ i) (hg : gsay ops env o.guard = some false) (hd : o.dst = some t) (hk : RunsT P C ops rs tail rest k R ⟨(t, .ro (.c undef)) :: env, σ⟩) : RunsT P C ops rs tail ((i, o) :: rest) k R ⟨env, σ⟩ := by
  refine ⟨.ro (.c undef), .inl ⟨hi, .inr ⟨hg, rfl⟩⟩, ?_⟩
  rw [hd, show (⟨env, σ⟩ : St).env = env from rfl, ← look_putE]
  exact hk.run
theorem RunsT.step {T : Tab} (hT : TabOk P T) {v : AV} (hd : o.dst = some t) (hg : gsay ops env o.guard = some true) (h : ∀ more, aop T env (σ ++ more) o.op = some v) (hi : ∀ r ∈ rs, r.1 ≠ i) (hk : RunsT P C ops rs tail rest k R ⟨(t, v) :: env, σ⟩) : RunsT P C ops rs tail ((i, o) :: rest) k R ⟨env, σ⟩ := by
  obtain ⟨dst, op, ty, pos, after, g⟩ := o
  simp only at hd; subst hd
  exact RunsT.pur (fun more => pu_auto hT (h more)) hi hg rfl hk
end
end Go.Proofs.Ytnecoghfhcimeaa
/- Regions that draw their order, whose operations ahead of some place leave the world alone, and whose rest stands in the text's order: walked as the text says. Over any program. -/
namespace Go.Proofs.Ytnecoghfhcimeaa
set_option linter.unusedSimpArgs false
set_option linter.unusedVariables false
open Go.RowKit
open AV (Mem Keeps)
def Kp {α : Type} (s : Sem α) : Prop := ∀ (P : Program) (w : World) (x : α) (w' : World), s.run P w = .ok x w' → w' = w
theorem Kp.pure {α : Type} (a : α) : Kp (Pure.pure a : Sem α) := fun P w x w' h => by
  rw [Sem.run_pure] at h; injection h with _ h; exact h.symm
theorem Kp.bind {α β : Type} {s : Sem α} {f : α → Sem β} (h : Kp s) (hf : ∀ a, Kp (f a)) : Kp (s >>= f) := fun P w x w' e => by
  rw [Sem.run_bind] at e
  cases hs : s.run P w with
  | ok a w1 =>
    rw [hs] at e
    simp only [Result.andThen_ok] at e
    have h1 := h P w a w1 hs
    subst h1
    exact hf a P w1 x w' e
  | halt q w1 => rw [hs] at e; cases e
theorem Kp.stuck {α : Type} (s : String) : Kp (stuck s : Sem α) := fun P w x w' h => by cases h
theorem Kp.unsup {α : Type} (s : Unsupported) : Kp (unsupported s : Sem α) := fun P w x w' h => by cases h
theorem Kp.program : Kp program := fun P w x w' h => by rw [run_program] at h; injection h with _ h; exact h.symm
theorem Kp.load (a : Addr) (m : Mode) : Kp (load a m) := fun P w x w' h => by
  unfold Go.load Sem.run at h
  split at h
  · injection h with _ h; exact h.symm
  · split at h
    · injection h with _ h; exact h.symm
    · cases h
theorem Kp.typeInfo (t : TypeId) : Kp (typeInfo t) := Kp.bind Kp.program fun p => by
  split
  · exact Kp.pure _
  · exact Kp.stuck _
theorem Kp.underlying (t : TypeId) : Kp (underlying t) := Kp.bind Kp.program fun p => by
  split
  · exact Kp.pure _
  · exact Kp.stuck _
theorem Kp.sizeOf (t : TypeId) : Kp (sizeOf t) := Kp.bind (Kp.typeInfo t) fun _ => Kp.pure _
theorem Kp.isAgg (t : TypeId) : Kp (isAgg t) := Kp.bind (Kp.underlying t) fun _ => by
  split <;> exact Kp.pure _
theorem Kp.sureAddr (x : Value) : Kp (Instr.sureAddr x) := by
  unfold Instr.sureAddr
  split
  · exact Kp.pure _
  · exact Kp.stuck _
theorem Kp.loadCells (a : Addr) : ∀ (n i : Nat) (acc : Array Value), Kp (loadCellsFrom a i n acc)
  | 0, i, acc => Kp.pure _
  | n + 1, i, acc => Kp.bind (Kp.load _ _) fun v => Kp.loadCells a n (i + 1) _
theorem Kp.loadAt (t : TypeId) (x : Value) : Kp (Instr.loadAt t x) := Kp.bind (Kp.sureAddr x) fun a => Kp.bind (Kp.isAgg t) fun b => by
  split
  · exact Kp.bind (Kp.sizeOf t) fun n => Kp.bind (Kp.loadCells a n 0 _) fun _ => Kp.pure _
  · exact Kp.load _ _
def No {α : Type} (s : Sem α) : Prop := ∀ (P : Program) (w : World) (x : α) (w' : World), s.run P w ≠ .ok x w'
theorem No.kp {α : Type} {s : Sem α} (h : No s) : Kp s := fun P w x w' e => absurd e (h P w x w')
theorem No.bind {α β : Type} {s : Sem α} {f : α → Sem β} (hf : ∀ a, No (f a)) : No (s >>= f) := fun P w x w' e => by
  rw [Sem.run_bind] at e
  cases hs : s.run P w with
  | ok a w1 =>
    rw [hs] at e
    simp only [Result.andThen_ok] at e
    exact hf a P w1 x w' e
  | halt q w1 => rw [hs] at e; cases e
theorem No.nil {α : Type} : No (runtimePanic .nilDeref : Sem α) := No.bind fun p P w x w' h => by cases h
theorem No.bounds {α : Type} (k : IntKind) (x y : Int) (c : BoundsCode) : No (boundsPanic k x y c : Sem α) := by
  have key : ∀ b, No (runtimePanic (.bounds (IntKind.i64.wrap x) y b c) : Sem α) := fun b => by
    unfold runtimePanic
    refine No.bind fun p => ?_
    intro P w x w' h
    simp only [goPanic, Sem.run_halt] at h
    cases h
  unfold boundsPanic
  dsimp only
  split
  · exact No.bind fun b => key _
  · exact No.bind fun b => key _
theorem Kp.asIntOf (v : Value) : Kp (asIntOf v) := by
  unfold Go.asIntOf
  split
  · exact Kp.pure _
  · exact Kp.unsup _
  · exact Kp.stuck _
theorem Kp.bound (x : Value) (y : Nat) (c : BoundsCode) : Kp (Instr.sliceBound x y c) := Kp.bind (Kp.asIntOf x) fun ⟨k, i⟩ => by
  simp only
  split
  · exact Kp.pure _
  · exact (No.bounds _ _ _ _).kp
theorem Kp.bounds (b : Bool) (l c : Nat) (lo hi mx : Option Value) : Kp (Instr.sliceBounds b l c lo hi mx) := by
  unfold Instr.sliceBounds
  dsimp only
  have k3 : ∀ (m h : Nat), Kp (match lo with | some v => (do let l ← Instr.sliceBound v h (if mx.isSome = true then BoundsCode.slice3C else BoundsCode.sliceB); Pure.pure (l, h, m) : Sem (Nat × Nat × Nat)) | none => (do let l ← Pure.pure 0; Pure.pure (l, h, m))) := fun m h => by
    split
    · exact Kp.bind (Kp.bound _ _ _) fun _ => Kp.pure _
    · exact Kp.bind (Kp.pure _) fun _ => Kp.pure _
  split
  · refine Kp.bind (Kp.bound _ _ _) fun m => ?_
    split
    · exact Kp.bind (Kp.bound _ _ _) fun h => k3 _ _
    · exact Kp.bind (Kp.bound _ _ _) fun h => k3 _ _
    · exact Kp.bind (Kp.pure _) fun h => k3 _ _
    · exact Kp.bind (Kp.stuck _) fun h => k3 _ _
  · refine Kp.bind (Kp.pure _) fun m => ?_
    split
    · exact Kp.bind (Kp.bound _ _ _) fun h => k3 _ _
    · exact Kp.bind (Kp.bound _ _ _) fun h => k3 _ _
    · exact Kp.bind (Kp.pure _) fun h => k3 _ _
    · exact Kp.bind (Kp.stuck _) fun h => k3 _ _
theorem Kp.asAddr (x : Value) : Kp (asAddr x) := by
  unfold Go.asAddr
  split
  · exact Kp.pure _
  · exact No.nil.kp
  · exact Kp.stuck _
theorem Kp.slice (t : TypeId) (x : Value) (lo hi mx : Option Value) : Kp (Instr.slice t x lo hi mx) := by
  unfold Instr.slice
  refine Kp.bind (Kp.underlying t) fun u => ?_
  split
  · split
    · exact Kp.bind (Kp.stuck _) fun _ => Kp.bind (Kp.bounds _ _ _ _ _ _) fun ⟨_, _, _⟩ => Kp.pure _
    · exact Kp.bind (Kp.bounds _ _ _ _ _ _) fun ⟨_, _, _⟩ => Kp.pure _
  · exact Kp.bind (Kp.bounds _ _ _ _ _ _) fun ⟨_, _, _⟩ => Kp.bind (Kp.sizeOf _) fun _ => Kp.pure _
  · refine Kp.bind (Kp.asAddr _) fun a => Kp.bind (Kp.underlying _) fun d => ?_
    split
    · exact Kp.bind (Kp.bounds _ _ _ _ _ _) fun ⟨_, _, _⟩ => Kp.bind (Kp.sizeOf _) fun _ => Kp.pure _
    · exact Kp.stuck _
  · exact Kp.stuck _
theorem Kp.getShape (r : Nat) : Kp (shape r) := fun P w x w' h => by
  simp only [shape, Sem.run] at h
  injection h with _ h; exact h.symm
theorem Kp.getObj (r : Nat) : Kp (getObj r) := fun P w x w' h => by
  unfold Go.getObj Sem.run at h
  split at h
  · cases h
  · simp only [Sem.run] at h; injection h with _ h; exact h.symm
  · cases h
theorem Kp.noView (a : Addr) : Kp (noView a) := by
  unfold Go.noView viewAt
  refine Kp.bind (Kp.bind (Kp.getShape _) fun sh => ?_) fun o => ?_
  · split
    · exact Kp.pure _
    · refine Kp.bind (Kp.getObj _) fun o => ?_
      split <;> exact Kp.pure _
  · split
    · exact Kp.unsup _
    · exact Kp.pure _
theorem Kp.byteOf (a : Addr) : Kp (byteOf a) := by
  unfold Go.byteOf
  dsimp only
  split
  · exact Kp.pure _
  · refine Kp.bind Kp.program fun p => Kp.bind (Kp.noView a) fun _ => Kp.bind (Kp.getShape _) fun sh => ?_
    split
    · split
      · exact Kp.pure _
      · split
        · exact Kp.pure _
        · exact Kp.stuck _
    · exact Kp.stuck _
theorem Kp.place (a : Addr) (f : Field) : Kp (fieldPlace a f) := by
  unfold fieldPlace
  refine Kp.bind (Kp.sizeOf _) fun n => ?_
  split
  · exact Kp.bind (Kp.byteOf _) fun _ => Kp.bind (Kp.byteOf _) fun _ => Kp.pure _
  · exact Kp.pure _
theorem Kp.fieldAt (s : TypeId) (x : Value) (f : Nat) : Kp (Instr.fieldAt s x f) := by
  unfold Instr.fieldAt
  refine Kp.bind (Kp.underlying s) fun u => ?_
  split
  · split
    · exact Kp.bind (Kp.sureAddr x) fun a => Kp.bind (Kp.place a _) fun _ => Kp.pure _
    · exact Kp.stuck _
  · exact Kp.stuck _
theorem Kp.part (t : TypeId) (cs : Array Value) (off : Nat) : Kp (part t cs off) := by
  unfold Go.part
  refine Kp.bind (Kp.isAgg t) fun b => ?_
  split
  · exact Kp.bind (Kp.sizeOf _) fun _ => Kp.pure _
  · split
    · exact Kp.pure _
    · exact Kp.stuck _
structure KpV (s : Sem Next) : Prop where
  keep : Kp s
  val : ∀ (P : Program) (w : World) (x : Next) (w' : World), s.run P w = .ok x w' → ∃ v, x = .value v
theorem KpV.bind {α : Type} {s : Sem α} {f : α → Sem Next} (h : Kp s) (hf : ∀ a, KpV (f a)) : KpV (s >>= f) := ⟨Kp.bind h fun a => (hf a).keep, fun P w x w' e => by
  rw [Sem.run_bind] at e
  cases hs : s.run P w with
  | ok a w1 => rw [hs] at e; simp only [Result.andThen_ok] at e; exact (hf a).val P w1 x w' e
  | halt q w1 => rw [hs] at e; cases e⟩
theorem KpV.pure (v : Value) : KpV (Pure.pure (.value v) : Sem Next) := ⟨Kp.pure _, fun P w x w' e => by rw [Sem.run_pure] at e; injection e with e; exact ⟨v, e.symm⟩⟩
theorem KpV.of {s : Sem Value} (h : Kp s) : KpV (do Pure.pure (.value (← s)) : Sem Next) := KpV.bind h fun v => KpV.pure v
theorem KpV.no {s : Sem Next} (h : No s) : KpV s := ⟨h.kp, fun P w x w' e => absurd e (h P w x w')⟩
theorem KpV.unsup (u : Unsupported) : KpV (unsupported u : Sem Next) := KpV.no fun P w x w' h => by cases h
section
variable {P : Program} {C : Ctx} {k : List Item} {R : Act → World → Prop} {env : Env} {σ : List Ob}
end
end Go.Proofs.Ytnecoghfhcimeaa
/- Regions that draw their order, in which operations that look come late, and draws stand in a chain. Over any program. -/
namespace Go.Proofs.Ytnecoghfhcimeaa
set_option linter.unusedSimpArgs false
set_option linter.unusedVariables false
open Go.RowKit
open AV (Mem Keeps)
abbrev IOq := Nat × Oper
abbrev LO := Nat × Oper × Nat × AV
def tmpsOf (o : Oper) : List Nat := o.op.operands.toList.filterMap fun | .tmp t => some t | _ => none
def waitsB (o : Oper) (i : Nat) : Bool := o.after.any fun e => Region.binds .any e && Nat.beq e.on i
def edgesIn (o : Oper) (q : Nat → Bool) : Bool := o.after.all fun e => !Region.binds .any e || q e.on
def memI (H : List IOq) (i : Nat) : Bool := H.any fun p => Nat.beq p.1 i
def keysOf (H : List IOq) : List Nat := H.flatMap fun p => tmpsOf p.2 ++ p.2.dst.toList
def needB (H : List IOq) (o : Oper) : Bool := H.all fun q => (tmpsOf o).all fun s => (match q.2.dst with | some d => !(Nat.beq d s) | none => true) || waitsB o q.1
def chainI : List IOq → Bool
  | [] => true
  | [_] => true
  | p :: q :: r => waitsB q.2 p.1 && chainI (q :: r)
def progT (H : List IOq) : List IOq → List IOq → Bool
  | _, [] => true
  | old, p :: r => edgesIn p.2 (fun j => memI H j || memI old j) && progT H (p :: old) r
def lateB (n : Nat) (H T : List IOq) : Bool :=
  (H.all fun p => needB H p.2 && p.2.guard.isNone && p.2.dst.isSome && edgesIn p.2 (fun j => Nat.ble (j + 1) p.1 && memI H j)) &&
  (T.all fun p => needB H p.2 && !(memI H p.1) && (match p.2.dst with | some d => !((keysOf H).contains d) | none => true)) &&
  chainI T && progT H [] T && ((List.range n).all fun i => memI H i || memI T i)
section
variable {P : Program} {C : Ctx} {l : List Oper} {H T : List IOq} {k : List Item} {R : Act → World → Prop} {ct : TypeId} {u : Value} {more : List Ob}
theorem memI_iff {H : List IOq} {i : Nat} : memI H i = true ↔ ∃ p ∈ H, p.1 = i := by
  simp only [memI, List.any_eq_true]
  constructor
  · rintro ⟨p, hp, e⟩; exact ⟨p, hp, Nat.eq_of_beq_eq_true e⟩
  · rintro ⟨p, hp, rfl⟩; exact ⟨p, hp, Nat.beq_refl _⟩
theorem waitsB_iff {o : Oper} {i : Nat} : waitsB o i = true ↔ ∃ e ∈ o.after, Region.binds .any e = true ∧ e.on = i := by
  unfold waitsB
  rw [Array.any_eq_true']
  constructor
  · rintro ⟨e, he, h⟩
    rw [Bool.and_eq_true] at h
    exact ⟨e, he, h.1, Nat.eq_of_beq_eq_true h.2⟩
  · rintro ⟨e, he, h, rfl⟩
    exact ⟨e, he, by rw [Bool.and_eq_true]; exact ⟨h, Nat.beq_refl _⟩⟩
theorem edgesIn_iff {o : Oper} {q : Nat → Bool} : edgesIn o q = true ↔ ∀ e ∈ o.after, Region.binds .any e = true → q e.on = true := by
  unfold edgesIn
  rw [Array.all_eq_true_iff_forall_mem]
  constructor
  · intro h e he hb
    have := h e he
    simpa [hb] using this
  · intro h e he
    cases hb : Region.binds .any e
    · simp
    · simp [h e he hb]
def PurT (P : Program) (C : Ctx) (ct : TypeId) (u : Value) (more : List Ob) (E : Nat → AV) (p : LO) : Prop :=
  ∀ (a : Act) (m : Mem) (i h : Int), Good C m → m.σ = curOb ct u i h :: more → (∀ s ∈ tmpsOf p.2.1, AV.rel m (E s) (a.tmps.getD s undef)) → ∀ (K : Act → World → Prop) (Q : Exit → Act → World → Prop),
    (∀ x w', Below m.w.heap.size m.w w' → AV.rel { m with w := w' } p.2.2.2 x → K (a.put p.2.1.dst x) w') → p.2.1.wp P a m.w K Q
structure LFact (P : Program) (C : Ctx) (ct : TypeId) (u : Value) (more : List Ob) (E : Nat → AV) (p : LO) : Prop where
  pur : PurT P C ct u more E p
  val : E p.2.2.1 = p.2.2.2
  dst : p.2.1.dst = some p.2.2.1
  lt : p.2.2.1 < C.n
def maskE (pd : List LO) (env : Env) (t : Nat) : AV := if pd.any (fun p => Nat.beq p.2.2.1 t) then .junk else look env t
def SimM (C : Ctx) (E : Nat → AV) (σ : List Ob) (a : Act) (w : World) : Prop :=
  a.defers = [] ∧ a.tmps.size = C.n ∧ ∃ φ, Good C ⟨w, φ, σ, C.ok⟩ ∧ ∀ t, AV.rel ⟨w, φ, σ, C.ok⟩ (E t) (a.tmps.getD t undef)
theorem mem_keys {H : List IOq} {p : IOq} {s : Nat} (hp : p ∈ H) (hs : s ∈ tmpsOf p.2) : s ∈ keysOf H := List.mem_flatMap.2 ⟨p, hp, List.mem_append_left _ hs⟩
theorem mem_keys_dst {H : List IOq} {p : IOq} {s : Nat} (hp : p ∈ H) (hs : p.2.dst = some s) : s ∈ keysOf H := List.mem_flatMap.2 ⟨p, hp, List.mem_append_right _ (by simp [hs])⟩
theorem mem_operand {o : Oper} {s : Nat} (h : Operand.tmp s ∈ o.op.operands) : s ∈ tmpsOf o := by
  simp only [tmpsOf, List.mem_filterMap]
  exact ⟨.tmp s, by simpa using h, rfl⟩
theorem ev_tmps {m : Mem} {env : Env} {o : Oper} {a : Act} (h : ∀ s ∈ tmpsOf o, AV.rel m (look env s) (a.tmps.getD s undef)) : ∀ x ∈ o.op.operands, AV.rel m (ev env x) (a.eval x) := by
  intro x hx
  cases x with
  | tmp t => exact h t (mem_operand hx)
  | const v =>
    have h := const_rel (w := m.w) (ok := m.ok) v
    cases v <;> simpa only [ev, AV.rel, Act.eval, constRV] using h
  | func f => simp only [ev, AV.rel, Act.eval]; exact ⟨#[], #[], rfl, by simp [AV.rels], by simp [AV.rels]⟩
  | global g => simp [ev, AV.rel]
theorem wpOp_at {ops : Array Oper} {Q : Exit → Act → World → Prop} {K : Act → World → Prop} {i : Nat} {o : Oper} {a : Act} {w : World} (hi : ops[i]? = some o) (hg : o.guard = none) (h : o.wp P a w K Q) : wpOp P ops Q i K a w := by
  unfold wpOp
  simp only [hi]
  rw [if_pos (by simp [Region.wanted, hg])]
  exact .inl h
theorem chain_ready {listed : Array Bool} : ∀ (r : List IOq) (p q : IOq), chainI (p :: r) = true → (∀ x ∈ p :: r, listed.getD x.1 true = false) → (∀ x ∈ p :: r, l[x.1]? = some x.2) → q ∈ r → q.1 ∈ Region.ready .any l.toArray listed → False
  | [], _, _, _, _, _, hq, _ => by cases hq
  | y :: r, p, q, hc, hun, hat, hq, hr => by
    simp only [chainI, Bool.and_eq_true] at hc
    rcases List.mem_cons.1 hq with rfl | hq
    · obtain ⟨e, he, hb, hon⟩ := waitsB_iff.1 hc.1
      obtain ⟨_, o, h2, h3⟩ := mem_ready.1 hr
      have hqo := hat q (by simp)
      rw [show l.toArray[q.1]? = l[q.1]? by simp, hqo] at h2; injection h2 with h2; subst h2
      have := h3 e he hb
      rw [hon, getD_both (hun p (by simp))] at this
      cases this
    · exact chain_ready r y q hc.2 (fun x hx => hun x (by simp only [List.mem_cons] at hx ⊢; exact .inr hx)) (fun x hx => hat x (by simp only [List.mem_cons] at hx ⊢; exact .inr hx)) hq hr
theorem getD_set_selfL {listed : Array Bool} {i : Nat} (d : Bool) (h : i < listed.size) : (listed.setIfInBounds i true).getD i d = true := by
  rw [Array.getD_eq_getD_getElem?, Array.getElem?_setIfInBounds_self_of_lt h]; rfl
theorem getD_set' {listed : Array Bool} {i j : Nat} (d : Bool) (h : i ≠ j) : (listed.setIfInBounds i true).getD j d = listed.getD j d := by
  rw [Array.getD_eq_getD_getElem?, Array.getElem?_setIfInBounds_ne h, Array.getD_eq_getD_getElem?]
theorem getD_true_of {listed : Array Bool} {j : Nat} (hs : j < listed.size) (h : listed.getD j true ≠ false) : listed.getD j false = true := by
  simp only [Array.getD_eq_getD_getElem?, Array.getElem?_eq_getElem hs, Option.getD_some] at h ⊢
  simpa using h
def ClosedL (l : List Oper) (listed : Array Bool) : Prop := ∀ (j : Nat) o, l[j]? = some o → listed.getD j false = true → ∀ e ∈ o.after, Region.binds .any e = true → listed.getD e.on false = true
theorem ClosedL.next {listed : Array Bool} {i : Nat} (h : ClosedL l listed) (hr : i ∈ Region.ready .any l.toArray listed) (hs : listed.size = l.length) : ClosedL l (listed.setIfInBounds i true) := by
  intro j o hj hl e he hb
  have hup : ∀ k, listed.getD k false = true → (listed.setIfInBounds i true).getD k false = true := fun k hk => by
    by_cases e : i = k
    · subst e
      obtain ⟨_, o', h2, _⟩ := mem_ready.1 hr
      exact getD_set_selfL false (by have := (Array.getElem?_eq_some_iff.1 h2).1; simp at this; omega)
    · rw [getD_set' false e]; exact hk
  by_cases ei : i = j
  · subst ei
    obtain ⟨_, o', h2, h3⟩ := mem_ready.1 hr
    rw [show l.toArray[i]? = l[i]? by simp, hj] at h2; injection h2 with h2; subst h2
    exact hup _ (h3 e he hb)
  · rw [getD_set' false ei] at hl
    exact hup _ (h j o hj hl e he hb)
structure LatB (l : List Oper) (H T : List IOq) : Prop where
  hat : ∀ p ∈ H, l[p.1]? = some p.2
  tat : ∀ p ∈ T, l[p.1]? = some p.2
  need : ∀ p, p ∈ H ∨ p ∈ T → ∀ q ∈ H, ∀ s ∈ tmpsOf p.2, q.2.dst = some s → waitsB p.2 q.1 = true
  guard : ∀ p ∈ H, p.2.guard = none
  early : ∀ p ∈ H, ∀ e ∈ p.2.after, Region.binds .any e = true → e.on < p.1 ∧ ∃ q ∈ H, q.1 = e.on
  apart : ∀ p ∈ T, ∀ q ∈ H, q.1 ≠ p.1
  fresh : ∀ p ∈ T, ∀ d, p.2.dst = some d → d ∉ keysOf H
  chain : chainI T = true
  tnd : (T.map (·.1)).Nodup
  prog : ∃ old : List IOq, progT H old T = true ∧ ∀ q ∈ old, q.1 < l.length ∧ ∀ x ∈ T, x.1 ≠ q.1
theorem LatB.prog' (h : LatB l H T) (p : IOq) (r : List IOq) (e' : T = p :: r) : ∀ e ∈ p.2.after, Region.binds .any e = true → ∃ j, e.on = j ∧ j < l.length ∧ ∀ q ∈ T, q.1 ≠ j := by
  intro e he hb
  obtain ⟨old, h1, h2⟩ := h.prog
  subst e'
  simp only [progT, Bool.and_eq_true] at h1
  have h3 := edgesIn_iff.1 h1.1 e he hb
  simp only [Bool.or_eq_true, memI_iff] at h3
  refine ⟨e.on, rfl, ?_⟩
  rcases h3 with ⟨q, hq, e1⟩ | ⟨q, hq, e1⟩
  · rw [← e1]
    exact ⟨(List.getElem?_eq_some_iff.1 (h.hat q hq)).1, fun x hx => (h.apart x hx q hq).symm⟩
  · rw [← e1]
    exact h2 q hq
theorem LatB.tail {p : IOq} {r : List IOq} (h : LatB l H (p :: r)) : LatB l H r :=
  ⟨h.hat, fun q hq => h.tat q (by simp [hq]), fun q hq => h.need q (hq.imp id fun h => by simp [h]), h.guard, h.early, fun q hq => h.apart q (by simp [hq]), fun q hq => h.fresh q (by simp [hq]), by
    have := h.chain
    cases r with
    | nil => rfl
    | cons y r => simp only [chainI, Bool.and_eq_true] at this; exact this.2, by have := h.tnd; rw [List.map_cons, List.nodup_cons] at this; exact this.2, by
    obtain ⟨old, h1, h2⟩ := h.prog
    simp only [progT, Bool.and_eq_true] at h1
    refine ⟨p :: old, h1.2, fun q hq => ?_⟩
    rcases List.mem_cons.1 hq with rfl | hq
    · refine ⟨(List.getElem?_eq_some_iff.1 (h.tat q (by simp))).1, fun x hx e => ?_⟩
      have := h.tnd
      rw [List.map_cons, List.nodup_cons] at this
      exact this.1 (List.mem_map.2 ⟨x, hx, e⟩)
    · exact ⟨(h2 q hq).1, fun x hx => (h2 q hq).2 x (by simp [hx])⟩⟩
structure RunsP (P : Program) (C : Ctx) (ct : TypeId) (u : Value) (more : List Ob) (l : List Oper) (H T : List IOq) (k : List Item) (R : Act → World → Prop) (i h : Int) (env : Env) : Prop where
  run : LatB l H T → ∀ (late : List LO) (E0 : Nat → AV), (∀ p ∈ late, (p.1, p.2.1) ∈ H) → (∀ p ∈ late, LFact P C ct u more E0 p) → (∀ s ∈ keysOf H, look env s = E0 s) → ∀ (n : Nat) (pd : List LO) (listed : Array Bool) (a : Act) (w : World), pd.length = n → (∀ p ∈ pd, p ∈ late) → listed.size = l.length → ClosedL l listed →
    (∀ j, j < l.length → (listed.getD j true = false ↔ ((∃ p ∈ pd, p.1 = j) ∨ ∃ p ∈ T, p.1 = j))) → SimM C (maskE pd env) (curOb ct u i h :: more) a w → wpAny P .any l.toArray (nrm (Fin P k R)) (n + T.length) listed a w
theorem runsP_step (hB : LatB l H T) {i h : Int} {env : Env} {late : List LO} {E0 : Nat → AV} (hlH : ∀ p ∈ late, (p.1, p.2.1) ∈ H) (hF : ∀ p ∈ late, LFact P C ct u more E0 p) (hE0 : ∀ s ∈ keysOf H, look env s = E0 s)
    (head : ∀ (pd : List LO) (listed : Array Bool) (a : Act) (w : World) (p : IOq) (r : List IOq), T = p :: r → (∀ q ∈ pd, q ∈ late) → listed.size = l.length → ClosedL l listed → (∀ j, j < l.length → (listed.getD j true = false ↔ ((∃ q ∈ pd, q.1 = j) ∨ ∃ q ∈ T, q.1 = j))) → p.1 ∈ Region.ready .any l.toArray listed → SimM C (maskE pd env) (curOb ct u i h :: more) a w →
      (∀ s ∈ tmpsOf p.2, maskE pd env s = look env s) → wpOp P l.toArray (nrm (Fin P k R)) p.1 (wpAny P .any l.toArray (nrm (Fin P k R)) (pd.length + r.length) (listed.setIfInBounds p.1 true)) a w) (hT : T ≠ []) :
    ∀ (n : Nat) (pd : List LO) (listed : Array Bool) (a : Act) (w : World), pd.length = n → (∀ p ∈ pd, p ∈ late) → listed.size = l.length → ClosedL l listed →
    (∀ j, j < l.length → (listed.getD j true = false ↔ ((∃ p ∈ pd, p.1 = j) ∨ ∃ p ∈ T, p.1 = j))) → SimM C (maskE pd env) (curOb ct u i h :: more) a w → wpAny P .any l.toArray (nrm (Fin P k R)) (n + T.length) listed a w := by
  intro n
  induction n using Nat.strongRecOn with
  | _ n ih =>
  intro pd listed a w hn hpd hls hcls hch hS
  obtain ⟨t, r, rfl⟩ : ∃ t r, T = t :: r := by cases T with
    | nil => exact absurd rfl hT
    | cons t r => exact ⟨t, r, rfl⟩
  have hlt : ∀ p : IOq, (p ∈ H ∨ p ∈ t :: r) → p.1 < l.length := fun p hp => by
    rcases hp with hp | hp
    · exact (List.getElem?_eq_some_iff.1 (hB.hat p hp)).1
    · exact (List.getElem?_eq_some_iff.1 (hB.tat p hp)).1
  -- an operation that is ready finds its operands
  have hops : ∀ p : IOq, (p ∈ H ∨ p ∈ t :: r) → p.1 ∈ Region.ready .any l.toArray listed → ∀ s ∈ tmpsOf p.2, maskE pd env s = look env s := fun p hp hr s hs => by
    unfold maskE
    rw [if_neg]
    intro hany
    obtain ⟨q, hq, hb⟩ := List.any_eq_true.1 hany
    have hqs : q.2.2.1 = s := Nat.eq_of_beq_eq_true hb
    have hql := hpd q hq
    have hw := hB.need p hp _ (hlH q hql) s hs (by rw [← hqs]; exact (hF q hql).dst)
    obtain ⟨e, he, hbn, hon⟩ := waitsB_iff.1 hw
    obtain ⟨_, o, h2, h3⟩ := mem_ready.1 hr
    have hpo : l[p.1]? = some p.2 := hp.elim (hB.hat p) (hB.tat p)
    rw [show l.toArray[p.1]? = l[p.1]? by simp, hpo] at h2; injection h2 with h2; subst h2
    have h4 := h3 e he hbn
    have hqlt := hlt (q.1, q.2.1) (.inl (hlH q hql))
    rw [hon, getD_both ((hch q.1 hqlt).2 (.inl ⟨q, hq, rfl⟩))] at h4
    cases h4
  have hnt : n + (t :: r).length = (n + r.length) + 1 := by simp; omega
  rw [hnt]
  refine ⟨fun h0 => ?_, fun j hj => ?_⟩
  · -- some operation is ready
    exfalso
    have hnone : ∀ x, x ∉ Region.ready .any l.toArray listed := fun x hx => by rw [h0] at hx; cases hx
    have hmin : ∀ m, ∀ p ∈ pd, p.1 ≤ m → False := by
      intro m
      induction m using Nat.strongRecOn with
      | _ m im =>
        intro p hp hpm
        have hpH := hlH p (hpd p hp)
        refine hnone p.1 (mem_ready.2 ⟨(hch p.1 (hlt (p.1, p.2.1) (.inl hpH))).2 (.inl ⟨p, hp, rfl⟩), p.2.1, by simpa using hB.hat _ hpH, fun e he hb => ?_⟩)
        obtain ⟨e1, q, hq, e2⟩ := hB.early _ hpH e he hb
        have hel : e.on < l.length := by rw [← e2]; exact hlt q (.inl hq)
        refine getD_true_of (by omega) fun hf => ?_
        rcases (hch e.on hel).1 hf with ⟨q', hq', e3⟩ | ⟨q', hq', e3⟩
        · exact im q'.1 (by simp only at e1; omega) q' hq' (Nat.le_refl _)
        · exact hB.apart q' hq' q hq (e2.trans e3.symm)
    have hpd0 : ∀ p, p ∉ pd := fun p hp => hmin p.1 p hp (Nat.le_refl _)
    refine hnone t.1 (mem_ready.2 ⟨(hch t.1 (hlt t (.inr (by simp)))).2 (.inr ⟨t, by simp, rfl⟩), t.2, by simpa using hB.tat t (by simp), fun e he hb => ?_⟩)
    obtain ⟨j, e1, e2, e3⟩ := hB.prog' t r rfl e he hb
    refine getD_true_of (by omega) fun hf => ?_
    rw [e1] at hf
    rcases (hch j e2).1 hf with ⟨q', hq', _⟩ | ⟨q', hq', e4⟩
    · exact hpd0 q' hq'
    · exact e3 q' hq' e4
  · obtain ⟨hju, o, ho, _⟩ := mem_ready.1 hj
    have hjl : j < l.length := by simpa using (Array.getElem?_eq_some_iff.1 ho).1
    rcases (hch j hjl).1 hju with ⟨p, hp, rfl⟩ | ⟨p, hp, rfl⟩
    · -- a late operation
      have hpl := hpd p hp
      have hpH := hlH p hpl
      have hf := hF p hpl
      have hpo : l.toArray[p.1]? = some p.2.1 := by simpa using hB.hat _ hpH
      refine wpOp_at hpo (hB.guard _ hpH) ?_
      obtain ⟨s1, s2, φ, hG, hE⟩ := hS
      refine hf.pur a ⟨w, φ, curOb ct u i h :: more, C.ok⟩ i h hG rfl (fun s hs => ?_) _ _ fun x w' hb hv => ?_
      · rw [← hE0 s (mem_keys hpH hs), ← hops _ (.inl hpH) hj s hs]
        exact hE s
      · obtain ⟨g1, g2⟩ := good_below hG hb
        have hlen : (pd.filter fun q => !(Nat.beq q.1 p.1)).length < pd.length := by
          refine Nat.lt_of_le_of_ne (List.length_filter_le _ _) fun e => ?_
          have := List.length_filter_eq_length_iff.1 e p hp
          simp at this
        have hmem : ∀ q, q ∈ (pd.filter fun q => !(Nat.beq q.1 p.1)) ↔ q ∈ pd ∧ q.1 ≠ p.1 := fun q => by
          rw [List.mem_filter]
          constructor
          · rintro ⟨h1, h2⟩; exact ⟨h1, fun e => by simp [e] at h2⟩
          · rintro ⟨h1, h2⟩
            refine ⟨h1, ?_⟩
            cases hbq : Nat.beq q.1 p.1
            · rfl
            · exact absurd (Nat.eq_of_beq_eq_true hbq) h2
        have hmono : ∀ (n1 n2 : Nat) (listed : Array Bool) a w, n1 ≤ n2 → wpAny P .any l.toArray (nrm (Fin P k R)) n1 listed a w → wpAny P .any l.toArray (nrm (Fin P k R)) n2 listed a w := by
          intro n1
          induction n1 with
          | zero =>
            intro n2 listed a w _ hw
            cases n2 with
            | zero => exact hw
            | succ n2 => exact ⟨fun _ => hw.2, fun i hi => by rw [hw.1] at hi; cases hi⟩
          | succ n1 im =>
            intro n2 listed a w hle hw
            obtain ⟨n2, rfl⟩ : ∃ m, n2 = m + 1 := ⟨n2 - 1, by omega⟩
            exact ⟨hw.1, fun i hi => wpOp_mono (fun a w => im n2 _ a w (by omega)) (hw.2 i hi)⟩
        refine hmono _ _ _ _ _ (by simp; omega) (ih (pd.filter fun q => !(Nat.beq q.1 p.1)).length (by omega) (pd.filter fun q => !(Nat.beq q.1 p.1)) _ _ w' rfl (fun q hq => hpd q ((hmem q).1 hq).1) (by simpa using hls) (hcls.next hj hls) (fun j hj => ?_) ⟨by rw [hf.dst]; exact s1, by rw [hf.dst]; simp [Act.put, s2], φ, g1, fun s => ?_⟩)
        · by_cases e : p.1 = j
          · subst e
            rw [getD_set_selfL true (by omega)]
            constructor
            · intro h; cases h
            · rintro (⟨q, hq, e⟩ | ⟨q, hq, e⟩)
              · exact absurd e ((hmem q).1 hq).2
              · exact absurd e.symm (hB.apart q hq _ hpH)
          · rw [getD_set' true e, hch j hj]
            constructor
            · rintro (⟨q, hq, rfl⟩ | h)
              · exact .inl ⟨q, (hmem q).2 ⟨hq, fun h => e h.symm⟩, rfl⟩
              · exact .inr h
            · rintro (⟨q, hq, rfl⟩ | h)
              · exact .inl ⟨q, ((hmem q).1 hq).1, rfl⟩
              · exact .inr h
        · rw [hf.dst, getD_put a _ s x (by rw [s2]; exact hf.lt)]
          split
          · rename_i e
            subst e
            unfold maskE
            split
            · simp [AV.rel]
            · rw [hE0 _ (mem_keys_dst hpH hf.dst), hf.val]; exact hv
          · rename_i e
            have := AV.rel_keeps g2 _ _ (AV.only_true _) (hE s)
            unfold maskE at this ⊢
            split
            · simp [AV.rel]
            · rename_i hn2
              rw [if_neg] at this
              · exact this
              · intro hany
                obtain ⟨q, hq, hbq⟩ := List.any_eq_true.1 hany
                refine hn2 (List.any_eq_true.2 ⟨q, (hmem q).2 ⟨hq, fun e' => ?_⟩, hbq⟩)
                -- two of one index are the same operation
                have h1 := hB.hat _ (hlH q (hpd q hq))
                have h2 := hB.hat _ hpH
                simp only at h1 h2
                rw [e', h2] at h1
                injection h1 with h1
                have d1 := (hF q (hpd q hq)).dst
                rw [← h1, hf.dst] at d1
                injection d1 with d1
                exact e (d1.trans (Nat.eq_of_beq_eq_true hbq))
    · rcases List.mem_cons.1 hp with rfl | hp
      · have := head pd listed a w p r rfl hpd hls hcls hch hj hS (hops p (.inr (by simp)) hj)
        rwa [hn] at this
      · exact (chain_ready (l := l) r t p hB.chain (fun x hx => (hch x.1 (hlt x (.inr hx))).2 (.inr ⟨x, hx, rfl⟩)) hB.tat hp hj).elim
theorem maskE_put {pd : List LO} {env : Env} {t : Nat} {v : AV} {s : Nat} (h : s ≠ t) : maskE pd ((t, v) :: env) s = maskE pd env s := by
  unfold maskE
  rw [look_put, if_neg (Ne.symm h)]
theorem cln_mask {pd : List LO} {env : Env} (h : clnE env = true) (t : Nat) : cln (maskE pd env t) = true := by
  unfold maskE
  split
  · rfl
  · exact clnE.look h t
theorem listed_next {p : IOq} {r : List IOq} {pd : List LO} {listed : Array Bool} (hB : LatB l H (p :: r)) (hlH : ∀ q ∈ pd, (q.1, q.2.1) ∈ H) (hls : listed.size = l.length) (hch : ∀ j, j < l.length → (listed.getD j true = false ↔ ((∃ q ∈ pd, q.1 = j) ∨ ∃ q ∈ p :: r, q.1 = j))) :
    ∀ j, j < l.length → ((listed.setIfInBounds p.1 true).getD j true = false ↔ ((∃ q ∈ pd, q.1 = j) ∨ ∃ q ∈ r, q.1 = j)) := fun j hj => by
  have hpl := (List.getElem?_eq_some_iff.1 (hB.tat p (by simp))).1
  have hnd := hB.tnd
  rw [List.map_cons, List.nodup_cons] at hnd
  by_cases e : p.1 = j
  · subst e
    rw [getD_set_selfL true (by omega)]
    constructor
    · intro h; cases h
    · rintro (⟨q, hq, e⟩ | ⟨q, hq, e⟩)
      · exact absurd e (hB.apart p (by simp) _ (hlH q hq))
      · exact absurd (List.mem_map.2 ⟨q, hq, e⟩) hnd.1
  · rw [getD_set' true e, hch j hj]
    constructor
    · rintro (h | ⟨q, hq, rfl⟩)
      · exact .inl h
      · rcases List.mem_cons.1 hq with rfl | hq
        · exact absurd rfl e
        · exact .inr ⟨q, hq, rfl⟩
    · rintro (h | ⟨q, hq, rfl⟩)
      · exact .inl h
      · exact .inr ⟨q, by simp [hq], rfl⟩
section
variable {i h : Int} {env : Env} {n t : Nat} {ty : TypeId} {pos : String} {after : Array Edge} {b : List UInt8}
theorem RunsP.eff {o : Oper} {T' : List IOq} (X : AV → Int → Int → Prop) (hg : o.guard = none) (hd : o.dst = some t) (ht : t < C.n) (hce : clnE env = true)
    (hs : ∀ (a : Act) (m : Mem), Good C m → m.σ = curOb ct u i h :: more → (∀ x ∈ o.op.operands, AV.rel m (ev env x) (a.eval x)) → ∀ (K : Act → World → Prop) (Q : Exit → Act → World → Prop),
      (∀ y i' h' v w', X y i' h' → Good C ⟨w', m.φ, curOb ct u i' h' :: more, C.ok⟩ → (∀ y x, cln y = true → AV.rel m y x → AV.rel ⟨w', m.φ, curOb ct u i' h' :: more, C.ok⟩ y x) → AV.rel ⟨w', m.φ, curOb ct u i' h' :: more, C.ok⟩ y v → K (a.put (some t) v) w') → o.wp P a m.w K Q)
    (hk : ∀ y i' h', X y i' h' → RunsP P C ct u more l H T' k R i' h' ((t, y) :: env)) : RunsP P C ct u more l H ((n, o) :: T') k R i h env := by
  refine ⟨fun hB late E0 hlH hF hE0 => runsP_step hB hlH hF hE0 (fun pd listed a w p r e hpd hls hcls hch hr hS hops => ?_) (by simp)⟩
  injection e with e1 e2
  subst e1; subst e2
  refine wpOp_at (by simpa using hB.tat (n, o) (by simp)) hg ?_
  obtain ⟨s1, s2, φ, hG, hE⟩ := hS
  refine hs a ⟨w, φ, curOb ct u i h :: more, C.ok⟩ hG rfl (ev_tmps fun s hs => by rw [← hops s hs]; exact hE s) _ _ fun y i' h' v w' hX g1 g2 g3 => ?_
  have hfr := hB.fresh (n, o) (by simp) t hd
  refine (hk y i' h' hX).run hB.tail late E0 hlH hF (fun s hs => ?_) pd.length pd _ _ w' rfl hpd (by simpa using hls) (hcls.next hr hls) (listed_next hB (fun q hq => hlH q (hpd q hq)) hls hch) ⟨s1, by simp [Act.put, s2], φ, g1, fun s => ?_⟩
  · rw [look_put, if_neg (fun (e : t = s) => hfr (by rw [e]; exact hs))]; exact hE0 s hs
  · rw [getD_put a t s v (by rw [s2]; exact ht)]
    split
    · rename_i e; subst e
      unfold maskE
      split
      · simp [AV.rel]
      · rw [look_put, if_pos rfl]; exact g3
    · rename_i e
      rw [maskE_put (Ne.symm e)]
      exact g2 _ _ (cln_mask hce s) (hE s)
theorem RunsP.pur {o : Oper} {T' : List IOq} {y : AV} (hp : Pur P C o env (curOb ct u i h :: more) y) (hg : o.guard = none) (hd : o.dst = some t) (ht : t < C.n) (hce : clnE env = true) (hk : RunsP P C ct u more l H T' k R i h ((t, y) :: env)) : RunsP P C ct u more l H ((n, o) :: T') k R i h env :=
  RunsP.eff (fun y' i' h' => y' = y ∧ i' = i ∧ h' = h) hg hd ht hce (fun a m hG hσ hH K Q hK => hp.run a m hG hσ hH K Q fun v w' hb hv => by
    obtain ⟨w, φ, s, ok0⟩ := m
    have h0 := hG.ok0
    simp only at h0 hσ
    subst h0; subst hσ
    obtain ⟨g1, g2⟩ := good_below hG hb
    rw [hd]
    exact hK y i h v w' ⟨rfl, rfl, rfl⟩ g1 (fun z x _ hz => AV.rel_keeps g2 _ _ (AV.only_true _) hz) hv) (by rintro _ _ _ ⟨rfl, rfl, rfl⟩; exact hk)
theorem RunsP.drawF {f : FuncId} {fn : Func} {x0 : Operand} {xs : List Operand} {ats : Array TypeId} {args : List RV} {Q : RR → Prop} {Q' : RV → Prop} {T' : List IOq} [hfn : FN P f fn] (hf : Drw P ct f b args Q) (hq : ∀ rr, Q rr → flatR rr = true ∧ ∃ r, Seals rr r ∧ Q' r) (hc : unpin (ev env x0) = .obj 0 0) (hu : HU C b u) (hi : CurOk b i) (ha : ∀ h : Int, LendsPL C (curOb ct u i h :: more) (xs.map (ev env)) args)
    (hce : clnE env = true) (hcl : clnO more = true) (ht : t < C.n) (hk : ∀ i' h' r, CurOk b i' → Q' r → RunsP P C ct u more l H T' k R i' h' ((t, .ro r) :: env)) :
    RunsP P C ct u more l H ((n, ⟨some t, .call { callee := .value (.func f), args := (x0 :: xs).toArray, argTypes := ats }, ty, pos, after, none⟩) :: T') k R i h env :=
  RunsP.eff (fun y i' h' => ∃ r, y = .ro r ∧ CurOk b i' ∧ Q' r) rfl rfl ht hce (fun a m hG hσ hH K Q hK =>
    draw_wpF hf (fun rr h => (hq rr h).1) hc hu hi hG hσ (by rw [hσ]; exact ha h) (fun x hx => hH x (by simp [Op.operands, Call.operands] at hx ⊢; exact .inr hx)) fun rr v w' i' h' bs g hQ hD => by
      obtain ⟨_, r, hs, hr⟩ := hq rr hQ
      obtain ⟨g1, g2, g3⟩ := hD.simS hG hσ hu.one hcl hs
      exact hK (.ro r) i' h' v w' ⟨r, rfl, hD.ok, hr⟩ g1 g2 g3) (by rintro _ i' h' ⟨r, rfl, h1, h2⟩; exact hk i' h' r h1 h2)
theorem RunsP.drawN {f : FuncId} {fn : Func} {x0 : Operand} {xs : List Operand} {ats : Array TypeId} {args : List RV} {Q : RR → Prop} {Q' : RV → Prop} {T' : List IOq} [hfn : FN P f fn] (hf : Drw P ct f b args Q) (hq : ∀ rr, Q rr → ∃ r, Seals rr r ∧ Q' r) (hc : unpin (ev env x0) = .obj 0 0) (hu : HU C b u) (hi : CurOk b i) (ha : xs.map (ev env) = args.map .ro)
    (hce : clnE env = true) (hcl : clnO more = true) (ht : t < C.n) (hk : ∀ i' h' r, CurOk b i' → Q' r → RunsP P C ct u more l H T' k R i' h' ((t, .ro r) :: env)) :
    RunsP P C ct u more l H ((n, ⟨some t, .call { callee := .value (.func f), args := (x0 :: xs).toArray, argTypes := ats }, ty, pos, after, none⟩) :: T') k R i h env :=
  RunsP.eff (fun y i' h' => ∃ r, y = .ro r ∧ CurOk b i' ∧ Q' r) rfl rfl ht hce (fun a m hG hσ hH K Q hK =>
    draw_wpN hf hc hu hi hG hσ (ha ▸ FitsL.ros args) (fun x hx => hH x (by simp [Op.operands, Call.operands] at hx ⊢; exact .inr hx)) fun rr v w' i' h' bs g hQ hD => by
      obtain ⟨r, hs, hr⟩ := hq rr hQ
      obtain ⟨g1, g2, g3⟩ := hD.simS hG hσ hu.one hcl hs
      exact hK (.ro r) i' h' v w' ⟨r, rfl, hD.ok, hr⟩ g1 g2 g3) (by rintro _ i' h' ⟨r, rfl, h1, h2⟩; exact hk i' h' r h1 h2)
theorem RunsP.done (m : Nat) (hm : (T.map (·.1)) = (List.range' m (l.length - m))) (hml : m < l.length) (hw : Region.sinkB .any l.toArray m = true) (hsq : Region.seqB .any l.toArray (l.length - m) m (Array.replicate m true ++ Array.replicate (l.length - m) false) = true)
    (hk : RunsL P C l.toArray (l.drop m) k R ⟨env, curOb ct u i h :: more⟩) : RunsP P C ct u more l H T k R i h env := by
  refine ⟨fun hB late E0 hlH hF hE0 => ?_⟩
  have hT : T ≠ [] := by
    rintro rfl
    have := congrArg List.length hm
    simp at this; omega
  have hin : ∀ j, (∃ p ∈ T, p.1 = j) ↔ m ≤ j ∧ j < l.length := fun j => by
    have : (∃ p ∈ T, p.1 = j) ↔ j ∈ T.map (·.1) := by simp only [List.mem_map]
    rw [this, hm, List.mem_range'_1]
    omega
  refine runsP_step hB hlH hF hE0 (fun pd listed a w p r e hpd hls hcls hch hr hS hops => ?_) hT
  subst e
  have hp1 : p.1 = m := by
    have := congrArg List.head? hm
    rw [show l.length - m = (l.length - m - 1) + 1 by omega, List.range'_succ] at this
    simpa using this
  -- nothing is pending
  have hall : ∀ n i, m - i ≤ n → i < m → listed.getD i false = true := by
    intro n
    induction n with
    | zero => intro i h1 h2; omega
    | succ n ih =>
      intro i h1 h2
      have hsk := List.all_eq_true.1 hw i (List.mem_range.2 h2)
      obtain ⟨j, hj, hb⟩ := List.any_eq_true.1 hsk
      rw [List.mem_range] at hj
      rw [Bool.and_eq_true] at hb
      obtain ⟨oj, hoj, e, he, hbn, hon⟩ := Region.waitsFor_spec hb.2
      have hij := of_decide_eq_true hb.1
      rw [← hon]
      by_cases ejm : j = m
      · subst ejm
        obtain ⟨_, o, h3, h4⟩ := mem_ready.1 hr
        rw [hp1] at h3
        rw [h3] at hoj; injection hoj with hoj; subst hoj
        exact h4 e he hbn
      · exact hcls j oj (by simpa using hoj) (ih j (by omega) (by omega)) e he hbn
  have hpd0 : pd = [] := by
    rw [List.eq_nil_iff_forall_not_mem]
    intro q hq
    have hql := (List.getElem?_eq_some_iff.1 (hB.hat _ (hlH q (hpd q hq)))).1
    have hqm : q.1 < m := by
      rcases Nat.lt_or_ge q.1 m with h | h
      · exact h
      · obtain ⟨x, hx, e⟩ := (hin q.1).2 ⟨h, hql⟩
        exact absurd e.symm (hB.apart x hx _ (hlH q (hpd q hq)))
    have h4 := hall (m - q.1) q.1 (Nat.le_refl _) hqm
    rw [getD_both ((hch q.1 hql).2 (.inl ⟨q, hq, rfl⟩))] at h4
    cases h4
  subst hpd0
  have hlst : listed = Array.replicate m true ++ Array.replicate (l.length - m) false := by
    refine Array.ext (by simp; omega) fun j h1 h2 => ?_
    have hjl : j < l.length := by omega
    have hx := hch j hjl
    simp only [List.not_mem_nil, false_and, exists_false, false_or] at hx
    rw [hin j, Array.getD_eq_getD_getElem?, Array.getElem?_eq_getElem h1, Option.getD_some] at hx
    rw [Array.getElem_append]
    split
    · rename_i h3
      simp only [Array.size_replicate] at h3
      rw [Array.getElem_replicate]
      cases hb : listed[j]
      · have := hx.1 hb; omega
      · rfl
    · rename_i h3
      simp only [Array.size_replicate] at h3
      rw [Array.getElem_replicate]
      exact hx.2 ⟨by omega, hjl⟩
  obtain ⟨s1, s2, φ, hG, hE⟩ := hS
  have hlen : r.length + 1 = l.length - m := by
    have := congrArg List.length hm
    simpa using this
  have hrun := hk.run a w ⟨s1, s2, φ, hG, fun s => by have := hE s; simpa [maskE] using this⟩
  have := wpAny_of_seq (md := .any) (Q' := nrm (Fin P k R)) (l.drop m) m listed a w (fun j => by simp [List.getElem?_drop]) (by rw [List.length_drop, hlst]; exact hsq) hrun
  rw [List.length_drop, ← hlen] at this
  rw [List.length_nil, Nat.zero_add]
  exact this.2 p.1 hr
end
structure RunsH (P : Program) (C : Ctx) (ct : TypeId) (u : Value) (more : List Ob) (l : List Oper) (H T : List IOq) (k : List Item) (R : Act → World → Prop) (i h : Int) (keys : List Nat) (rest : List IOq) (env : Env) : Prop where
  run : ∃ (late : List LO) (env' : Env), late.length = rest.length ∧ (∀ p ∈ late, (p.1, p.2.1) ∈ rest) ∧ (∀ p ∈ rest, ∃ q ∈ late, q.1 = p.1 ∧ q.2.1 = p.2) ∧ (∀ s ∈ keys, look env' s = look env s) ∧ (∀ s, (∀ p ∈ late, p.2.2.1 ≠ s) → look env' s = look env s) ∧ (∀ p ∈ late, LFact P C ct u more (look env') p) ∧ RunsP P C ct u more l H T k R i h env'
variable {i h : Int} {env : Env} {n t : Nat} {keys : List Nat} {rest : List IOq}
theorem RunsH.nil (hk : RunsP P C ct u more l H T k R i h env) : RunsH P C ct u more l H T k R i h keys [] env := ⟨⟨[], env, rfl, by simp, by simp, fun _ _ => rfl, fun _ _ => rfl, by simp, hk⟩⟩
theorem RunsH.pur {o : Oper} {v : AV} (hp : ∀ i h : Int, Pur P C o env (curOb ct u i h :: more) v) (hd : o.dst = some t) (ht : t < C.n) (hf : (keys ++ tmpsOf o).contains t = false)
    (hk : RunsH P C ct u more l H T k R i h (keys ++ tmpsOf o ++ [t]) rest ((t, v) :: env)) : RunsH P C ct u more l H T k R i h keys ((n, o) :: rest) env := by
  obtain ⟨late, env', h0, h1, h2, h3, h4, h5, h6⟩ := hk.run
  have hfr : ∀ s ∈ keys ++ tmpsOf o, s ≠ t := fun s hs e => by
    subst e
    have : (keys ++ tmpsOf o).contains s = true := List.contains_iff_mem.2 hs
    rw [hf] at this; cases this
  refine ⟨⟨(n, o, t, v) :: late, env', by simp [h0], fun p hp => ?_, fun p hp => ?_, fun s hs => ?_, fun s hs => ?_, fun p hp' => ?_, h6⟩⟩
  · rcases List.mem_cons.1 hp with rfl | hp
    · simp
    · exact List.mem_cons_of_mem _ (h1 p hp)
  · rcases List.mem_cons.1 hp with rfl | hp
    · exact ⟨_, List.mem_cons_self, rfl, rfl⟩
    · obtain ⟨q, hq, e⟩ := h2 p hp
      exact ⟨q, List.mem_cons_of_mem _ hq, e⟩
  · rw [h3 s (by simp [hs]), look_put, if_neg (Ne.symm (hfr s (by simp [hs])))]
  · rw [h4 s (fun p hp => hs p (List.mem_cons_of_mem _ hp)), look_put, if_neg (hs (n, o, t, v) List.mem_cons_self)]
  · rcases List.mem_cons.1 hp' with rfl | hp'
    · refine ⟨fun a m i h hG hσ hH K Q hK => ?_, ?_, hd, ht⟩
      · exact (hp i h).run a m hG hσ (ev_tmps fun s hs => by
          have := hH s hs
          rwa [h3 s (by simp [hs]), look_put, if_neg (Ne.symm (hfr s (by simp [hs])))] at this) K Q hK
      · show look env' t = v
        rw [h3 t (by simp), look_put, if_pos rfl]
    · exact h5 p hp'
def nodupB : List Nat → Bool
  | [] => true
  | x :: xs => !(xs.contains x) && nodupB xs
theorem nodupB_iff : ∀ {l : List Nat}, nodupB l = true → l.Nodup
  | [], _ => List.nodup_nil
  | x :: xs, h => by
    simp only [nodupB, Bool.and_eq_true, Bool.not_eq_true'] at h
    rw [List.nodup_cons]
    exact ⟨fun hm => by rw [List.contains_iff_mem.2 hm] at h; simp at h, nodupB_iff h.2⟩
theorem latB_of {hs ts : List Nat} (hB : lateB l.length (pick l hs) (pick l ts) = true) (hnd : nodupB ((pick l ts).map (·.1)) = true) : LatB l (pick l hs) (pick l ts) := by
  unfold lateB at hB
  simp only [Bool.and_eq_true] at hB
  obtain ⟨⟨⟨⟨b1, b2⟩, b3⟩, b4⟩, b5⟩ := hB
  rw [List.all_eq_true] at b1 b2
  have needs : ∀ (o : Oper), needB (pick l hs) o = true → ∀ q ∈ pick l hs, ∀ s ∈ tmpsOf o, q.2.dst = some s → waitsB o q.1 = true := fun o ho q hq s hs' hd => by
    have := List.all_eq_true.1 (List.all_eq_true.1 ho q hq) s hs'
    simpa [hd] using this
  refine ⟨fun p hp => pick_mem hp, fun p hp => pick_mem hp, fun p hp => ?_, fun p hp => ?_, fun p hp e he hb => ?_, fun p hp q hq e => ?_, fun p hp d hd hm => ?_, b3, nodupB_iff hnd, ⟨[], b4, by simp⟩⟩
  · rcases hp with hp | hp
    · have := b1 p hp
      simp only [Bool.and_eq_true] at this
      exact needs p.2 this.1.1.1
    · have := b2 p hp
      simp only [Bool.and_eq_true] at this
      exact needs p.2 this.1.1
  · have := b1 p hp
    simp only [Bool.and_eq_true] at this
    simpa using this.1.1.2
  · have := b1 p hp
    simp only [Bool.and_eq_true] at this
    have := edgesIn_iff.1 this.2 e he hb
    simp only [Bool.and_eq_true] at this
    exact ⟨Nat.le_of_ble_eq_true this.1, memI_iff.1 this.2⟩
  · have := b2 p hp
    simp only [Bool.and_eq_true] at this
    have h1 := this.1.2
    rw [memI_iff.2 ⟨q, hq, e⟩] at h1
    simp at h1
  · have := b2 p hp
    simp only [Bool.and_eq_true, hd] at this
    have h1 := this.2
    rw [List.contains_iff_mem.2 hm] at h1
    simp at h1
theorem Runs.toLate {id : Nat} {k0 : List Item} {σ : List Ob} (m : Nat) (hs ts : List Nat) (hf : P.follows .mixedOrders = true) (hσ : σ = curOb ct u i h :: more) (hc : Proofs.Ytnecoghfhcimeaa.ctls m k0 = .code (.region id l.toArray true) :: k) (hB : lateB l.length (pick l hs) (pick l ts) = true) (hnd : nodupB ((pick l ts).map (·.1)) = true) (hle : Nat.ble ((pick l hs).length + (pick l ts).length) l.length = true)
    (hk : RunsH P C ct u more l (pick l hs) (pick l ts) k R i h [] (pick l hs) env) : Runs P C k0 R ⟨env, σ⟩ := by
  subst hσ
  refine Runs.ctls m hc ⟨fun a w hs' => Fin.of_wp (wp_region_any hf ?_)⟩
  obtain ⟨s1, s2, φ, hG, hE⟩ := hs'
  have hb : Below w.heap.size w { w with drawn := w.drawn + 1 } := ⟨rfl, rfl, rfl, Nat.le_refl _, fun _ _ => rfl⟩
  obtain ⟨g1, g2⟩ := good_below hG hb
  obtain ⟨late, env', h0, h1, h2, _, h4, h5, h6⟩ := hk.run
  have hL := latB_of hB hnd
  have hall : ∀ j, j < l.length → (∃ p ∈ late, p.1 = j) ∨ ∃ p ∈ pick l ts, p.1 = j := fun j hj => by
    unfold lateB at hB
    simp only [Bool.and_eq_true] at hB
    have := List.all_eq_true.1 hB.2 j (List.mem_range.2 hj)
    rw [Bool.or_eq_true, memI_iff, memI_iff] at this
    rcases this with ⟨p, hp, e⟩ | h
    · obtain ⟨q, hq, e1, _⟩ := h2 p hp
      exact .inl ⟨q, hq, e1.trans e⟩
    · exact .inr h
  have hrun := h6.run hL late (look env') h1 h5 (fun _ _ => rfl) late.length late (Array.replicate l.length false) a { w with drawn := w.drawn + 1 } rfl (fun _ h => h) (by simp) (fun j o _ hl => by rw [getD_replicate_false] at hl; cases hl) (fun j hj => ⟨fun _ => hall j hj, fun _ => getD_in (by simpa using hj) (getD_replicate_false _ _)⟩) ⟨s1, s2, φ, g1, fun s => ?_⟩
  · have hmono : ∀ (n1 n2 : Nat) (listed : Array Bool) a w, n1 = n2 → wpAny P .any l.toArray (nrm (Fin P k R)) n1 listed a w → wpAny P .any l.toArray (nrm (Fin P k R)) n2 listed a w := fun _ _ _ _ _ e h => e ▸ h
    have hup : ∀ (n1 n2 : Nat) (listed : Array Bool) a w, n1 ≤ n2 → wpAny P .any l.toArray (nrm (Fin P k R)) n1 listed a w → wpAny P .any l.toArray (nrm (Fin P k R)) n2 listed a w := by
      intro n1
      induction n1 with
      | zero =>
        intro n2 listed a w _ hw
        cases n2 with
        | zero => exact hw
        | succ n2 => exact ⟨fun _ => hw.2, fun i hi => by rw [hw.1] at hi; cases hi⟩
      | succ n1 im =>
        intro n2 listed a w hle hw
        obtain ⟨n2, rfl⟩ : ∃ m, n2 = m + 1 := ⟨n2 - 1, by omega⟩
        exact ⟨hw.1, fun i hi => wpOp_mono (fun a w => im n2 _ a w (by omega)) (hw.2 i hi)⟩
    have hle' := Nat.le_of_ble_eq_true hle
    have := hup _ l.toArray.size _ _ _ (by simp; omega) hrun
    simpa using this
  · unfold maskE
    split
    · simp [AV.rel]
    · rename_i hn
      rw [h4 s fun p hp e => hn (List.any_eq_true.2 ⟨p, hp, by rw [e]; exact Nat.beq_refl _⟩)]
      exact AV.rel_keeps g2 _ _ (AV.only_true _) (hE s)
end
end Go.Proofs.Ytnecoghfhcimeaa
/- The draws' start: a cursor is made, and stands first among the frame's objects; calls whose result is known but for a property. Over any program. -/
namespace Go.Proofs.Ytnecoghfhcimeaa
set_option linter.unusedSimpArgs false
set_option linter.unusedVariables false
open Go.RowKit
open AV (Mem Keeps)
def ANewU (P : Program) (ct : TypeId) (f : FuncId) (b : List UInt8) : Prop :=
  ∀ (w : World) (ok : Nat → Prop) (u : Value), (∀ x, w.heap.size ≤ x → ok x) → RV.rel w ok (bytesR b) u →
    Calls P f #[u] w fun e w' => ∃ g h, e = .returned (.pointer (some ⟨g, 0, none⟩)) ∧ w.heap.size ≤ g ∧ CurAt ct w' g u 0 h ∧ Below w.heap.size w w'
def EndsNU (P : Program) (C : Ctx) (fn : Func) (ct : TypeId) (u : Value) (a : Act) (w : World) : Prop :=
  a.defers = [] ∧ ∃ g h, (results fn a.tmps).run P w = .ok (.pointer (some ⟨g, 0, none⟩)) w ∧ C.w0.heap.size ≤ g ∧ CurAt ct w g u 0 h ∧ Below C.w0.heap.size C.w0 w
theorem startU_sim {ok : Nat → Prop} {b : List UInt8} {args : List RV} {n : Nat} {u : Value} {us : List Value} {w : World} (h0 : ∀ x, w.heap.size ≤ x → ok x) (hu : RV.rel w ok (bytesR b) u) (hus : RV.rels w ok args us) (hl : args.length + 1 ≤ n) :
    Sim ⟨w, ok, fun _ => False, n⟩ ⟨(0, .ro (.c u)) :: startEnv 1 args, []⟩ { tmps := (u :: us).toArray ++ Array.replicate (n - (u :: us).toArray.size) undef, defers := [] } w := by
  have hlen := RV.rels_len args _ hus
  refine ⟨rfl, by simp; omega, fun _ => none, ⟨rfl, fun i j g hi => by simp at hi, fun i o hi => by simp at hi, fun i g hi => by simp at hi, ⟨rfl, rfl, rfl, Nat.le_refl _, fun _ _ _ => rfl, h0⟩⟩, fun t => ?_⟩
  rw [look_put]
  split
  · rename_i e; subst e
    simp only [AV.rel, RV.rel]
    rw [Array.getD_eq_getD_getElem?, Array.getElem?_append_left (by simp)]
    simp
  · rename_i e
    rw [start_look]
    by_cases h1 : 1 ≤ t
    · rw [if_pos h1]
      cases hr : args[t - 1]? with
      | none => simp [AV.rel]
      | some r =>
        obtain ⟨x, e1, e2⟩ := RV.rels_at args _ hus (t - 1) r hr
        have ht : t - 1 < us.length := (List.getElem?_eq_some_iff.1 e1).1
        simp only [AV.rel]
        have : ((u :: us).toArray ++ Array.replicate (n - (u :: us).toArray.size) undef).getD t undef = x := by
          rw [Array.getD_eq_getD_getElem?, Array.getElem?_append_left (by simp; omega)]
          obtain ⟨t', rfl⟩ : ∃ t', t = t' + 1 := ⟨t - 1, by omega⟩
          simp at e1 ⊢
          simp [e1]
        rw [this]
        exact RV.rel_mono ⟨Nat.le_refl _, fun x _ hx => ⟨⟨hx, fun j hj => by simp at hj⟩, rfl⟩⟩ r x e2
    · omega
theorem anewU_enter {P : Program} {ct : TypeId} {f : FuncId} {fn : Func} {c : Code} {b : List UInt8} (hf : P.funcs[f]? = some fn) (hb : fn.body = some c) (n : Nat) (hn : fn.ntmps = n) (hl : 1 ≤ n)
    (h : ∀ (C : Ctx) (u : Value), C.n = n → (∀ x, ¬ C.mu x) → HU C b u → Runs P C [.code c] (EndsNU P C fn ct u) ⟨[(0, .ro (.c u))], []⟩) : ANewU P ct f b := by
  intro w ok u h0 hu
  refine calls_of_fin hf hb ?_
  have hs := startU_sim (args := []) (us := []) (n := n) h0 hu (by simp [RV.rels]) (by simpa using hl)
  have hr := (h ⟨w, ok, fun _ => False, n⟩ u rfl (fun _ h => h) (RV.rel_mono ⟨Nat.le_refl _, fun x _ hx => ⟨⟨hx, id⟩, rfl⟩⟩ _ _ hu)).run _ w (by simpa [startEnv] using hs)
  intro bb cc
  obtain ⟨a', w', todo, ⟨hd, g, hh, hv, q1, q2, q3⟩, hst⟩ := hr bb cc
  exact ⟨a', w', todo, ⟨hd, _, hv, g, hh, rfl, q1, q2, q3⟩, by simpa [hn] using hst⟩
theorem endsNU {P : Program} {C : Ctx} {fn : Func} {ct : TypeId} {u : Value} {S : St} {t j : Nat} {h : Int} (hm : ∀ x, ¬ C.mu x) (hr : fn.results = #[.tmp t]) (h1 : look S.env t = .obj j 0) (h2 : S.σ[j]? = some (curOb ct u 0 h)) : ∀ a w, Sim C S a w → EndsNU P C fn ct u a w := by
  rintro a w ⟨s1, s2, φ, hG, hH⟩
  have hu := hH t
  rw [h1] at hu
  simp only [AV.rel] at hu
  obtain ⟨hj, g, hg, eu⟩ := hu
  have hob := hG.ob j _ h2
  rw [show (⟨w, φ, S.σ, C.ok⟩ : Mem).φ j = some g from hg] at hob
  obtain ⟨us, q1, q2, q3⟩ := hob
  obtain ⟨x0, e0, _, r0⟩ := q3 0 (.ro (.c u)) rfl
  obtain ⟨x1, e1, _, r1⟩ := q3 1 (.int 0) rfl
  obtain ⟨x2, e2, _, r2⟩ := q3 2 (.int h) rfl
  simp only [AV.rel, RV.rel] at r0 r1 r2
  subst r0; subst r1; subst r2
  exact ⟨s1, g, h, by rw [results_eq, hr]; simp [resRun, eu], (hG.mine j g hj hg).resolve_left (hm g), ⟨us, q1, e0, e1, e2⟩, hG.frm.below0 hm⟩
theorem acu_enter {P : Program} {f : FuncId} {fn : Func} {c : Code} {b : List UInt8} {args : List RV} {R : RR → Prop} (hf : P.funcs[f]? = some fn) (hb : fn.body = some c) (n : Nat) (hn : fn.ntmps = n) (hl : args.length + 1 ≤ n)
    (h : ∀ (C : Ctx) (u : Value), C.n = n → (∀ x, ¬ C.mu x) → HU C b u → Runs P C [.code c] (Ends P C fn R) ⟨(0, .ro (.c u)) :: startEnv 1 args, []⟩) : AC P f (bytesR b :: args) R := by
  intro w ok us h0 hu
  simp only [RV.rels] at hu
  obtain ⟨u, us', e, hu1, hu2⟩ := hu
  refine calls_of_fin hf hb ?_
  have hs := startU_sim (n := n) h0 hu1 hu2 hl
  have hr := (h ⟨w, ok, fun _ => False, n⟩ u rfl (fun _ h => h) (RV.rel_mono ⟨Nat.le_refl _, fun x _ hx => ⟨⟨hx, id⟩, rfl⟩⟩ _ _ hu1)).run _ w hs
  intro bb cc
  obtain ⟨a', w', todo, ⟨hd, v, hv, rr, bs, h1, h2, h3, h4, h5⟩, hst⟩ := hr bb cc
  have e' : us = (u :: us').toArray := by rw [← e]
  subst e'
  exact ⟨a', w', todo, ⟨hd, v, hv, v, rr, bs, rfl, h1, h2, h3, h4, h5⟩, by rw [hn]; exact hst⟩
theorem Lends.know {C : Ctx} {σ : List Ob} {b : List UInt8} {u : Value} (hu : HU C b u) : Lends C σ (.ro (.c u)) (bytesR b) := fun m x ok' hG _ h1 _ hx => by
  simp only [AV.rel, RV.rel] at hx
  subst hx
  exact RV.rel_mono ⟨Nat.le_refl _, fun z _ hz => ⟨h1 z hz, rfl⟩⟩ _ _ (hu.ok hG)
def rotR (n i : Nat) : Nat := match Nat.beq i n with
  | true => 0
  | false => i + 1
def renE (r : Nat → Nat) : Env → Env
  | [] => []
  | (t, v) :: e => (t, v.ren r) :: renE r e
theorem look_renE (r : Nat → Nat) : ∀ (e : Env) (t : Nat), look (renE r e) t = (look e t).ren r
  | [], t => by simp [renE, look, AV.ren]
  | (s, v) :: e, t => by
    rw [renE, look_put, look_put]
    split
    · rfl
    · exact look_renE r e t
theorem rotR_eq (n : Nat) : rotR n n = 0 := by unfold rotR; rw [Nat.beq_refl]
theorem rotR_ne {n i : Nat} (h : i ≠ n) : rotR n i = i + 1 := by
  unfold rotR
  cases hb : Nat.beq i n with
  | true => exact absurd (Nat.eq_of_beq_eq_true hb) h
  | false => rfl
section
variable {P : Program} {C : Ctx} {ops : Array Oper} {rest : List Oper} {k : List Item} {R : Act → World → Prop} {env : Env} {σ : List Ob} {t : Nat} {ty : TypeId} {pos : String} {after : Array Edge} {ct : TypeId} {b : List UInt8} {u : Value}
theorem sim_rot {o : Ob} {a : Act} {w : World} (hs : Sim C ⟨env, σ ++ [o]⟩ a w) : Sim C ⟨renE (rotR σ.length) env, (o :: σ).map (Ob.ren (rotR σ.length))⟩ a w := by
  obtain ⟨s1, s2, φ, hG, hH⟩ := hs
  let φ' : Nat → Option Nat := fun i => match i with
    | 0 => φ σ.length
    | i + 1 => φ i
  have hφ : ∀ i, i < σ.length + 1 → φ' (rotR σ.length i) = φ i := fun i hi => by
    by_cases e : i = σ.length
    · subst e; rw [rotR_eq]
    · rw [rotR_ne e]
  have hlen : ((o :: σ).map (Ob.ren (rotR σ.length))).length = σ.length + 1 := by simp
  have hat : ∀ (i : Nat) (x : Ob), (σ ++ [o])[i]? = some x → ((o :: σ).map (Ob.ren (rotR σ.length)))[rotR σ.length i]? = some (x.ren (rotR σ.length)) := fun i x hi => by
    have hil : i < σ.length + 1 := by have := (List.getElem?_eq_some_iff.1 hi).1; simpa using this
    rw [List.getElem?_map]
    by_cases e : i = σ.length
    · subst e
      rw [rotR_eq]
      simp at hi ⊢
      rw [hi]
    · rw [rotR_ne e, List.getElem?_cons_succ]
      rw [List.getElem?_append_left (by omega)] at hi
      rw [hi]; rfl
  have hinv : ∀ j, j < σ.length + 1 → ∃ i, i < σ.length + 1 ∧ rotR σ.length i = j := fun j hj => by
    cases j with
    | zero => exact ⟨σ.length, by omega, rotR_eq _⟩
    | succ j => exact ⟨j, by omega, rotR_ne (by omega)⟩
  have hrinj : ∀ i j, i < σ.length + 1 → j < σ.length + 1 → rotR σ.length i = rotR σ.length j → i = j := fun i j hi hj e => by
    by_cases e1 : i = σ.length <;> by_cases e2 : j = σ.length
    · omega
    · subst e1; rw [rotR_eq, rotR_ne e2] at e; omega
    · subst e2; rw [rotR_eq, rotR_ne e1] at e; omega
    · rw [rotR_ne e1, rotR_ne e2] at e; omega
  have key : ∀ v x, AV.rel ⟨w, φ, σ ++ [o], C.ok⟩ v x → AV.rel ⟨w, φ', (o :: σ).map (Ob.ren (rotR σ.length)), C.ok⟩ (v.ren (rotR σ.length)) x :=
    rel_ren (m := ⟨w, φ, σ ++ [o], C.ok⟩) (m' := ⟨w, φ', (o :: σ).map (Ob.ren (rotR σ.length)), C.ok⟩) (n := σ.length + 1) rfl (fun x hx => ⟨hx.1, fun j hj e => by
      simp only [hlen] at hj
      obtain ⟨i, hi, rfl⟩ := hinv j hj
      exact hx.2 i (by simpa using hi) ((hφ i hi).symm.trans e)⟩) (fun i hi => hφ i hi) (fun i hi => by
      simp only [hlen]
      by_cases e : i = σ.length
      · subst e; rw [rotR_eq]; omega
      · rw [rotR_ne e]; omega) (by simp) (fun i x hx => ⟨AV.rens (rotR σ.length) x.cs, hat i x hx, rens_len _ _⟩)
  refine ⟨s1, s2, φ', ⟨rfl, fun i j g hi hj e1 e2 => ?_, fun j x hj => ?_, fun j g hj hg => ?_, hG.frm⟩, fun s => by rw [show look (⟨renE _ env, _⟩ : St).env s = _ from look_renE _ _ _]; exact key _ _ (hH s)⟩
  · simp only [hlen] at hi hj
    obtain ⟨i', hi', rfl⟩ := hinv i hi
    obtain ⟨j', hj', rfl⟩ := hinv j hj
    rw [hG.inj i' j' g (by simpa using hi') (by simpa using hj') ((hφ i' hi').symm.trans e1) ((hφ j' hj').symm.trans e2)]
  · have hjl : j < σ.length + 1 := by have := (List.getElem?_eq_some_iff.1 hj).1; rwa [hlen] at this
    obtain ⟨i, hi, rfl⟩ := hinv j hjl
    obtain ⟨oo, hx⟩ : ∃ oo, (σ ++ [o])[i]? = some oo := ⟨_, List.getElem?_eq_getElem (by simpa using hi)⟩
    simp only at hj
    rw [hat i _ hx] at hj
    injection hj with hj; subst hj
    have h0 := hG.ob i _ hx
    show ObRel _ _ (φ' (rotR σ.length i))
    rw [hφ i hi]
    simp only at h0
    cases hg : φ i with
    | none => rw [hg] at h0; simp only [ObRel, Ob.ren] at h0 ⊢; rw [h0]; rfl
    | some g =>
      rw [hg] at h0
      obtain ⟨us, q1, q2, q3⟩ := h0
      refine ⟨us, q1, by simp only [Ob.ren, rens_len]; exact q2, fun p v hp => ?_⟩
      simp only [Ob.ren, rens_at] at hp
      obtain ⟨v0, hv0, rfl⟩ := Option.map_eq_some_iff.1 hp
      obtain ⟨y, k1, k2, k3⟩ := q3 p v0 hv0
      exact ⟨y, k1, k2, key v0 y k3⟩
  · simp only [hlen] at hj
    obtain ⟨i, hi, rfl⟩ := hinv j hj
    exact hG.mine i g (by simpa using hi) ((hφ i hi).symm.trans hg)
theorem op_newU {f : FuncId} {fn : Func} {x : Operand} {ats : Array TypeId} [hfn : FN P f fn] (hf : ANewU P ct f b) (hx : ev env x = .ro (.c u)) (hu : HU C b u) (ht : t < C.n)
    (hk : ∀ h : Int, CurOk b 0 → RunsL P C ops rest k R ⟨renE (rotR σ.length) ((t, .obj σ.length 0) :: env), (curOb ct u 0 h :: σ).map (Ob.ren (rotR σ.length))⟩) :
    RunsL P C ops (⟨some t, .call { callee := .value (.func f), args := #[x], argTypes := ats }, ty, pos, after, none⟩ :: rest) k R ⟨env, σ⟩ := by
  refine ⟨fun a w ⟨s1, s2, φ, hG, hH⟩ => ?_⟩
  refine wpList_plain rfl fun K hK' => ?_
  have hxx := ev_c (ev_rel hH x) hx
  unfold Oper.wp
  rw [execOp_call_go, run_call hfn]
  simp only [Oper.upon]
  have e0 : (#[x].map a.eval) = #[u] := by simp [hxx]
  rw [e0]
  simp only [Array.empty_append, Array.append_empty]
  refine (hf w (AV.Mem.ok ⟨w, φ, σ, C.ok⟩) u (ok_args hG) (hu.ok hG)).mono ?_
  rintro ee w' ⟨g, h, rfl, h1, ⟨us, q0, q1, q2, q3⟩, h5⟩
  obtain ⟨g1, g2⟩ := good_grow (φ' := upd φ σ.length (some g)) (new := [curOb ct u 0 h]) hG h5 (fun i hi => upd_ne (show i ≠ σ.length from Nat.ne_of_lt hi)) (fun j hj b hb => by
      simp at hj; subst hj; simp [upd_eq] at hb; subst hb; exact h1) (fun i j b hi hj _ _ => by simp at hi hj; omega) (fun j o hj => by
      cases j with
      | succ j => simp at hj
      | zero =>
        simp at hj; subst hj
        simp only [Nat.add_zero, upd_eq, ObRel]
        refine ⟨us, q0, ?_, fun p v hp => ?_⟩
        · have := (Array.getElem?_eq_some_iff.1 q3).1
          simp [curOb]; omega
        · simp only [curOb] at hp
          match p, hp with
          | 0, hp => simp at hp; subst hp; exact ⟨u, q1, hu.one, by simp [AV.rel, RV.rel]⟩
          | 1, hp => simp at hp; subst hp; exact ⟨_, q2, rfl, by simp [AV.rel, RV.rel]⟩
          | 2, hp => simp at hp; subst hp; exact ⟨_, q3, rfl, by simp [AV.rel, RV.rel]⟩
          | p + 3, hp => simp at hp)
  refine hK' _ _ ((hk h ⟨Int.le_refl _, by omega⟩).run _ _ (sim_rot (o := curOb ct u 0 h) ⟨s1, by simp [Act.put, s2], _, g1, (hH.keeps g2).put (by rw [s2]; exact ht) ?_⟩))
  simp only [AV.rel]
  exact ⟨by simp, g, upd_eq, rfl⟩
theorem op_callQ {f : FuncId} {fn : Func} {xs : Array Operand} {ats : Array TypeId} {args : List RV} {Rr : RR → Prop} {Q : RV → Prop} [hfn : FN P f fn] (hf : AC P f args Rr) (hs : ∀ rr, Rr rr → ∃ r, Seals rr r ∧ Q r) (ha : xs.toList.map (ev env) = args.map .ro) (ht : t < C.n)
    (hk : ∀ r, Q r → RunsL P C ops rest k R ⟨(t, .ro r) :: env, σ⟩) :
    RunsL P C ops (⟨some t, .call { callee := .value (.func f), args := xs, argTypes := ats }, ty, pos, after, none⟩ :: rest) k R ⟨env, σ⟩ := by
  refine ⟨fun a w ⟨s1, s2, φ, hG, hH⟩ => ?_⟩
  refine wpList_plain rfl fun K hK' => ?_
  have hr := FitsL.rels (ha ▸ FitsL.ros args) _ (rels_eval (a := a) (m := ⟨w, φ, σ, C.ok⟩) xs.toList fun x hx => ev_rel hH x)
  unfold Oper.wp
  rw [execOp_call_go, run_call hfn]
  simp only [Oper.upon]
  refine (hf w _ _ (ok_args hG) (by simpa using hr)).mono ?_
  rintro e w' ⟨v, rr, bs, rfl, hR, h1, _, h3, h4⟩
  obtain ⟨r, hs', hQ⟩ := hs rr hR
  obtain ⟨g1, g2⟩ := good_below hG h4
  refine hK' _ _ ((hk r hQ).run _ _ ⟨s1, by simp [Act.put, s2], φ, g1, (hH.keeps g2).put (by rw [s2]; exact ht) ?_⟩)
  simp only [AV.rel]
  refine seals_rel (ok := fun x => AV.Mem.ok ⟨w, φ, σ, C.ok⟩ x ∧ x ∉ bs) (fun x hx => hx.1) rr r v bs hs' h1 fun x hx => ok_args hG x (h3 x hx).1
end
end Go.Proofs.Ytnecoghfhcimeaa
