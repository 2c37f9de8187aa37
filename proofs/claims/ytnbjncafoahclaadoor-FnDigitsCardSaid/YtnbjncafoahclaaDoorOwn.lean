/- What a function built becomes data at its end; rows of wide elements. Over any program. -/
import Derived.Test.YtnbjncafoahclaaDoorLoop
import Derived.Great.BuildSlice
namespace Go.Proofs.YtnbjncafoahclaaDoor
set_option linter.unusedSimpArgs false
set_option linter.unusedVariables false
open Go.RowKit
open AV (Mem Keeps)
/-- A fresh result, taken as data. -/
theorem AC.shut {P : Program} {f : FuncId} {args : List RV} {R : RR → Prop} {r : RV} (h : AC P f args R) (hs : ∀ rr, R rr → Seals rr r) : ACv P f args r :=
  fun w ok us h0 hu => (h w ok us h0 hu).mono fun _ _ ⟨u, rr, bs, e, h1, h2, h3, h4, h5⟩ => ⟨u, .ro r, [], e, rfl, by
    simp only [RR.rel]
    exact ⟨seals_rel (fun b hb => ⟨hb.1, by simp⟩) rr r u bs (hs rr h1) h2 (fun b hb => ⟨h0 b (h4 b hb).1, by simp⟩), trivial⟩, by simp, by simp, h5⟩
section
variable {P : Program} {C : Ctx} {fn : Func} {R : RR → Prop} {S : St} {a : Act} {w : World}
/-- The end of a function whose result, memory and all, is taken as data. -/
theorem ends_lend {x : ResultVar} {v : AV} {r : RV} (hm : ∀ b, ¬ C.mu b) (hr : fn.results = #[x]) (hx : ResV P S x v) (hR : R (.ro r)) (hl : Lends C S.σ v r) : ∀ a w, Sim C S a w → Ends P C fn R a w := by
  intro a w ⟨h1, h2, φ, hG, hH⟩
  obtain ⟨u, k1, k2⟩ := resV_run (P := P) hG hH x v hx
  have hrel := hl ⟨w, φ, S.σ, C.ok⟩ u C.ok hG rfl (fun b hb => hb.1) (fun i g hi hg => hG.frm.new g ((hG.mine i g hi hg).resolve_left (hm g))) k2
  exact ⟨h1, u, by rw [results_eq, hr]; simp [k1], .ro r, [], hR, by simp only [RR.rel]; exact ⟨RV.rel_mono ⟨Nat.le_refl _, fun b _ hb => ⟨⟨hb, by simp⟩, rfl⟩⟩ r u hrel, trivial⟩, by simp, by simp, hG.frm.below0 hm⟩
theorem ends_cellR {p ty n i off : Nat} {o : Ob} {rs : List RV} [ht : TN P ty n] (hm : ∀ b, ¬ C.mu b) (hr : fn.results = #[.cell p ty]) (h1 : look S.env p = .obj i off) (h2 : S.σ[i]? = some o) (h3 : off + n ≤ o.cs.length) (hR : R (.ro (.agg rs))) (hc : (o.cs.drop off).take n = rs.map .ro) : ∀ a w, Sim C S a w → Ends P C fn R a w :=
  ends_lend (v := .agg ((o.cs.drop off).take n)) hm hr (by simp only [ResV]; exact ⟨i, off, o, h1, h2, .inr ⟨n, ht, h3, rfl⟩⟩) hR (hc ▸ Lends.agg (LendsL.ros rs))
theorem ends_ownR {t i : Nat} {o : Ob} {els : List (List RV)} (hm : ∀ b, ¬ C.mu b) (hr : fn.results = #[.tmp t]) (hx : look S.env t = .own i) (ho : S.σ[i]? = some o) (hR : R (.ro (.seq o.sz els))) (hc : o.cs = els.flatten.map .ro) (hl : ∀ x ∈ els, x.length = o.sz) : ∀ a w, Sim C S a w → Ends P C fn R a w :=
  ends_lend (v := .own i) hm hr (by simp only [ResV]; exact hx.symm) hR (Lends.own ho hc hl)
end
/-! ### Rows that are filled from the left. -/
theorem sets_app : ∀ (l P Z : List AV) (k : Nat), P.length = k → l.length ≤ Z.length → setsAt (P ++ Z) k l = P ++ l ++ Z.drop l.length
  | [], P, Z, k, _, _ => by simp [setsAt]
  | x :: xs, P, [], k, _, h => by simp at h
  | x :: xs, P, z :: Z, k, hk, h => by
    rw [setsAt, List.set_append_right _ _ (by omega), hk, Nat.sub_self, List.set_cons_zero, ← List.singleton_append, ← List.append_assoc, sets_app xs (P ++ [x]) Z (k + 1) (by simp [hk]) (by simpa using h)]
    simp
section
variable {α : Type} (f : α → List RV) (zc : List RV) (sz : Nat)
def filled (l : List α) (j : Nat) : List RV := ((l.take j).map f).flatten ++ (List.replicate (l.length - j) zc).flatten
theorem filled_zero (l : List α) : filled f zc l 0 = (List.replicate l.length zc).flatten := by simp [filled]
theorem filled_full (l : List α) : filled f zc l l.length = (l.map f).flatten := by simp [filled]
variable {f zc sz}
theorem map_flatten_len (hf : ∀ x, (f x).length = sz) : ∀ l : List α, (l.map f).flatten.length = l.length * sz
  | [] => by simp
  | x :: xs => by rw [List.map_cons, List.flatten_cons, List.length_append, hf, map_flatten_len hf xs, List.length_cons, Nat.succ_mul, Nat.add_comm]
theorem rep_flatten_len {α : Type} (l : List α) : ∀ n : Nat, (List.replicate n l).flatten.length = n * l.length
  | 0 => by simp
  | n + 1 => by rw [List.replicate_succ, List.flatten_cons, List.length_append, rep_flatten_len l n, Nat.succ_mul, Nat.add_comm]
theorem filled_len (hf : ∀ x, (f x).length = sz) (hz : zc.length = sz) (l : List α) (j : Nat) (hj : j ≤ l.length) : (filled f zc l j).length = l.length * sz := by
  rw [filled, List.length_append, map_flatten_len hf, rep_flatten_len, hz, List.length_take, Nat.min_eq_left hj, ← Nat.add_mul, Nat.add_sub_cancel' hj]
theorem filled_set (hf : ∀ x, (f x).length = sz) (hz : zc.length = sz) (l : List α) (j : Nat) (x : α) (hx : l[j]? = some x) :
    setsAt ((filled f zc l j).map .ro) (j * sz) ((f x).map .ro) = (filled f zc l (j + 1)).map .ro := by
  obtain ⟨hj, rfl⟩ := List.getElem?_eq_some_iff.1 hx
  have e : l.length - j = (l.length - (j + 1)) + 1 := by omega
  rw [filled, List.map_append, sets_app _ _ _ _ (by simp only [List.length_map]; rw [map_flatten_len hf, List.length_take, Nat.min_eq_left (by omega)]) (by simp only [List.length_map, rep_flatten_len, hf, hz, e]; rw [Nat.succ_mul]; omega)]
  have e2 : List.drop (List.map AV.ro (f l[j])).length (List.map AV.ro (List.replicate (l.length - j) zc).flatten) = List.map AV.ro (List.replicate (l.length - (j + 1)) zc).flatten := by
    rw [e, List.replicate_succ, List.flatten_cons, List.map_append, List.drop_left' (by rw [List.length_map, List.length_map, hf, hz])]
  rw [e2, filled, List.take_succ_eq_append_getElem hj]
  simp only [List.map_append, List.map_cons, List.map_nil, List.flatten_append, List.flatten_cons, List.flatten_nil, List.append_nil, List.append_assoc]
end
theorem rep_at {α : Type} (l : List α) (h0 : 0 < l.length) : ∀ (n i : Nat), i < n * l.length → (List.replicate n l).flatten[i]? = l[i % l.length]?
  | 0, i, h => by simp at h
  | n + 1, i, h => by
    rw [List.replicate_succ, List.flatten_cons]
    rcases Nat.lt_or_ge i l.length with hlt | hge
    · rw [List.getElem?_append_left hlt, Nat.mod_eq_of_lt hlt]
    · rw [List.getElem?_append_right hge, rep_at l h0 n (i - l.length) (by rw [Nat.succ_mul] at h; omega), Nat.mod_eq_sub_mod hge]
theorem made_N (zs : List Value) (n : Nat) (h0 : 0 < zs.length) : (madeCells zs.toArray (n * zs.length)).toList = (List.replicate n zs).flatten := by
  refine List.ext_getElem? fun i => ?_
  rcases Nat.lt_or_ge i (n * zs.length) with h | h
  · rw [rep_at zs h0 n i h]
    have hm : i % zs.length < zs.length := Nat.mod_lt _ h0
    rw [madeCells, Array.getElem?_toList, Array.getElem?_map, Array.getElem?_range, if_pos h]
    simp only [Option.map_some, List.size_toArray]
    rw [List.getElem?_eq_getElem hm, getElem!_pos _ _ (by simpa using hm)]
    simp
  · rw [List.getElem?_eq_none (by simpa [size_madeCells] using h), List.getElem?_eq_none (by rw [rep_flatten_len]; exact h)]
section
variable {P : Program} {C : Ctx} {ops : Array Oper} {rest : List Oper} {k : List Item} {R : Act → World → Prop} {env : Env} {σ : List Ob} {t : Nat} {ty : TypeId} {pos : String} {after : Array Edge} {gd : Option (Nat × Bool)}
/-- A row of wide elements is made. -/
theorem op_makeN {tt e : TypeId} {z : Value} {sz bytes n : Nat} {zs : List Value} {x y : Operand} {kd kd' : IntKind} [hs : SL P tt e z sz bytes] (hx : ev env x = .ro (.c (.int kd (n : Int)))) (hy : ev env y = .ro (.c (.int kd' (n : Int)))) (hz : z.cells = zs.toArray) (hzl : zs.length = sz) (hz0' : 0 < sz) (hz1 : zs.all Value.oneCell' = true)
    (b2 : bytes * n ≤ 281474976710656) (b3 : n ≤ maxLen) (ht : t < C.n) (hk : RunsL P C ops rest k R ⟨(t, .own σ.length) :: env, σ ++ [⟨e, sz, ((List.replicate n (zs.map RV.c)).flatten).map .ro⟩]⟩) :
    RunsL P C ops (⟨some t, .makeSlice tt x y, ty, pos, after, none⟩ :: rest) k R ⟨env, σ⟩ :=
  RunsL.val rfl rfl ht (fun a w φ hG hH => by
    obtain ⟨i, hi, hz0, hsz, hb⟩ := hs.el.hi
    have hbb : (i.bytes : Int) * (n : Int) ≤ 281474976710656 := by
      rw [hb]
      have h : ((bytes * n : Nat) : Int) ≤ 281474976710656 := by omega
      rwa [Int.natCast_mul] at h
    have hr := run_make (P := P) w tt e i z hs.el.ht hi hz0 kd kd' n n (by omega) (Int.le_refl _) hbb (by simp [maxLen] at b3; omega)
    simp only [Int.toNat_natCast, hsz] at hr
    subst hzl
    have hm : (madeCells z.cells (n * zs.length)).toList = (List.replicate n zs).flatten := by rw [hz]; exact made_N zs n hz0'
    have hlen : ((List.replicate n (zs.map RV.c)).flatten).length = n * zs.length := by rw [rep_flatten_len, List.length_map]
    have hg := good_alloc hG (madeCells z.cells (n * zs.length)) e zs.length (((List.replicate n (zs.map RV.c)).flatten).map .ro) (Nat.le_of_eq (by rw [List.length_map, hlen, size_madeCells])) (fun j v hj => by
      rw [List.getElem?_map, Option.map_eq_some_iff] at hj
      obtain ⟨r, hr', rfl⟩ := hj
      have hjn : j < n * zs.length := by have := (List.getElem?_eq_some_iff.1 hr').1; omega
      rw [rep_at _ (by simpa using hz0') n j (by simpa using hjn), List.getElem?_map, Option.map_eq_some_iff, List.length_map] at hr'
      obtain ⟨c, hc, rfl⟩ := hr'
      refine ⟨c, ?_, List.all_eq_true.1 hz1 c (List.mem_of_getElem? hc), by simp [AV.rel, RV.rel]⟩
      rw [← Array.getElem?_toList, hm, rep_at _ hz0' n j hjn, hc])
    refine ⟨slv w.heap.size n n, _, _, by simp only [execOp, ev_c (ev_rel hH x) hx, ev_c (ev_rel hH y) hy, Sem.run_bind, hr, Result.andThen]; rfl, hg.1, hg.2, ?_⟩
    simp only [AV.rel]
    exact ⟨⟨e, zs.length, ((List.replicate n (zs.map RV.c)).flatten).map .ro⟩, n, by rw [List.getElem?_append_right (Nat.le_refl _), Nat.sub_self]; rfl, by show List.length (List.map _ _) = _; rw [List.length_map, hlen], hz0', .inr ⟨w.heap.size, n, _, upd_eq, rfl, heap_alloc_new w _, Nat.le_refl _, b3, size_madeCells _ _⟩⟩) hk
/-- What the frame no longer needs, falls. -/
theorem Runs.shed {E' : Env} {s' more : List Ob} (hsub : Sub E' env) (hσ : σ = s' ++ more) (hf : Free s'.length E') (ho : FreeO s'.length s') (h : Runs P C k R ⟨E', s'⟩) : Runs P C k R ⟨env, σ⟩ := by
  subst hσ
  exact Runs.keep E' hsub (Runs.drop hf ho h)
/-- A loop that counts, whose rounds may leave objects behind. -/
theorem Runs.loopD {more0 : List Ob} (m : Nat) {c : Code} {k' : List Item} (hc : Proofs.YtnbjncafoahclaaDoor.ctls m k = .code (.loop c) :: k') (E : Nat → Env) (s : Nat → List Ob) (hf : ∀ j, Free (s j).length (E j) ∧ FreeO (s j).length (s j)) (Q : Nat → Prop) (len : Nat) (j0 : Nat) (hj0 : j0 ≤ len) (h0 : Q j0) (henv : Sub (E j0) env) (hs : s j0 ++ more0 = σ)
    (round : ∀ j, j ≤ len → Q j → (∀ env' σ' more, Sub (E (j + 1)) env' → j < len → Q (j + 1) → s (j + 1) ++ more = σ' → Runs P C (.inLoop c :: k') R ⟨env', σ'⟩) → Runs P C (.code c :: .inLoop c :: k') R ⟨E j, s j⟩) :
    Runs P C k R ⟨env, σ⟩ := by
  refine Runs.ctls m hc ?_
  refine Runs.shed henv hs.symm (hf j0).1 (hf j0).2 ?_
  refine Runs.loop (fun n S => ∃ j, j + n = len ∧ Q j ∧ S = ⟨E j, s j⟩) (fun n S hI ih => ?_) (len - j0) ⟨j0, by omega, h0, rfl⟩
  obtain ⟨j, hj, hQ, rfl⟩ := hI
  refine round j (by omega) hQ fun env' σ' more hsub hlt hQ' hσ => ?_
  exact Runs.shed hsub hσ.symm (hf _).1 (hf _).2 (ih (n - 1) (by omega) _ ⟨j + 1, by omega, hQ', rfl⟩)
theorem Sub.cons_new {e env : Env} {t : Nat} {v : AV} (h : Sub e env) (hn : ∀ x ∈ e, x.1 ≠ t) : Sub e ((t, v) :: env) := by
  induction e with
  | nil => trivial
  | cons p e ih =>
    obtain ⟨s, u⟩ := p
    simp only [Sub] at h ⊢
    exact ⟨by rw [look_put, if_neg (fun he => hn (s, u) (by simp) he.symm)]; exact h.1, ih h.2 fun x hx => hn x (by simp [hx])⟩
/-! ### Slice literals. -/
/-- The cells of the parts of a literal that names each place in turn. -/
def partCells (env : Env) : Nat → List (Nat × Operand) → Option (List (List AV))
  | _, [] => some []
  | n, p :: l => match Nat.beq p.1 n with
    | true => match cells? (ev env p.2) with
      | some c => match partCells env (n + 1) l with
        | some cs => some (c :: cs)
        | none => none
      | none => none
    | false => none
theorem partCells_ok {m : Mem} {a : Act} : ∀ (l : List (Nat × Operand)) (n : Nat) (css : List (List AV)), (∀ p ∈ l, AV.rel m (ev env p.2) (a.eval p.2)) → partCells env n l = some css →
    (l.map fun p => (p.1, a.eval p.2)) = ((l.map fun p => a.eval p.2).zipIdx n).map (fun x => (x.2, x.1)) ∧ css.length = l.length ∧
    ∀ (i : Nat) p c, l[i]? = some p → css[i]? = some c → (a.eval p.2).cells.size = c.length ∧ ∀ (j : Nat) x, c[j]? = some x → ∃ y, (a.eval p.2).cells[j]? = some y ∧ y.oneCell' = true ∧ AV.rel m x y
  | [], n, css, _, h => by simp only [partCells, Option.some.injEq] at h; subst h; simp
  | p :: l, n, css, hH, h => by
    unfold partCells at h
    split at h
    · rename_i hb
      split at h
      · rename_i c hc
        split at h
        · rename_i cs hcs
          injection h with h; subst h
          obtain ⟨h1, h2, h3⟩ := partCells_ok l (n + 1) cs (fun p hp => hH p (by simp [hp])) hcs
          have hn : p.1 = n := Nat.eq_of_beq_eq_true hb
          refine ⟨by simp only [List.map_cons, List.zipIdx_cons, h1, hn], by simp [h2], fun i q d e1 e2 => ?_⟩
          cases i with
          | zero => simp at e1 e2; subst e1; subst e2; exact cells_rel (hH p (by simp)) hc
          | succ i => exact h3 i q d (by simpa using e1) (by simpa using e2)
        · cases h
      · cases h
    · cases h
theorem flatMap_at {α β : Type} {sz : Nat} (f : α → List β) : ∀ (l : List α), (∀ x ∈ l, (f x).length = sz) → ∀ (i j : Nat) x, l[i]? = some x → j < sz → (l.flatMap f)[i * sz + j]? = (f x)[j]?
  | [], _, i, j, x, h, _ => by simp at h
  | y :: l, hl, i, j, x, h, hj => by
    have hy := hl y (by simp)
    rw [List.flatMap_cons]
    cases i with
    | zero => simp at h; subst h; rw [Nat.zero_mul, Nat.zero_add, List.getElem?_append_left (by omega)]
    | succ i =>
      rw [List.getElem?_append_right (by rw [Nat.succ_mul]; omega), hy, show (i + 1) * sz + j - sz = i * sz + j by rw [Nat.succ_mul]; omega]
      exact flatMap_at f l (fun x hx => hl x (by simp [hx])) i j x (by simpa using h) hj
theorem built {tt e : TypeId} {z : Value} {sz bytes len : Nat} {parts : Array (Nat × Operand)} {css : List (List AV)} [hs : SL P tt e z sz bytes] {m : Mem} {a : Act} (hH : ∀ p ∈ parts.toList, AV.rel m (ev env p.2) (a.eval p.2)) (hp : partCells env 0 parts.toList = some css)
    (hl : css.length = len) (hsz : ∀ c ∈ css, c.length = sz) (hpos : 0 < len * sz) (hsm : len * sz ≤ 16777216) :
    ∃ us : Array Value, (Instr.buildSlice tt len (parts.map fun p => (p.1, a.eval p.2))).run P m.w = .ok (slv m.w.heap.size len len) (m.w.alloc (.cells us e)) ∧ us.size = len * sz ∧
      ∀ (j : Nat) v, css.flatten[j]? = some v → ∃ u, us[j]? = some u ∧ u.oneCell' = true ∧ AV.rel m v u := by
  obtain ⟨h1, h2, h3⟩ := partCells_ok parts.toList 0 css hH hp
  obtain ⟨i, hi, hz0, hsz', hb⟩ := hs.el.hi
  have hs0 : 0 < sz := Nat.pos_of_mul_pos_left hpos
  let vs := parts.toList.map fun p => a.eval p.2
  have hvl : vs.length = len := by simp [vs, ← hl, h2]
  have hvat : ∀ (i : Nat) v, vs[i]? = some v → ∃ p c, parts.toList[i]? = some p ∧ css[i]? = some c ∧ v = a.eval p.2 := fun i v hv => by
    simp only [vs, List.getElem?_map, Option.map_eq_some_iff] at hv
    obtain ⟨p, hp', rfl⟩ := hv
    have hil : i < css.length := by rw [h2]; exact (List.getElem?_eq_some_iff.1 hp').1
    exact ⟨p, css[i], hp', List.getElem?_eq_getElem hil, rfl⟩
  have hcs : ∀ v ∈ vs, v.cells.size = sz := fun v hv => by
    obtain ⟨i, hi', rfl⟩ := List.getElem_of_mem hv
    obtain ⟨p, c, e1, e2, e3⟩ := hvat i _ (List.getElem?_eq_getElem hi')
    rw [e3, (h3 i p c e1 e2).1]
    exact hsz c (List.mem_of_getElem? e2)
  refine ⟨(vs.flatMap fun v => v.cells.toList).toArray, ?_, ?_, fun j v hj => ?_⟩
  · refine run_buildSlice m.w tt e len _ _ i z hs.el.ht hi hz0 (by rw [hsz']; omega) (by rw [hsz']; omega) ?_
    rw [Array.toList_map, h1, hsz']
    exact Great.fill_whole hs0 vs _ hcs (by simp [hvl])
  · rw [List.size_toArray, List.length_flatMap]
    have : ∀ l : List Value, (∀ v ∈ l, v.cells.size = sz) → (l.map fun v => v.cells.toList.length).sum = l.length * sz := by
      intro l hl'
      induction l with
      | nil => simp
      | cons v l ih => rw [List.map_cons, List.sum_cons, ih (fun v hv => hl' v (by simp [hv])), Array.length_toList, hl' v (by simp), List.length_cons, Nat.succ_mul, Nat.add_comm]
    rw [this vs hcs, hvl]
  · have hjl : j < css.length * sz := by rw [← flatten_len hsz]; exact (List.getElem?_eq_some_iff.1 hj).1
    have hq : j / sz < css.length := Nat.div_lt_of_lt_mul (by rwa [Nat.mul_comm])
    have hr : j % sz < sz := Nat.mod_lt _ hs0
    have hjj : j = (j / sz) * sz + j % sz := by rw [Nat.mul_comm]; exact (Nat.div_add_mod j sz).symm
    have hvq : j / sz < vs.length := by rw [hvl, ← hl]; exact hq
    obtain ⟨p, c, e1, e2, e3⟩ := hvat (j / sz) _ (List.getElem?_eq_getElem hvq)
    obtain ⟨k1, k2⟩ := h3 _ p c e1 e2
    have hcv : c[j % sz]? = some v := by
      have := flatMap_at (fun x : List AV => x) css hsz (j / sz) (j % sz) c e2 hr
      rw [← this, ← hjj, ← hj]; simp [List.flatMap]
    obtain ⟨y, y1, y2, y3⟩ := k2 _ v hcv
    refine ⟨y, ?_, y2, y3⟩
    rw [List.getElem?_toArray, hjj, flatMap_at (fun v : Value => v.cells.toList) vs (by simpa using hcs) (j / sz) (j % sz) _ (List.getElem?_eq_getElem hvq) hr, e3, Array.getElem?_toList, y1]
/-- .. whose memory the frame owns. -/
theorem op_build {tt e : TypeId} {z : Value} {sz bytes len : Nat} {parts : Array (Nat × Operand)} {css : List (List AV)} [hs : SL P tt e z sz bytes] (hp : partCells env 0 parts.toList = some css)
    (hl : css.length = len) (hsz : (css.all fun c => Nat.beq c.length sz) = true) (hpos : Nat.ble 1 (len * sz) = true) (hsm : Nat.ble (len * sz) 16777216 = true) (ht : t < C.n) (hk : RunsL P C ops rest k R ⟨(t, .own σ.length) :: env, σ ++ [⟨e, sz, css.flatten⟩]⟩) :
    RunsL P C ops (⟨some t, .buildSlice tt len parts, ty, pos, after, none⟩ :: rest) k R ⟨env, σ⟩ :=
  RunsL.val rfl rfl ht (fun a w φ hG hH => by
    have hsz' : ∀ c ∈ css, c.length = sz := fun c hc => Nat.eq_of_beq_eq_true (List.all_eq_true.1 hsz c hc)
    have h1 := Nat.le_of_ble_eq_true hpos
    have h2 := Nat.le_of_ble_eq_true hsm
    obtain ⟨us, k1, k2, k3⟩ := built (P := P) (tt := tt) (a := a) (m := ⟨w, φ, σ, C.ok⟩) (fun p _ => ev_rel hH p.2) hp hl hsz' h1 h2
    have hcl : css.flatten.length = len * sz := by rw [flatten_len hsz', hl]
    have hg := good_alloc hG us e sz css.flatten (by omega) k3
    have hlen : 0 < sz := Nat.pos_of_mul_pos_left h1
    refine ⟨slv w.heap.size len len, _, _, by simp only [execOp, Sem.run_bind]; rw [k1]; rfl, hg.1, hg.2, ?_⟩
    simp only [AV.rel]
    have hml : len ≤ maxLen := by have : len * 1 ≤ len * sz := Nat.mul_le_mul_left _ hlen; simp [maxLen]; omega
    exact ⟨⟨e, sz, css.flatten⟩, len, by rw [List.getElem?_append_right (Nat.le_refl _), Nat.sub_self]; rfl, hcl, hlen, .inr ⟨w.heap.size, len, _, upd_eq, rfl, heap_alloc_new w _, Nat.le_refl _, hml, k2⟩⟩) hk
/-- Data in each cell. -/
def roList : List AV → Option (List RV)
  | [] => some []
  | .ro r :: l => match roList l with
    | some rs => some (r :: rs)
    | none => none
  | _ :: _ => none
theorem roList_eq : ∀ (l : List AV) (rs : List RV), roList l = some rs → l = rs.map .ro
  | [], rs, h => by simp only [roList, Option.some.injEq] at h; subst h; rfl
  | .ro r :: l, rs, h => by
    unfold roList at h
    split at h
    · rename_i rs' h'
      injection h with h; subst h
      rw [roList_eq l rs' h']; rfl
    · cases h
  | .obj _ _ :: l, rs, h => by cases h
  | .own _ :: l, rs, h => by cases h
  | .agg _ :: l, rs, h => by cases h
  | .tup _ :: l, rs, h => by cases h
  | .fn _ _ _ :: l, rs, h => by cases h
  | .junk :: l, rs, h => by cases h
def roLists : List (List AV) → Option (List (List RV))
  | [] => some []
  | l :: ls => match roList l with
    | some r => match roLists ls with
      | some rs => some (r :: rs)
      | none => none
    | none => none
theorem roLists_eq : ∀ (l : List (List AV)) (rs : List (List RV)), roLists l = some rs → l = rs.map (·.map .ro)
  | [], rs, h => by simp only [roLists, Option.some.injEq] at h; subst h; rfl
  | l :: ls, rs, h => by
    unfold roLists at h
    split at h
    · rename_i r hr
      split at h
      · rename_i rs' h'
        injection h with h; subst h
        rw [roList_eq l r hr, roLists_eq ls rs' h']; rfl
      · cases h
    · cases h
/-- A literal that is only read. -/
theorem pu_build {tt e : TypeId} {z : Value} {sz bytes len : Nat} {parts : Array (Nat × Operand)} {css : List (List AV)} {els : List (List RV)} [hs : SL P tt e z sz bytes] (hp : partCells env 0 parts.toList = some css) (hr : roLists css = some els)
    (hl : css.length = len) (hsz : (css.all fun c => Nat.beq c.length sz) = true) (hpos : Nat.ble 1 (len * sz) = true) (hsm : Nat.ble (len * sz) 16777216 = true) :
    Pur P C ⟨some t, .buildSlice tt len parts, ty, pos, after, gd⟩ env σ (.ro (.seq sz els)) := by
  refine ⟨fun a m hG hσ hH K Q hK => ?_⟩
  have hsz' : ∀ c ∈ css, c.length = sz := fun c hc => Nat.eq_of_beq_eq_true (List.all_eq_true.1 hsz c hc)
  have h1 := Nat.le_of_ble_eq_true hpos
  have h2 := Nat.le_of_ble_eq_true hsm
  obtain ⟨w, φ, σ', ok⟩ := m
  have hok : ok = C.ok := hG.ok0
  subst hok
  subst hσ
  have hcss := roLists_eq _ _ hr
  obtain ⟨us, k1, k2, k3⟩ := built (P := P) (tt := tt) (a := a) (m := ⟨w, φ, σ', C.ok⟩) (fun p hp' => hH p.2 (by simp only [Op.operands, List.mem_map, List.mem_toArray, Array.mem_def]; exact ⟨p, hp', rfl⟩)) hp hl hsz' h1 h2
  have he : (execOp a.eval ⟨some t, .buildSlice tt len parts, ty, pos, after, gd⟩).run P w = .ok (.value (slv w.heap.size len len)) (w.alloc (.cells us e)) := by simp only [execOp, Sem.run_bind]; rw [k1]; rfl
  have hlen : 0 < sz := Nat.pos_of_mul_pos_left h1
  have hml : len ≤ maxLen := by have : len * 1 ≤ len * sz := Nat.mul_le_mul_left _ hlen; simp [maxLen]; omega
  unfold Oper.wp
  rw [he]
  simp only [Oper.upon]
  have hbl := below_one w (.cells us e)
  have hle : els.length = len := by rw [← hl, hcss, List.length_map]
  refine hK _ _ hbl ?_
  simp only [AV.rel, RV.rel]
  refine ⟨some ⟨w.heap.size, 0, none⟩, len, len, rfl, hle.symm, Nat.le_refl _, hml, fun _ => ⟨w.heap.size, 0, rfl, (Array.getElem?_eq_some_iff.1 (heap_alloc_new w _)).1, ok_args hG _ (Nat.le_refl _), ?_⟩⟩
  have hel : ∀ x ∈ els, x.length = sz := fun x hx => by
    have := hsz' (x.map .ro) (by rw [hcss]; exact List.mem_map.2 ⟨x, hx, rfl⟩)
    simpa using this
  refine RV.relE_of _ _ _ fun k e' hk => ⟨hel e' (List.mem_of_getElem? hk), RV.relAt_of _ _ fun j r hj => ?_⟩
  have hjl : j < sz := by have := (List.getElem?_eq_some_iff.1 hj).1; rwa [hel e' (List.mem_of_getElem? hk)] at this
  have hcat := flatten_at hsz' k j (e'.map .ro) (by rw [hcss, List.getElem?_map, hk]; rfl) hjl
  rw [List.getElem?_map, hj] at hcat
  obtain ⟨u, u1, u2, u3⟩ := k3 _ _ hcat
  simp only [AV.rel] at u3
  refine ⟨u, by rw [cell_of_row _ _ _ us _ _ (heap_alloc_new w _), Nat.zero_add]; exact u1, u2, RV.rel_mono ⟨hbl.size, fun b hb ho => ⟨ho, hbl.block b hb⟩⟩ r u u3⟩
/-- Cells, loaded, under another name. -/
theorem pu_loadN_eq {tt : TypeId} {x : Operand} {cs cs' : List RV} {n : Nat} [TN P tt n] (hx : ev env x = .ro (.rp cs)) (he : cs = cs') (hn : cs'.length = n) : Pur P C ⟨some t, .load tt x, ty, pos, after, gd⟩ env σ (.ro (.agg cs')) := by
  subst he
  exact pu_loadN_ro hx hn
/-- Data of plain values, as a value. -/
theorem agg_flat {m : Mem} : ∀ (vs : List Value) (us : List Value), RV.rels m.w m.ok (vs.map .c) us → us = vs
  | [], us, h => by simpa [RV.rels] using h
  | v :: vs, us, h => by
    simp only [List.map_cons, RV.rels] at h
    obtain ⟨u, us', rfl, h1, h2⟩ := h
    simp only [RV.rel] at h1
    rw [h1, agg_flat vs us' h2]
/-- An operation on two structs of plain values. -/
theorem pu_binA {op : BinOp} {xt yt : TypeId} {x y : Operand} {vx vy : List Value} {vz : Value} (hx : ev env x = .ro (.agg (vx.map .c))) (hy : ev env y = .ro (.agg (vy.map .c)))
    (hr : ∀ w, ((do eqGuard op xt x y (.agg vx.toArray) (.agg vy.toArray); binOp op xt (.agg vx.toArray) (.agg vy.toArray) : Sem Value)).run P w = .ok vz w) : Pur P C ⟨some t, .binOp op xt x y yt, ty, pos, after, gd⟩ env σ (.ro (.c vz)) :=
  Pur.of (fun a m hG hσ hH => by
    refine ⟨vz, ?_, by simp [AV.rel, RV.rel]⟩
    have key : ∀ {x : Operand} {vs : List Value}, AV.rel m (ev env x) (a.eval x) → ev env x = .ro (.agg (vs.map .c)) → a.eval x = .agg vs.toArray := by
      intro x vs h hx
      rw [hx] at h
      simp only [AV.rel, RV.rel] at h
      obtain ⟨us, e, h⟩ := h
      rw [e]
      have := agg_flat vs _ h
      rw [← this]
    have h := hr m.w
    simp only [Sem.run_bind] at h
    simp only [execOp, key (hH x (by simp [Op.operands])) hx, key (hH y (by simp [Op.operands])) hy, Sem.run_bind, Sem.run_pure]
    generalize Sem.run P (eqGuard op xt x y (.agg vx.toArray) (.agg vy.toArray)) m.w = r at h ⊢
    cases r with
    | ok a' w' => simp only [Result.andThen] at h ⊢; rw [h]
    | halt h' w' => simp [Result.andThen] at h)
end
end Go.Proofs.YtnbjncafoahclaaDoor
