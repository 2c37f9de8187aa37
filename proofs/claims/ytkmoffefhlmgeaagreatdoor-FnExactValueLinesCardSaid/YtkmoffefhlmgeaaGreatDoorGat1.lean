/- Gathered texts. -/
import Derived.Test.YtkmoffefhlmgeaaGreatDoorGat0
import Derived.Great.BuildSlice
import Derived.Test.YtkmoffefhlmgeaaGreatDoorChecked
import Derived.WalkSmall
import Derived.Lib.ItoaNum
import Derived.Shelf.LaysM
import Derived.Shelf.Strconv.Itoa3
import Derived.Test.YtkmoffefhlmgeaaGreatDoorProg
import Derived.Test.YtkmoffefhlmgeaaGreatDoorRows
import Derived.Stop.LaidErr
import Derived.Laws.StructEq
import Derived.Laws.IdiomStrings
import Derived.Laws.Slices
/- Loops over values, and tests that are decided. Over any program. -/
namespace Go.Proofs.YtkmoffefhlmgeaaGreatDoor
set_option linter.unusedSimpArgs false
set_option linter.unusedVariables false
set_option linter.unusedSectionVars false
set_option maxRecDepth 100000
open Go.RowKit
section
variable {P : Program} {C : Ctx} {ops : Array Oper} {rest : List Oper} {k : List Item} {R : Act → World → Prop} {env : Env} {σ : List Ob} {t : Nat} {ty : TypeId} {pos : String} {after : Array Edge}
section
variable {x y : Code} {φ : Prop} [Decidable φ]
theorem Runs.cond_yes (hc : look env t = .bool (decide φ)) (hφ : φ) (h : Runs P C (.code x :: k) R ⟨(t, .bool true) :: env, σ⟩) : Runs P C (.code (.cond (.tmp t) x y) :: k) R ⟨env, σ⟩ := Runs.cond_dec hc (fun _ => h) (fun h => absurd hφ h)
theorem Runs.cond_no (hc : look env t = .bool (decide φ)) (hφ : ¬ φ) (h : Runs P C (.code y :: k) R ⟨(t, .bool false) :: env, σ⟩) : Runs P C (.code (.cond (.tmp t) x y) :: k) R ⟨env, σ⟩ := Runs.cond_dec hc (fun h => absurd h hφ) (fun _ => h)
theorem Runs.cond_nyes (hc : look env t = .bool (!decide φ)) (hφ : ¬ φ) (h : Runs P C (.code x :: k) R ⟨(t, .bool true) :: env, σ⟩) : Runs P C (.code (.cond (.tmp t) x y) :: k) R ⟨env, σ⟩ := Runs.cond_ndec hc (fun _ => h) (fun h => absurd h hφ)
theorem Runs.cond_nno (hc : look env t = .bool (!decide φ)) (hφ : φ) (h : Runs P C (.code y :: k) R ⟨(t, .bool false) :: env, σ⟩) : Runs P C (.code (.cond (.tmp t) x y) :: k) R ⟨env, σ⟩ := Runs.cond_ndec hc (fun h => absurd hφ h) (fun _ => h)
end
theorem tl {C : Ctx} {t m : Nat} (hn : C.n = m) (h : Nat.ble (t + 1) m = true) : t < C.n := Nat.lt_of_lt_of_eq (Nat.le_of_ble_eq_true h) hn.symm
theorem RunsL.pe {o : Oper} {m : Nat} (hn : C.n = m) (hg : o.guard = none) (hd : o.dst = some t) (ht : Nat.ble (t + 1) m = true) (h : ∃ v, Pur P C o env σ v ∧ RunsL P C ops rest k R ⟨(t, v) :: env, σ⟩) : RunsL P C ops (o :: rest) k R ⟨env, σ⟩ := by
  obtain ⟨v, h, hk⟩ := h
  exact RunsL.pur h hg hd (tl hn ht) hk
theorem RunsD.pe {o : Oper} (hg : gsay ops env o.guard = some true) (hd : o.dst = some t) (h : ∃ v, Pur P C o env σ v ∧ RunsD P C ops rest k R ⟨(t, v) :: env, σ⟩) : RunsD P C ops (o :: rest) k R ⟨env, σ⟩ := by
  obtain ⟨v, h, hk⟩ := h
  exact RunsD.pur h hg hd hk
theorem Runs.loopN (m : Nat) {c : Code} {k' : List Item} (hc : Proofs.YtkmoffefhlmgeaaGreatDoor.ctls m k = .code (.loop c) :: k') (E : Nat → Env) (s : Nat → List Ob) (Q : Nat → Prop) (len : Nat) (j0 : Nat) (hj0 : j0 ≤ len) (h0 : Q j0) (henv : Sub (E j0) env) (hs : s j0 = σ)
    (round : ∀ j, j ≤ len → Q j → (∀ env' σ', Sub (E (j + 1)) env' → j < len → Q (j + 1) → s (j + 1) = σ' → Runs P C (.inLoop c :: k') R ⟨env', σ'⟩) → Runs P C (.code c :: .inLoop c :: k') R ⟨E j, s j⟩) :
    Runs P C k R ⟨env, σ⟩ := by
  refine Runs.ctls m hc ?_
  subst hs
  refine Runs.keep (E j0) henv ?_
  refine Runs.loop (fun n S => ∃ j, j + n = len ∧ Q j ∧ S = ⟨E j, s j⟩) (fun n S hI ih => ?_) (len - j0) ⟨j0, by omega, h0, rfl⟩
  obtain ⟨j, hj, hQ, rfl⟩ := hI
  refine round j (by omega) hQ fun env' σ' hsub hlt hQ' hσ => ?_
  subst hσ
  exact Runs.keep _ hsub (ih (n - 1) (by omega) _ ⟨j + 1, by omega, hQ', rfl⟩)
theorem Runs.loopI (m : Nat) {c : Code} {k' : List Item} (hc : Proofs.YtkmoffefhlmgeaaGreatDoor.ctls m k = .code (.loop c) :: k') (I : Nat → Env → List Ob → Prop) (n : Nat) (env0 : Env) (henv : Sub env0 env) (h0 : I n env0 σ)
    (round : ∀ n E s, I n E s → (∀ n' E' env' s', n' < n → I n' E' s' → Sub E' env' → Runs P C (.inLoop c :: k') R ⟨env', s'⟩) → Runs P C (.code c :: .inLoop c :: k') R ⟨E, s⟩) :
    Runs P C k R ⟨env, σ⟩ := by
  refine Runs.ctls m hc (Runs.keep env0 henv ?_)
  refine Runs.loop (fun n S => I n S.env S.σ) (fun n S hI ih => ?_) n h0
  obtain ⟨E, s⟩ := S
  exact round n E s hI fun n' E' env' s' hn hI' hsub => Runs.keep _ hsub (ih n' hn ⟨E', s'⟩ hI')
end
theorem ends_own {P : Program} {C : Ctx} {fn : Func} {R : RR → Prop} {S : St} {t i sz : Nat} {e : TypeId} {cs : List AV} {rs : List RV} (hm : ∀ b, ¬ C.mu b) (hr : fn.results = #[.tmp t]) (hx : look S.env t = .own i) (ho : S.σ[i]? = some ⟨e, sz, cs⟩) (hc : cs = rs.map .ro) (hR : R (.row e sz rs)) : ∀ a w, Sim C S a w → Ends P C fn R a w :=
  ends1 hm hr _ rfl (.row e sz rs) [i] (by simp only [Harv]; exact ⟨i, hx, by rw [ho, hc], rfl⟩) (by simp) hR
theorem rr_bool {a b : Bool} (h : a = b) : RR.ro (.bool a) = .ro (.bool b) := by rw [h]
theorem rr_int {a b : Int} (h : a = b) : RR.ro (.int a) = .ro (.int b) := by rw [h]
theorem rr_ro {a b : RV} (h : a = b) : RR.ro a = .ro b := by rw [h]
def intsR (l : List Int) : RV := .seq 1 (l.map fun z => [.int z])
def bytesR (l : List UInt8) : RV := .seq 1 (l.map fun z => [.u8 z])
def strsR (l : List ByteArray) : RV := .seq 1 (l.map fun z => [.str z])
theorem AC.calls {P : Program} {f : FuncId} {args : List RV} {R : RR → Prop} (h : AC P f args R) (w : World) (us : Array Value) (hu : RV.Rels w args us.toList) :
    Calls P f us w fun e w' => ∃ u rr bs, e = .returned u ∧ R rr ∧ RR.rel w' (fun b => b ∉ bs) rr u bs ∧ bs.Nodup ∧ (∀ b ∈ bs, w.heap.size ≤ b ∧ b < w'.heap.size) ∧ Below w.heap.size w w' :=
  (h w (fun _ => True) us (fun _ _ => trivial) hu).mono fun _ _ ⟨u, rr, bs, e, h1, h2, h3⟩ => ⟨u, rr, bs, e, h1, RR.rel_mono (fun _ hb => hb.2) _ _ _ h2, h3⟩
theorem AC.law {P : Program} {f : FuncId} {args : List RV} (h : ACv P f args (.bool true)) (w : World) (us : Array Value) (hu : RV.Rels w args us.toList) :
    Calls P f us w fun e w' => e = .returned (.bool true) ∧ Below w.heap.size w w' :=
  (h.calls w us hu).mono fun _ _ ⟨u, rr, bs, e, h1, h2, _, _, h5⟩ => by
    subst h1
    simp only [RR.rel, RV.rel] at h2
    rw [e, h2.1]
    exact ⟨rfl, h5⟩
end Go.Proofs.YtkmoffefhlmgeaaGreatDoor
/- What a function built becomes data at its end; rows of wide elements. Over any program. -/
namespace Go.Proofs.YtkmoffefhlmgeaaGreatDoor
set_option linter.unusedSimpArgs false
set_option linter.unusedVariables false
set_option linter.unusedSectionVars false
set_option maxRecDepth 100000
open Go.RowKit
open AV (Mem Keeps)
theorem AC.shut {P : Program} {f : FuncId} {args : List RV} {R : RR → Prop} {r : RV} (h : AC P f args R) (hs : ∀ rr, R rr → Seals rr r) : ACv P f args r :=
  fun w ok us h0 hu => (h w ok us h0 hu).mono fun _ _ ⟨u, rr, bs, e, h1, h2, h3, h4, h5⟩ => ⟨u, .ro r, [], e, rfl, by
    simp only [RR.rel]
    exact ⟨seals_rel (fun b hb => ⟨hb.1, by simp⟩) rr r u bs (hs rr h1) h2 (fun b hb => ⟨h0 b (h4 b hb).1, by simp⟩), trivial⟩, by simp, by simp, h5⟩
section
variable {P : Program} {C : Ctx} {fn : Func} {R : RR → Prop} {S : St} {a : Act} {w : World}
theorem ends_lend {x : ResultVar} {v : AV} {r : RV} (hm : ∀ b, ¬ C.mu b) (hr : fn.results = #[x]) (hx : ResV P S x v) (hR : R (.ro r)) (hl : Lends C S.σ v r) : ∀ a w, Sim C S a w → Ends P C fn R a w := by
  intro a w ⟨h1, h2, φ, hG, hH⟩
  obtain ⟨u, k1, k2⟩ := resV_run (P := P) hG hH x v hx
  have hrel := hl ⟨w, φ, S.σ, C.ok⟩ u C.ok hG rfl (fun b hb => hb.1) (fun i g hi hg => hG.frm.new g ((hG.mine i g hi hg).resolve_left (hm g))) k2
  exact ⟨h1, u, by rw [results_eq, hr]; simp [k1], .ro r, [], hR, by simp only [RR.rel]; exact ⟨RV.rel_mono ⟨Nat.le_refl _, fun b _ hb => ⟨⟨hb, by simp⟩, rfl⟩⟩ r u hrel, trivial⟩, by simp, by simp, hG.frm.below0 hm⟩
theorem ends_cellR {p ty n i off : Nat} {o : Ob} {rs : List RV} [ht : TN P ty n] (hm : ∀ b, ¬ C.mu b) (hr : fn.results = #[.cell p ty]) (h1 : look S.env p = .obj i off) (h2 : S.σ[i]? = some o) (h3 : off + n ≤ o.cs.length) (hR : R (.ro (.agg rs))) (hc : (o.cs.drop off).take n = rs.map .ro) : ∀ a w, Sim C S a w → Ends P C fn R a w :=
  ends_lend (v := .agg ((o.cs.drop off).take n)) hm hr (by simp only [ResV]; exact ⟨i, off, o, h1, h2, .inr ⟨n, ht, h3, rfl⟩⟩) hR (hc ▸ Lends.agg (LendsL.ros rs))
theorem ends_ownR {t i : Nat} {o : Ob} {els : List (List RV)} (hm : ∀ b, ¬ C.mu b) (hr : fn.results = #[.tmp t]) (hx : look S.env t = .own i) (ho : S.σ[i]? = some o) (hR : R (.ro (.seq o.sz els))) (hc : o.cs = els.flatten.map .ro) (hl : ∀ x ∈ els, x.length = o.sz) : ∀ a w, Sim C S a w → Ends P C fn R a w :=
  ends_lend (v := .own i) hm hr (by simp only [ResV]; exact hx.symm) hR (Lends.own ho hc hl)
end
theorem sets_app : ∀ (l P Z : List AV) (k : Nat), P.length = k → l.length ≤ Z.length → setsAt (P ++ Z) k l = P ++ l ++ Z.drop l.length
  | [], P, Z, k, _, _ => by simp [setsAt]
  | x :: xs, P, [], k, _, h => by simp at h
  | x :: xs, P, z :: Z, k, hk, h => by
    rw [setsAt, List.set_append_right _ _ (by omega), hk, Nat.sub_self, List.set_cons_zero, ← List.singleton_append, ← List.append_assoc, sets_app xs (P ++ [x]) Z (k + 1) (by simp [hk]) (by simpa using h)]
    simp
section
variable {α : Type} (f : α → List RV) (zc : List RV) (sz : Nat)
def filled (l : List α) (j : Nat) : List RV := ((l.take j).map f).flatten ++ (List.replicate (l.length - j) zc).flatten
theorem filled_zero (l : List α) : filled f zc l 0 = (List.replicate l.length zc).flatten := by simp [filled]
theorem filled_full (l : List α) : filled f zc l l.length = (l.map f).flatten := by simp [filled]
variable {f zc sz}
theorem map_flatten_len (hf : ∀ x, (f x).length = sz) : ∀ l : List α, (l.map f).flatten.length = l.length * sz
  | [] => by simp
  | x :: xs => by rw [List.map_cons, List.flatten_cons, List.length_append, hf, map_flatten_len hf xs, List.length_cons, Nat.succ_mul, Nat.add_comm]
theorem rep_flatten_len {α : Type} (l : List α) : ∀ n : Nat, (List.replicate n l).flatten.length = n * l.length
  | 0 => by simp
  | n + 1 => by rw [List.replicate_succ, List.flatten_cons, List.length_append, rep_flatten_len l n, Nat.succ_mul, Nat.add_comm]
theorem filled_len (hf : ∀ x, (f x).length = sz) (hz : zc.length = sz) (l : List α) (j : Nat) (hj : j ≤ l.length) : (filled f zc l j).length = l.length * sz := by
  rw [filled, List.length_append, map_flatten_len hf, rep_flatten_len, hz, List.length_take, Nat.min_eq_left hj, ← Nat.add_mul, Nat.add_sub_cancel' hj]
theorem filled_set (hf : ∀ x, (f x).length = sz) (hz : zc.length = sz) (l : List α) (j : Nat) (x : α) (hx : l[j]? = some x) :
    setsAt ((filled f zc l j).map .ro) (j * sz) ((f x).map .ro) = (filled f zc l (j + 1)).map .ro := by
  obtain ⟨hj, rfl⟩ := List.getElem?_eq_some_iff.1 hx
  have e : l.length - j = (l.length - (j + 1)) + 1 := by omega
  rw [filled, List.map_append, sets_app _ _ _ _ (by simp only [List.length_map]; rw [map_flatten_len hf, List.length_take, Nat.min_eq_left (by omega)]) (by simp only [List.length_map, rep_flatten_len, hf, hz, e]; rw [Nat.succ_mul]; omega)]
  have e2 : List.drop (List.map AV.ro (f l[j])).length (List.map AV.ro (List.replicate (l.length - j) zc).flatten) = List.map AV.ro (List.replicate (l.length - (j + 1)) zc).flatten := by
    rw [e, List.replicate_succ, List.flatten_cons, List.map_append, List.drop_left' (by rw [List.length_map, List.length_map, hf, hz])]
  rw [e2, filled, List.take_succ_eq_append_getElem hj]
  simp only [List.map_append, List.map_cons, List.map_nil, List.flatten_append, List.flatten_cons, List.flatten_nil, List.append_nil, List.append_assoc]
end
theorem rep_at {α : Type} (l : List α) (h0 : 0 < l.length) : ∀ (n i : Nat), i < n * l.length → (List.replicate n l).flatten[i]? = l[i % l.length]?
  | 0, i, h => by simp at h
  | n + 1, i, h => by
    rw [List.replicate_succ, List.flatten_cons]
    rcases Nat.lt_or_ge i l.length with hlt | hge
    · rw [List.getElem?_append_left hlt, Nat.mod_eq_of_lt hlt]
    · rw [List.getElem?_append_right hge, rep_at l h0 n (i - l.length) (by rw [Nat.succ_mul] at h; omega), Nat.mod_eq_sub_mod hge]
theorem made_N (zs : List Value) (n : Nat) (h0 : 0 < zs.length) : (madeCells zs.toArray (n * zs.length)).toList = (List.replicate n zs).flatten := by
  refine List.ext_getElem? fun i => ?_
  rcases Nat.lt_or_ge i (n * zs.length) with h | h
  · rw [rep_at zs h0 n i h]
    have hm : i % zs.length < zs.length := Nat.mod_lt _ h0
    rw [madeCells, Array.getElem?_toList, Array.getElem?_map, Array.getElem?_range, if_pos h]
    simp only [Option.map_some, List.size_toArray]
    rw [List.getElem?_eq_getElem hm, getElem!_pos _ _ (by simpa using hm)]
    simp
  · rw [List.getElem?_eq_none (by simpa [size_madeCells] using h), List.getElem?_eq_none (by rw [rep_flatten_len]; exact h)]
section
variable {P : Program} {C : Ctx} {ops : Array Oper} {rest : List Oper} {k : List Item} {R : Act → World → Prop} {env : Env} {σ : List Ob} {t : Nat} {ty : TypeId} {pos : String} {after : Array Edge} {gd : Option (Nat × Bool)}
theorem op_makeN {tt e : TypeId} {z : Value} {sz bytes n : Nat} {zs : List Value} {x y : Operand} {kd kd' : IntKind} [hs : SL P tt e z sz bytes] (hx : ev env x = .ro (.c (.int kd (n : Int)))) (hy : ev env y = .ro (.c (.int kd' (n : Int)))) (hz : z.cells = zs.toArray) (hzl : zs.length = sz) (hz0' : 0 < sz) (hz1 : zs.all Value.oneCell' = true)
    (b2 : bytes * n ≤ 281474976710656) (b3 : n ≤ maxLen) (ht : t < C.n) (hk : RunsL P C ops rest k R ⟨(t, .own σ.length) :: env, σ ++ [⟨e, sz, ((List.replicate n (zs.map RV.c)).flatten).map .ro⟩]⟩) :
    RunsL P C ops (⟨some t, .makeSlice tt x y, ty, pos, after, none⟩ :: rest) k R ⟨env, σ⟩ :=
  RunsL.val rfl rfl ht (fun a w φ hG hH => by
    obtain ⟨i, hi, hz0, hsz, hb⟩ := hs.el.hi
    have hbb : (i.bytes : Int) * (n : Int) ≤ 281474976710656 := by
      rw [hb]
      have h : ((bytes * n : Nat) : Int) ≤ 281474976710656 := by omega
      rwa [Int.natCast_mul] at h
    have hr := run_make (P := P) w tt e i z hs.el.ht hi hz0 kd kd' n n (by omega) (Int.le_refl _) hbb (by simp [maxLen] at b3; omega)
    simp only [Int.toNat_natCast, hsz] at hr
    subst hzl
    have hm : (madeCells z.cells (n * zs.length)).toList = (List.replicate n zs).flatten := by rw [hz]; exact made_N zs n hz0'
    have hlen : ((List.replicate n (zs.map RV.c)).flatten).length = n * zs.length := by rw [rep_flatten_len, List.length_map]
    have hg := good_alloc hG (madeCells z.cells (n * zs.length)) e zs.length (((List.replicate n (zs.map RV.c)).flatten).map .ro) (Nat.le_of_eq (by rw [List.length_map, hlen, size_madeCells])) (fun j v hj => by
      rw [List.getElem?_map, Option.map_eq_some_iff] at hj
      obtain ⟨r, hr', rfl⟩ := hj
      have hjn : j < n * zs.length := by have := (List.getElem?_eq_some_iff.1 hr').1; omega
      rw [rep_at _ (by simpa using hz0') n j (by simpa using hjn), List.getElem?_map, Option.map_eq_some_iff, List.length_map] at hr'
      obtain ⟨c, hc, rfl⟩ := hr'
      refine ⟨c, ?_, List.all_eq_true.1 hz1 c (List.mem_of_getElem? hc), by simp [AV.rel, RV.rel]⟩
      rw [← Array.getElem?_toList, hm, rep_at _ hz0' n j hjn, hc])
    refine ⟨slv w.heap.size n n, _, _, by simp only [execOp, ev_c (ev_rel hH x) hx, ev_c (ev_rel hH y) hy, Sem.run_bind, hr, Result.andThen]; rfl, hg.1, hg.2, ?_⟩
    simp only [AV.rel]
    exact ⟨⟨e, zs.length, ((List.replicate n (zs.map RV.c)).flatten).map .ro⟩, n, by rw [List.getElem?_append_right (Nat.le_refl _), Nat.sub_self]; rfl, by show List.length (List.map _ _) = _; rw [List.length_map, hlen], hz0', .inr ⟨w.heap.size, n, _, upd_eq, rfl, heap_alloc_new w _, Nat.le_refl _, b3, size_madeCells _ _⟩⟩) hk
theorem Runs.shed {E' : Env} {s' more : List Ob} (hsub : Sub E' env) (hσ : σ = s' ++ more) (hf : Free s'.length E') (ho : FreeO s'.length s') (h : Runs P C k R ⟨E', s'⟩) : Runs P C k R ⟨env, σ⟩ := by
  subst hσ
  exact Runs.keep E' hsub (Runs.drop hf ho h)
theorem Runs.loopD {more0 : List Ob} (m : Nat) {c : Code} {k' : List Item} (hc : Proofs.YtkmoffefhlmgeaaGreatDoor.ctls m k = .code (.loop c) :: k') (E : Nat → Env) (s : Nat → List Ob) (hf : ∀ j, Free (s j).length (E j) ∧ FreeO (s j).length (s j)) (Q : Nat → Prop) (len : Nat) (j0 : Nat) (hj0 : j0 ≤ len) (h0 : Q j0) (henv : Sub (E j0) env) (hs : s j0 ++ more0 = σ)
    (round : ∀ j, j ≤ len → Q j → (∀ env' σ' more, Sub (E (j + 1)) env' → j < len → Q (j + 1) → s (j + 1) ++ more = σ' → Runs P C (.inLoop c :: k') R ⟨env', σ'⟩) → Runs P C (.code c :: .inLoop c :: k') R ⟨E j, s j⟩) :
    Runs P C k R ⟨env, σ⟩ := by
  refine Runs.ctls m hc ?_
  refine Runs.shed henv hs.symm (hf j0).1 (hf j0).2 ?_
  refine Runs.loop (fun n S => ∃ j, j + n = len ∧ Q j ∧ S = ⟨E j, s j⟩) (fun n S hI ih => ?_) (len - j0) ⟨j0, by omega, h0, rfl⟩
  obtain ⟨j, hj, hQ, rfl⟩ := hI
  refine round j (by omega) hQ fun env' σ' more hsub hlt hQ' hσ => ?_
  exact Runs.shed hsub hσ.symm (hf _).1 (hf _).2 (ih (n - 1) (by omega) _ ⟨j + 1, by omega, hQ', rfl⟩)
def partCells (env : Env) : Nat → List (Nat × Operand) → Option (List (List AV))
  | _, [] => some []
  | n, p :: l => match Nat.beq p.1 n with
    | true => match cells? (ev env p.2) with
      | some c => match partCells env (n + 1) l with
        | some cs => some (c :: cs)
        | none => none
      | none => none
    | false => none
theorem partCells_ok {m : Mem} {a : Act} : ∀ (l : List (Nat × Operand)) (n : Nat) (css : List (List AV)), (∀ p ∈ l, AV.rel m (ev env p.2) (a.eval p.2)) → partCells env n l = some css →
    (l.map fun p => (p.1, a.eval p.2)) = ((l.map fun p => a.eval p.2).zipIdx n).map (fun x => (x.2, x.1)) ∧ css.length = l.length ∧
    ∀ (i : Nat) p c, l[i]? = some p → css[i]? = some c → (a.eval p.2).cells.size = c.length ∧ ∀ (j : Nat) x, c[j]? = some x → ∃ y, (a.eval p.2).cells[j]? = some y ∧ y.oneCell' = true ∧ AV.rel m x y
  | [], n, css, _, h => by simp only [partCells, Option.some.injEq] at h; subst h; simp
  | p :: l, n, css, hH, h => by
    unfold partCells at h
    split at h
    · rename_i hb
      split at h
      · rename_i c hc
        split at h
        · rename_i cs hcs
          injection h with h; subst h
          obtain ⟨h1, h2, h3⟩ := partCells_ok l (n + 1) cs (fun p hp => hH p (by simp [hp])) hcs
          have hn : p.1 = n := Nat.eq_of_beq_eq_true hb
          refine ⟨by simp only [List.map_cons, List.zipIdx_cons, h1, hn], by simp [h2], fun i q d e1 e2 => ?_⟩
          cases i with
          | zero => simp at e1 e2; subst e1; subst e2; exact cells_rel (hH p (by simp)) hc
          | succ i => exact h3 i q d (by simpa using e1) (by simpa using e2)
        · cases h
      · cases h
    · cases h
theorem flatMap_at {α β : Type} {sz : Nat} (f : α → List β) : ∀ (l : List α), (∀ x ∈ l, (f x).length = sz) → ∀ (i j : Nat) x, l[i]? = some x → j < sz → (l.flatMap f)[i * sz + j]? = (f x)[j]?
  | [], _, i, j, x, h, _ => by simp at h
  | y :: l, hl, i, j, x, h, hj => by
    have hy := hl y (by simp)
    rw [List.flatMap_cons]
    cases i with
    | zero => simp at h; subst h; rw [Nat.zero_mul, Nat.zero_add, List.getElem?_append_left (by omega)]
    | succ i =>
      rw [List.getElem?_append_right (by rw [Nat.succ_mul]; omega), hy, show (i + 1) * sz + j - sz = i * sz + j by rw [Nat.succ_mul]; omega]
      exact flatMap_at f l (fun x hx => hl x (by simp [hx])) i j x (by simpa using h) hj
theorem built {tt e : TypeId} {z : Value} {sz bytes len : Nat} {parts : Array (Nat × Operand)} {css : List (List AV)} [hs : SL P tt e z sz bytes] {m : Mem} {a : Act} (hH : ∀ p ∈ parts.toList, AV.rel m (ev env p.2) (a.eval p.2)) (hp : partCells env 0 parts.toList = some css)
    (hl : css.length = len) (hsz : ∀ c ∈ css, c.length = sz) (hpos : 0 < len * sz) (hsm : len * sz ≤ 16777216) :
    ∃ us : Array Value, (Instr.buildSlice tt len (parts.map fun p => (p.1, a.eval p.2))).run P m.w = .ok (slv m.w.heap.size len len) (m.w.alloc (.cells us e)) ∧ us.size = len * sz ∧
      ∀ (j : Nat) v, css.flatten[j]? = some v → ∃ u, us[j]? = some u ∧ u.oneCell' = true ∧ AV.rel m v u := by
  obtain ⟨h1, h2, h3⟩ := partCells_ok parts.toList 0 css hH hp
  obtain ⟨i, hi, hz0, hsz', hb⟩ := hs.el.hi
  have hs0 : 0 < sz := Nat.pos_of_mul_pos_left hpos
  let vs := parts.toList.map fun p => a.eval p.2
  have hvl : vs.length = len := by simp [vs, ← hl, h2]
  have hvat : ∀ (i : Nat) v, vs[i]? = some v → ∃ p c, parts.toList[i]? = some p ∧ css[i]? = some c ∧ v = a.eval p.2 := fun i v hv => by
    simp only [vs, List.getElem?_map, Option.map_eq_some_iff] at hv
    obtain ⟨p, hp', rfl⟩ := hv
    have hil : i < css.length := by rw [h2]; exact (List.getElem?_eq_some_iff.1 hp').1
    exact ⟨p, css[i], hp', List.getElem?_eq_getElem hil, rfl⟩
  have hcs : ∀ v ∈ vs, v.cells.size = sz := fun v hv => by
    obtain ⟨i, hi', rfl⟩ := List.getElem_of_mem hv
    obtain ⟨p, c, e1, e2, e3⟩ := hvat i _ (List.getElem?_eq_getElem hi')
    rw [e3, (h3 i p c e1 e2).1]
    exact hsz c (List.mem_of_getElem? e2)
  refine ⟨(vs.flatMap fun v => v.cells.toList).toArray, ?_, ?_, fun j v hj => ?_⟩
  · refine run_buildSlice m.w tt e len _ _ i z hs.el.ht hi hz0 (by rw [hsz']; omega) (by rw [hsz']; omega) ?_
    rw [Array.toList_map, h1, hsz']
    exact Great.fill_whole hs0 vs _ hcs (by simp [hvl])
  · rw [List.size_toArray, List.length_flatMap]
    have : ∀ l : List Value, (∀ v ∈ l, v.cells.size = sz) → (l.map fun v => v.cells.toList.length).sum = l.length * sz := by
      intro l hl'
      induction l with
      | nil => simp
      | cons v l ih => rw [List.map_cons, List.sum_cons, ih (fun v hv => hl' v (by simp [hv])), Array.length_toList, hl' v (by simp), List.length_cons, Nat.succ_mul, Nat.add_comm]
    rw [this vs hcs, hvl]
  · have hjl : j < css.length * sz := by rw [← flatten_len hsz]; exact (List.getElem?_eq_some_iff.1 hj).1
    have hq : j / sz < css.length := Nat.div_lt_of_lt_mul (by rwa [Nat.mul_comm])
    have hr : j % sz < sz := Nat.mod_lt _ hs0
    have hjj : j = (j / sz) * sz + j % sz := by rw [Nat.mul_comm]; exact (Nat.div_add_mod j sz).symm
    have hvq : j / sz < vs.length := by rw [hvl, ← hl]; exact hq
    obtain ⟨p, c, e1, e2, e3⟩ := hvat (j / sz) _ (List.getElem?_eq_getElem hvq)
    obtain ⟨k1, k2⟩ := h3 _ p c e1 e2
    have hcv : c[j % sz]? = some v := by
      have := flatMap_at (fun x : List AV => x) css hsz (j / sz) (j % sz) c e2 hr
      rw [← this, ← hjj, ← hj]; simp [List.flatMap]
    obtain ⟨y, y1, y2, y3⟩ := k2 _ v hcv
    refine ⟨y, ?_, y2, y3⟩
    rw [List.getElem?_toArray, hjj, flatMap_at (fun v : Value => v.cells.toList) vs (by simpa using hcs) (j / sz) (j % sz) _ (List.getElem?_eq_getElem hvq) hr, e3, Array.getElem?_toList, y1]
def roList : List AV → Option (List RV)
  | [] => some []
  | .ro r :: l => match roList l with
    | some rs => some (r :: rs)
    | none => none
  | _ :: _ => none
theorem roList_eq : ∀ (l : List AV) (rs : List RV), roList l = some rs → l = rs.map .ro
  | [], rs, h => by simp only [roList, Option.some.injEq] at h; subst h; rfl
  | .ro r :: l, rs, h => by
    unfold roList at h
    split at h
    · rename_i rs' h'
      injection h with h; subst h
      rw [roList_eq l rs' h']; rfl
    · cases h
  | .obj _ _ :: l, rs, h => by cases h
  | .own _ :: l, rs, h => by cases h
  | .agg _ :: l, rs, h => by cases h
  | .tup _ :: l, rs, h => by cases h
  | .fn _ _ _ :: l, rs, h => by cases h
  | .junk :: l, rs, h => by cases h
def roLists : List (List AV) → Option (List (List RV))
  | [] => some []
  | l :: ls => match roList l with
    | some r => match roLists ls with
      | some rs => some (r :: rs)
      | none => none
    | none => none
theorem roLists_eq : ∀ (l : List (List AV)) (rs : List (List RV)), roLists l = some rs → l = rs.map (·.map .ro)
  | [], rs, h => by simp only [roLists, Option.some.injEq] at h; subst h; rfl
  | l :: ls, rs, h => by
    unfold roLists at h
    split at h
    · rename_i r hr
      split at h
      · rename_i rs' h'
        injection h with h; subst h
        rw [roList_eq l r hr, roLists_eq ls rs' h']; rfl
      · cases h
    · cases h
theorem pu_build {tt e : TypeId} {z : Value} {sz bytes len : Nat} {parts : Array (Nat × Operand)} {css : List (List AV)} {els : List (List RV)} [hs : SL P tt e z sz bytes] (hp : partCells env 0 parts.toList = some css) (hr : roLists css = some els)
    (hl : css.length = len) (hsz : (css.all fun c => Nat.beq c.length sz) = true) (hpos : Nat.ble 1 (len * sz) = true) (hsm : Nat.ble (len * sz) 16777216 = true) :
    Pur P C ⟨some t, .buildSlice tt len parts, ty, pos, after, gd⟩ env σ (.ro (.seq sz els)) := by
  refine ⟨fun a m hG hσ hH K Q hK => ?_⟩
  have hsz' : ∀ c ∈ css, c.length = sz := fun c hc => Nat.eq_of_beq_eq_true (List.all_eq_true.1 hsz c hc)
  have h1 := Nat.le_of_ble_eq_true hpos
  have h2 := Nat.le_of_ble_eq_true hsm
  obtain ⟨w, φ, σ', ok⟩ := m
  have hok : ok = C.ok := hG.ok0
  subst hok
  subst hσ
  have hcss := roLists_eq _ _ hr
  obtain ⟨us, k1, k2, k3⟩ := built (P := P) (tt := tt) (a := a) (m := ⟨w, φ, σ', C.ok⟩) (fun p hp' => hH p.2 (by simp only [Op.operands, List.mem_map, List.mem_toArray, Array.mem_def]; exact ⟨p, hp', rfl⟩)) hp hl hsz' h1 h2
  have he : (execOp a.eval ⟨some t, .buildSlice tt len parts, ty, pos, after, gd⟩).run P w = .ok (.value (slv w.heap.size len len)) (w.alloc (.cells us e)) := by simp only [execOp, Sem.run_bind]; rw [k1]; rfl
  have hlen : 0 < sz := Nat.pos_of_mul_pos_left h1
  have hml : len ≤ maxLen := by have : len * 1 ≤ len * sz := Nat.mul_le_mul_left _ hlen; simp [maxLen]; omega
  unfold Oper.wp
  rw [he]
  simp only [Oper.upon]
  have hbl := below_one w (.cells us e)
  have hle : els.length = len := by rw [← hl, hcss, List.length_map]
  refine hK _ _ hbl ?_
  simp only [AV.rel, RV.rel]
  refine ⟨some ⟨w.heap.size, 0, none⟩, len, len, rfl, hle.symm, Nat.le_refl _, hml, fun _ => ⟨w.heap.size, 0, rfl, (Array.getElem?_eq_some_iff.1 (heap_alloc_new w _)).1, ok_args hG _ (Nat.le_refl _), ?_⟩⟩
  have hel : ∀ x ∈ els, x.length = sz := fun x hx => by
    have := hsz' (x.map .ro) (by rw [hcss]; exact List.mem_map.2 ⟨x, hx, rfl⟩)
    simpa using this
  refine RV.relE_of _ _ _ fun k e' hk => ⟨hel e' (List.mem_of_getElem? hk), RV.relAt_of _ _ fun j r hj => ?_⟩
  have hjl : j < sz := by have := (List.getElem?_eq_some_iff.1 hj).1; rwa [hel e' (List.mem_of_getElem? hk)] at this
  have hcat := flatten_at hsz' k j (e'.map .ro) (by rw [hcss, List.getElem?_map, hk]; rfl) hjl
  rw [List.getElem?_map, hj] at hcat
  obtain ⟨u, u1, u2, u3⟩ := k3 _ _ hcat
  simp only [AV.rel] at u3
  refine ⟨u, by rw [cell_of_row _ _ _ us _ _ (heap_alloc_new w _), Nat.zero_add]; exact u1, u2, RV.rel_mono ⟨hbl.size, fun b hb ho => ⟨ho, hbl.block b hb⟩⟩ r u u3⟩
theorem pu_loadN_eq {tt : TypeId} {x : Operand} {cs cs' : List RV} {n : Nat} [TN P tt n] (hx : ev env x = .ro (.rp cs)) (he : cs = cs') (hn : cs'.length = n) : Pur P C ⟨some t, .load tt x, ty, pos, after, gd⟩ env σ (.ro (.agg cs')) := by
  subst he
  exact pu_loadN_ro hx hn
theorem agg_flat {m : Mem} : ∀ (vs : List Value) (us : List Value), RV.rels m.w m.ok (vs.map .c) us → us = vs
  | [], us, h => by simpa [RV.rels] using h
  | v :: vs, us, h => by
    simp only [List.map_cons, RV.rels] at h
    obtain ⟨u, us', rfl, h1, h2⟩ := h
    simp only [RV.rel] at h1
    rw [h1, agg_flat vs us' h2]
end
end Go.Proofs.YtkmoffefhlmgeaaGreatDoor
/- The arguments of a law, opened to data; data of plain types, by its parts. Over any program. -/
namespace Go.Proofs.YtkmoffefhlmgeaaGreatDoor
set_option linter.unusedSimpArgs false
set_option linter.unusedVariables false
set_option linter.unusedSectionVars false
set_option maxRecDepth 100000
open Go.RowKit Go.ChangeShapes Go.WideShapes
section
variable {H : Type} {enc : TypeId × Value → H} {P : Program} {w : World} {base : Nat} {spare : Nat → Bool} {held : Bool} {T : List Nat} {r : Reach} {b0 : Nat} {t e : TypeId} {v : Value} {d : DataW H} {p : List MemPlace}
theorem open_cell (hT : (T.all (typB P T)) = true) (ht : nmem T t = true) (hc : v.cells.toList = [v]) (h : DataW.Trod enc P w base spare held t v d p) : ∃ r, TyC P t [r] ∧ RV.Rels w [r] [v] := by
  obtain ⟨rcs', h1, h2, _⟩ := open_arg hT ht h
  rw [hc] at h2
  match rcs', h2 with
  | [], h2 => simp [RV.Rels, RV.rels] at h2
  | [r], h2 => exact ⟨r, h1, h2⟩
  | _ :: _ :: _, h2 => simp [RV.Rels, RV.rels] at h2; obtain ⟨_, _, ⟨_, rfl⟩, _, _, _, h, _⟩ := h2; cases h
theorem open_agg {fs : Array Field} (hT : (T.all (typB P T)) = true) (ht : nmem T t = true) (hu : P.underlying t = some (.struct fs)) (hv : Value.okWide P w r b0 t v) (h : DataW.Trod enc P w base spare held t v d p) : ∃ rcs, TyC P t rcs ∧ RV.Rels w [.agg rcs] [v] := by
  obtain ⟨cs, rfl, _⟩ := okWide_struct hu hv
  obtain ⟨rcs, h1, h2, _⟩ := open_arg hT ht h
  exact ⟨rcs, h1, by simp only [RV.Rels, RV.rels]; exact ⟨_, [], rfl, by simp only [RV.rel]; exact ⟨cs, rfl, by simpa [Value.cells] using h2⟩, rfl⟩⟩
theorem open_int1 {k : IntKind} (hT : (T.all (typB P T)) = true) (ht : nmem T t = true) (hu : P.underlying t = some (.int k)) (hv : Value.okWide P w r b0 t v) (h : DataW.Trod enc P w base spare held t v d p) : ∃ n, RV.Rels w [.c (.int k n)] [v] ∧ (Lit.int k n).wf = true := by
  obtain ⟨n, rfl⟩ := okWide_int hu hv
  obtain ⟨r, h1, h2⟩ := open_cell hT ht (by rfl) h
  obtain ⟨m, e, hw⟩ := h1.inv_int hu
  injection e with e; subst e
  exact ⟨m, h2, hw⟩
end
section
variable {P : Program} {t e : TypeId} {rcs : List RV} {r : RV}
def TyCs (P : Program) : List TypeId → List (List RV) → Prop
  | [], cs => cs = []
  | t :: ts, cs => ∃ c cs', cs = c :: cs' ∧ TyC P t c ∧ TyCs P ts cs'
theorem TyCs.of : ∀ (fs : List Field) (cells : List (List RV)), cells.length = fs.length → (∀ (j : Nat) f c, fs[j]? = some f → cells[j]? = some c → TyC P f.type c) → TyCs P (fs.map (·.type)) cells
  | [], cells, hl, _ => by simpa [TyCs] using List.eq_nil_of_length_eq_zero hl
  | f :: fs, [], hl, _ => by simp at hl
  | f :: fs, c :: cs, hl, h => by
    simp only [List.map_cons, TyCs]
    exact ⟨c, cs, rfl, h 0 f c rfl rfl, TyCs.of fs cs (by simpa using hl) fun j f' c' e1 e2 => h (j + 1) f' c' (by simpa using e1) (by simpa using e2)⟩
theorem TyC.parts {fs : Array Field} (h : TyC P t rcs) (hu : P.underlying t = some (.struct fs)) : ∃ cells : List (List RV), rcs = cells.flatten ∧ TyCs P (fs.toList.map (·.type)) cells := by
  obtain ⟨cells, h1, h2, h3⟩ := h.inv_struct hu
  exact ⟨cells, h1, TyCs.of fs.toList cells (by simpa using h2) fun j f c e1 e2 => h3 j f c (by simpa using e1) e2⟩
theorem TyC.i64 (h : TyC P t rcs) (hu : P.underlying t = some (.int .i64)) : ∃ n, rcs = [.int n] ∧ I64 n := by
  obtain ⟨n, e, hw⟩ := h.inv_int hu
  exact ⟨n, e, bounds_i64 hw⟩
theorem TyC.byte (h : TyC P t rcs) (hu : P.underlying t = some (.int .u8)) : ∃ c : UInt8, rcs = [.u8 c] := by
  obtain ⟨n, e, hw⟩ := h.inv_int hu
  obtain ⟨c, rfl⟩ := u8_of_wf hw
  exact ⟨c, e⟩
theorem TyC.ints (h : TyC P t rcs) (hu : P.underlying t = some (.slice e)) (he : P.underlying e = some (.int .i64)) (hc : P.cellsOf e = 1) : ∃ l : List Int, rcs = [intsR l] ∧ l.length ≤ maxLen ∧ ∀ z ∈ l, I64 z := by
  obtain ⟨els, rfl, hl, hels⟩ := h.inv_slice hu
  obtain ⟨l, rfl, hq⟩ := els_of (f := fun z : Int => [RV.int z]) (Q := I64) fun el hel => (hels el hel).i64 he
  exact ⟨l, by rw [hc]; rfl, by simpa using hl, hq⟩
theorem TyC.bytes (h : TyC P t rcs) (hu : P.underlying t = some (.slice e)) (he : P.underlying e = some (.int .u8)) (hc : P.cellsOf e = 1) : ∃ l : List UInt8, rcs = [bytesR l] ∧ l.length ≤ maxLen := by
  obtain ⟨els, rfl, hl, hels⟩ := h.inv_slice hu
  obtain ⟨l, rfl, _⟩ := els_of (f := fun z : UInt8 => [RV.u8 z]) (Q := fun _ => True) fun el hel => (by obtain ⟨c, e⟩ := (hels el hel).byte he; exact ⟨c, e, trivial⟩)
  exact ⟨l, by rw [hc]; rfl, by simpa using hl⟩
theorem TyC.strs (h : TyC P t rcs) (hu : P.underlying t = some (.slice e)) (he : P.underlying e = some .string) (hc : P.cellsOf e = 1) : ∃ l : List ByteArray, rcs = [strsR l] ∧ l.length ≤ maxLen ∧ ∀ s ∈ l, s.size ≤ maxLen := by
  obtain ⟨els, rfl, hl, hels⟩ := h.inv_slice hu
  obtain ⟨l, rfl, hq⟩ := els_of (f := fun s : ByteArray => [RV.str s]) (Q := fun s => s.size ≤ maxLen) fun el hel => (hels el hel).inv_str he
  exact ⟨l, by rw [hc]; rfl, by simpa using hl, hq⟩
end
theorem cons_rels {w : World} {r : RV} {rs : List RV} {u : Value} {us : List Value} (h : RV.Rels w [r] [u]) (hs : RV.Rels w rs us) : RV.Rels w (r :: rs) (u :: us) := by
  simp only [RV.Rels, RV.rels] at h hs ⊢
  obtain ⟨u', us', e, h1, rfl⟩ := h
  injection e with e1 e2; subst e1
  exact ⟨u, us, rfl, h1, hs⟩
theorem nil_rels {w : World} : RV.Rels w [] [] := by simp [RV.Rels, RV.rels]
end Go.Proofs.YtkmoffefhlmgeaaGreatDoor
/- What the tables of this program say, as instances. Printed by a program (tab.py). -/
namespace Go.Proofs.YtkmoffefhlmgeaaGreatDoor
set_option maxRecDepth 100000
instance : T1 Tryz.prog 2 := ⟨by kernel_rfl⟩
instance : TI Tryz.prog 2 .i64 := ⟨Tryz.underlying2⟩
instance : TZ Tryz.prog 2 [(.int .i64 0)] := ⟨_, _, rfl, rfl, rfl, by decide⟩
instance : T1 Tryz.prog 3 := ⟨by kernel_rfl⟩
instance : TI Tryz.prog 3 .i64 := ⟨Tryz.underlying3⟩
instance : TZ Tryz.prog 3 [(.int .i64 0)] := ⟨_, _, rfl, rfl, rfl, by decide⟩
instance : T1 Tryz.prog 4 := ⟨by kernel_rfl⟩
instance : TZ Tryz.prog 4 [(.bool false)] := ⟨_, _, rfl, rfl, rfl, by decide⟩
instance : T1 Tryz.prog 5 := ⟨by kernel_rfl⟩
instance : TI Tryz.prog 5 .u8 := ⟨Tryz.underlying5⟩
instance : TZ Tryz.prog 5 [(.int .u8 0)] := ⟨_, _, rfl, rfl, rfl, by decide⟩
instance : T1 Tryz.prog 6 := ⟨by kernel_rfl⟩
instance : TI Tryz.prog 6 .u8 := ⟨Tryz.underlying6⟩
instance : TZ Tryz.prog 6 [(.int .u8 0)] := ⟨_, _, rfl, rfl, rfl, by decide⟩
instance : FA Tryz.prog 7 0 0 := ⟨by kernel_rfl⟩
instance : FA Tryz.prog 7 1 1 := ⟨by kernel_rfl⟩
instance : FA Tryz.prog 7 2 2 := ⟨by kernel_rfl⟩
instance : FA Tryz.prog 7 3 3 := ⟨by kernel_rfl⟩
instance : TN Tryz.prog 7 4 := ⟨by kernel_rfl⟩
instance : TZ Tryz.prog 7 [(.int .i64 0), (.int .i64 0), (.bool false), (.int .u8 0)] := ⟨_, _, rfl, rfl, rfl, by decide⟩
instance : FA Tryz.prog 8 0 0 := ⟨by kernel_rfl⟩
instance : FA Tryz.prog 8 1 1 := ⟨by kernel_rfl⟩
instance : FA Tryz.prog 8 2 2 := ⟨by kernel_rfl⟩
instance : FA Tryz.prog 8 3 3 := ⟨by kernel_rfl⟩
instance : TN Tryz.prog 8 4 := ⟨by kernel_rfl⟩
instance : TZ Tryz.prog 8 [(.int .i64 0), (.int .i64 0), (.bool false), (.int .u8 0)] := ⟨_, _, rfl, rfl, rfl, by decide⟩
instance : T1 Tryz.prog 9 := ⟨by kernel_rfl⟩
instance : TS Tryz.prog 9 := ⟨Tryz.underlying9⟩
instance : TZ Tryz.prog 9 [(.string ⟨#[]⟩)] := ⟨_, _, rfl, rfl, rfl, by decide⟩
instance : T1 Tryz.prog 10 := ⟨by kernel_rfl⟩
instance : TS Tryz.prog 10 := ⟨Tryz.underlying10⟩
instance : TZ Tryz.prog 10 [(.string ⟨#[]⟩)] := ⟨_, _, rfl, rfl, rfl, by decide⟩
instance : T1 Tryz.prog 11 := ⟨by kernel_rfl⟩
instance : TS Tryz.prog 11 := ⟨Tryz.underlying11⟩
instance : TZ Tryz.prog 11 [(.string ⟨#[]⟩)] := ⟨_, _, rfl, rfl, rfl, by decide⟩
instance : T1 Tryz.prog 12 := ⟨by kernel_rfl⟩
instance : TI Tryz.prog 12 .u64 := ⟨Tryz.underlying12⟩
instance : TZ Tryz.prog 12 [(.int .u64 0)] := ⟨_, _, rfl, rfl, rfl, by decide⟩
instance : FA Tryz.prog 13 0 0 := ⟨by kernel_rfl⟩
instance : FA Tryz.prog 13 1 1 := ⟨by kernel_rfl⟩
instance : TN Tryz.prog 13 2 := ⟨by kernel_rfl⟩
instance : TZ Tryz.prog 13 [(.string ⟨#[]⟩), (.int .u64 0)] := ⟨_, _, rfl, rfl, rfl, by decide⟩
instance : FA Tryz.prog 14 0 0 := ⟨by kernel_rfl⟩
instance : FA Tryz.prog 14 1 1 := ⟨by kernel_rfl⟩
instance : TN Tryz.prog 14 2 := ⟨by kernel_rfl⟩
instance : TZ Tryz.prog 14 [(.string ⟨#[]⟩), (.int .u64 0)] := ⟨_, _, rfl, rfl, rfl, by decide⟩
instance : T1 Tryz.prog 15 := ⟨by kernel_rfl⟩
instance : TZ Tryz.prog 15 [(.pointer none)] := ⟨_, _, rfl, rfl, rfl, by decide⟩
instance : T1 Tryz.prog 16 := ⟨by kernel_rfl⟩
instance : TZ Tryz.prog 16 [(.pointer none)] := ⟨_, _, rfl, rfl, rfl, by decide⟩
instance : T1 Tryz.prog 17 := ⟨by kernel_rfl⟩
instance : TZ Tryz.prog 17 [(.pointer none)] := ⟨_, _, rfl, rfl, rfl, by decide⟩
instance : FA Tryz.prog 18 0 0 := ⟨by kernel_rfl⟩
instance : TN Tryz.prog 18 1 := ⟨by kernel_rfl⟩
instance : TZ Tryz.prog 18 [(.pointer none)] := ⟨_, _, rfl, rfl, rfl, by decide⟩
instance : FA Tryz.prog 19 0 0 := ⟨by kernel_rfl⟩
instance : TN Tryz.prog 19 1 := ⟨by kernel_rfl⟩
instance : TZ Tryz.prog 19 [(.pointer none)] := ⟨_, _, rfl, rfl, rfl, by decide⟩
instance : T1 Tryz.prog 21 := ⟨by kernel_rfl⟩
instance : TI Tryz.prog 21 .i32 := ⟨Tryz.underlying21⟩
instance : TZ Tryz.prog 21 [(.int .i32 0)] := ⟨_, _, rfl, rfl, rfl, by decide⟩
instance : T1 Tryz.prog 22 := ⟨by kernel_rfl⟩
instance : TZ Tryz.prog 22 [(.slice none 0 0)] := ⟨_, _, rfl, rfl, rfl, by decide⟩
instance : SL Tryz.prog 22 68 (.agg #[(.string ⟨#[]⟩), (.int .i64 0), (.int .i64 0), (.bool false), (.slice none 0 0), (.slice none 0 0), (.slice none 0 0), (.slice none 0 0)]) 8 136 := ⟨Elem.mk' Tryz.underlying22 (by kernel_rfl) rfl (by decide)⟩
instance : FA Tryz.prog 23 0 0 := ⟨by kernel_rfl⟩
instance : TN Tryz.prog 23 1 := ⟨by kernel_rfl⟩
instance : TZ Tryz.prog 23 [(.slice none 0 0)] := ⟨_, _, rfl, rfl, rfl, by decide⟩
instance : FA Tryz.prog 24 0 0 := ⟨by kernel_rfl⟩
instance : TN Tryz.prog 24 1 := ⟨by kernel_rfl⟩
instance : TZ Tryz.prog 24 [(.slice none 0 0)] := ⟨_, _, rfl, rfl, rfl, by decide⟩
instance : T1 Tryz.prog 25 := ⟨by kernel_rfl⟩
instance : TZ Tryz.prog 25 [(.slice none 0 0)] := ⟨_, _, rfl, rfl, rfl, by decide⟩
instance : SL Tryz.prog 25 5 ((.int .u8 0)) 1 1 := ⟨Elem.mk' Tryz.underlying25 (by kernel_rfl) rfl (by decide)⟩
instance : T1 Tryz.prog 26 := ⟨by kernel_rfl⟩
instance : TZ Tryz.prog 26 [(.slice none 0 0)] := ⟨_, _, rfl, rfl, rfl, by decide⟩
instance : SL Tryz.prog 26 28 (.agg #[(.int .i64 0), (.slice none 0 0), (.slice none 0 0)]) 3 56 := ⟨Elem.mk' Tryz.underlying26 (by kernel_rfl) rfl (by decide)⟩
instance : FA Tryz.prog 27 0 0 := ⟨by kernel_rfl⟩
instance : FA Tryz.prog 27 1 1 := ⟨by kernel_rfl⟩
instance : FA Tryz.prog 27 2 2 := ⟨by kernel_rfl⟩
instance : TN Tryz.prog 27 3 := ⟨by kernel_rfl⟩
instance : TZ Tryz.prog 27 [(.int .i64 0), (.slice none 0 0), (.slice none 0 0)] := ⟨_, _, rfl, rfl, rfl, by decide⟩
instance : FA Tryz.prog 28 0 0 := ⟨by kernel_rfl⟩
instance : FA Tryz.prog 28 1 1 := ⟨by kernel_rfl⟩
instance : FA Tryz.prog 28 2 2 := ⟨by kernel_rfl⟩
instance : TN Tryz.prog 28 3 := ⟨by kernel_rfl⟩
instance : TZ Tryz.prog 28 [(.int .i64 0), (.slice none 0 0), (.slice none 0 0)] := ⟨_, _, rfl, rfl, rfl, by decide⟩
instance : T1 Tryz.prog 31 := ⟨by kernel_rfl⟩
instance : TZ Tryz.prog 31 [(.slice none 0 0)] := ⟨_, _, rfl, rfl, rfl, by decide⟩
instance : SL Tryz.prog 31 9 ((.string ⟨#[]⟩)) 1 16 := ⟨Elem.mk' Tryz.underlying31 (by kernel_rfl) rfl (by decide)⟩
instance : T1 Tryz.prog 33 := ⟨by kernel_rfl⟩
instance : TZ Tryz.prog 33 [(.slice none 0 0)] := ⟨_, _, rfl, rfl, rfl, by decide⟩
instance : SL Tryz.prog 33 54 (.agg #[(.string ⟨#[]⟩), (.int .i64 0), (.int .i64 0), (.bool false), (.slice none 0 0), (.slice none 0 0), (.slice none 0 0), (.slice none 0 0)]) 8 136 := ⟨Elem.mk' Tryz.underlying33 (by kernel_rfl) rfl (by decide)⟩
instance : FA Tryz.prog 34 0 0 := ⟨by kernel_rfl⟩
instance : TN Tryz.prog 34 1 := ⟨by kernel_rfl⟩
instance : TZ Tryz.prog 34 [(.slice none 0 0)] := ⟨_, _, rfl, rfl, rfl, by decide⟩
instance : FA Tryz.prog 35 0 0 := ⟨by kernel_rfl⟩
instance : TN Tryz.prog 35 1 := ⟨by kernel_rfl⟩
instance : TZ Tryz.prog 35 [(.slice none 0 0)] := ⟨_, _, rfl, rfl, rfl, by decide⟩
instance : T1 Tryz.prog 37 := ⟨by kernel_rfl⟩
instance : TZ Tryz.prog 37 [(.slice none 0 0)] := ⟨_, _, rfl, rfl, rfl, by decide⟩
instance : SL Tryz.prog 37 39 (.agg #[(.int .i64 0), (.slice none 0 0), (.slice none 0 0)]) 3 56 := ⟨Elem.mk' Tryz.underlying37 (by kernel_rfl) rfl (by decide)⟩
instance : FA Tryz.prog 38 0 0 := ⟨by kernel_rfl⟩
instance : FA Tryz.prog 38 1 1 := ⟨by kernel_rfl⟩
instance : FA Tryz.prog 38 2 2 := ⟨by kernel_rfl⟩
instance : TN Tryz.prog 38 3 := ⟨by kernel_rfl⟩
instance : TZ Tryz.prog 38 [(.int .i64 0), (.slice none 0 0), (.slice none 0 0)] := ⟨_, _, rfl, rfl, rfl, by decide⟩
instance : FA Tryz.prog 39 0 0 := ⟨by kernel_rfl⟩
instance : FA Tryz.prog 39 1 1 := ⟨by kernel_rfl⟩
instance : FA Tryz.prog 39 2 2 := ⟨by kernel_rfl⟩
instance : TN Tryz.prog 39 3 := ⟨by kernel_rfl⟩
instance : TZ Tryz.prog 39 [(.int .i64 0), (.slice none 0 0), (.slice none 0 0)] := ⟨_, _, rfl, rfl, rfl, by decide⟩
instance : T1 Tryz.prog 52 := ⟨by kernel_rfl⟩
instance : TZ Tryz.prog 52 [(.slice none 0 0)] := ⟨_, _, rfl, rfl, rfl, by decide⟩
instance : SL Tryz.prog 52 3 ((.int .i64 0)) 1 8 := ⟨Elem.mk' Tryz.underlying52 (by kernel_rfl) rfl (by decide)⟩
instance : FA Tryz.prog 53 0 0 := ⟨by kernel_rfl⟩
instance : FA Tryz.prog 53 1 1 := ⟨by kernel_rfl⟩
instance : FA Tryz.prog 53 2 2 := ⟨by kernel_rfl⟩
instance : FA Tryz.prog 53 3 3 := ⟨by kernel_rfl⟩
instance : FA Tryz.prog 53 4 4 := ⟨by kernel_rfl⟩
instance : FA Tryz.prog 53 5 5 := ⟨by kernel_rfl⟩
instance : FA Tryz.prog 53 6 6 := ⟨by kernel_rfl⟩
instance : FA Tryz.prog 53 7 7 := ⟨by kernel_rfl⟩
instance : TN Tryz.prog 53 8 := ⟨by kernel_rfl⟩
instance : TZ Tryz.prog 53 [(.string ⟨#[]⟩), (.int .i64 0), (.int .i64 0), (.bool false), (.slice none 0 0), (.slice none 0 0), (.slice none 0 0), (.slice none 0 0)] := ⟨_, _, rfl, rfl, rfl, by decide⟩
instance : FA Tryz.prog 54 0 0 := ⟨by kernel_rfl⟩
instance : FA Tryz.prog 54 1 1 := ⟨by kernel_rfl⟩
instance : FA Tryz.prog 54 2 2 := ⟨by kernel_rfl⟩
instance : FA Tryz.prog 54 3 3 := ⟨by kernel_rfl⟩
instance : FA Tryz.prog 54 4 4 := ⟨by kernel_rfl⟩
instance : FA Tryz.prog 54 5 5 := ⟨by kernel_rfl⟩
instance : FA Tryz.prog 54 6 6 := ⟨by kernel_rfl⟩
instance : FA Tryz.prog 54 7 7 := ⟨by kernel_rfl⟩
instance : TN Tryz.prog 54 8 := ⟨by kernel_rfl⟩
instance : TZ Tryz.prog 54 [(.string ⟨#[]⟩), (.int .i64 0), (.int .i64 0), (.bool false), (.slice none 0 0), (.slice none 0 0), (.slice none 0 0), (.slice none 0 0)] := ⟨_, _, rfl, rfl, rfl, by decide⟩
instance : T1 Tryz.prog 60 := ⟨by kernel_rfl⟩
instance : TZ Tryz.prog 60 [(.pointer none)] := ⟨_, _, rfl, rfl, rfl, by decide⟩
instance : FA Tryz.prog 68 0 0 := ⟨by kernel_rfl⟩
instance : FA Tryz.prog 68 1 1 := ⟨by kernel_rfl⟩
instance : FA Tryz.prog 68 2 2 := ⟨by kernel_rfl⟩
instance : FA Tryz.prog 68 3 3 := ⟨by kernel_rfl⟩
instance : FA Tryz.prog 68 4 4 := ⟨by kernel_rfl⟩
instance : FA Tryz.prog 68 5 5 := ⟨by kernel_rfl⟩
instance : FA Tryz.prog 68 6 6 := ⟨by kernel_rfl⟩
instance : FA Tryz.prog 68 7 7 := ⟨by kernel_rfl⟩
instance : TN Tryz.prog 68 8 := ⟨by kernel_rfl⟩
instance : TZ Tryz.prog 68 [(.string ⟨#[]⟩), (.int .i64 0), (.int .i64 0), (.bool false), (.slice none 0 0), (.slice none 0 0), (.slice none 0 0), (.slice none 0 0)] := ⟨_, _, rfl, rfl, rfl, by decide⟩
instance : FA Tryz.prog 82 0 0 := ⟨by kernel_rfl⟩
instance : TN Tryz.prog 82 1 := ⟨by kernel_rfl⟩
instance : TZ Tryz.prog 82 [(.slice none 0 0)] := ⟨_, _, rfl, rfl, rfl, by decide⟩
instance : FA Tryz.prog 83 0 0 := ⟨by kernel_rfl⟩
instance : TN Tryz.prog 83 1 := ⟨by kernel_rfl⟩
instance : TZ Tryz.prog 83 [(.slice none 0 0)] := ⟨_, _, rfl, rfl, rfl, by decide⟩
instance : T1 Tryz.prog 95 := ⟨by kernel_rfl⟩
instance : TZ Tryz.prog 95 [(.pointer none)] := ⟨_, _, rfl, rfl, rfl, by decide⟩
instance : T1 Tryz.prog 97 := ⟨by kernel_rfl⟩
instance : TI Tryz.prog 97 .u64 := ⟨Tryz.underlying97⟩
instance : TZ Tryz.prog 97 [(.int .u64 0)] := ⟨_, _, rfl, rfl, rfl, by decide⟩
instance : T1 Tryz.prog 101 := ⟨by kernel_rfl⟩
instance : TZ Tryz.prog 101 [(.pointer none)] := ⟨_, _, rfl, rfl, rfl, by decide⟩
instance : FA Tryz.prog 102 0 0 := ⟨by kernel_rfl⟩
instance : FA Tryz.prog 102 1 1 := ⟨by kernel_rfl⟩
instance : TN Tryz.prog 102 2 := ⟨by kernel_rfl⟩
instance : TZ Tryz.prog 102 [(.pointer none), (.slice none 0 0)] := ⟨_, _, rfl, rfl, rfl, by decide⟩
instance : FA Tryz.prog 103 0 0 := ⟨by kernel_rfl⟩
instance : FA Tryz.prog 103 1 1 := ⟨by kernel_rfl⟩
instance : TN Tryz.prog 103 2 := ⟨by kernel_rfl⟩
instance : TZ Tryz.prog 103 [(.pointer none), (.slice none 0 0)] := ⟨_, _, rfl, rfl, rfl, by decide⟩
instance : T1 Tryz.prog 106 := ⟨by kernel_rfl⟩
instance : TZ Tryz.prog 106 [.nilIface] := ⟨_, _, rfl, rfl, rfl, by decide⟩
instance : T1 Tryz.prog 115 := ⟨by kernel_rfl⟩
instance : TZ Tryz.prog 115 [(.pointer none)] := ⟨_, _, rfl, rfl, rfl, by decide⟩
instance : TN Tryz.prog 119 24 := ⟨by kernel_rfl⟩
instance : AR Tryz.prog 119 24 1 := ⟨by kernel_rfl⟩
instance : T1 Tryz.prog 120 := ⟨by kernel_rfl⟩
instance : TI Tryz.prog 120 .u64 := ⟨Tryz.underlying120⟩
instance : TZ Tryz.prog 120 [(.int .u64 0)] := ⟨_, _, rfl, rfl, rfl, by decide⟩
instance : TN Tryz.prog 130 20 := ⟨by kernel_rfl⟩
instance : AR Tryz.prog 130 20 1 := ⟨by kernel_rfl⟩
instance : T1 Tryz.prog 131 := ⟨by kernel_rfl⟩
instance : TI Tryz.prog 131 .u32 := ⟨Tryz.underlying131⟩
instance : TZ Tryz.prog 131 [(.int .u32 0)] := ⟨_, _, rfl, rfl, rfl, by decide⟩
instance : TN Tryz.prog 132 65 := ⟨by kernel_rfl⟩
instance : AR Tryz.prog 132 65 1 := ⟨by kernel_rfl⟩
instance : TN Tryz.prog 136 32 := ⟨by kernel_rfl⟩
instance : AR Tryz.prog 136 32 1 := ⟨by kernel_rfl⟩
instance : TN Tryz.prog 137 64 := ⟨by kernel_rfl⟩
instance : AR Tryz.prog 137 64 1 := ⟨by kernel_rfl⟩
instance : FA Tryz.prog 138 0 0 := ⟨by kernel_rfl⟩
instance : FA Tryz.prog 138 1 1 := ⟨by kernel_rfl⟩
instance : FA Tryz.prog 138 2 2 := ⟨by kernel_rfl⟩
instance : FA Tryz.prog 138 3 3 := ⟨by kernel_rfl⟩
instance : TN Tryz.prog 138 4 := ⟨by kernel_rfl⟩
instance : TZ Tryz.prog 138 [(.pointer none), (.pointer none), (.pointer none), (.string ⟨#[]⟩)] := ⟨_, _, rfl, rfl, rfl, by decide⟩
instance : FA Tryz.prog 139 0 0 := ⟨by kernel_rfl⟩
instance : FA Tryz.prog 139 1 1 := ⟨by kernel_rfl⟩
instance : FA Tryz.prog 139 2 2 := ⟨by kernel_rfl⟩
instance : FA Tryz.prog 139 3 3 := ⟨by kernel_rfl⟩
instance : TN Tryz.prog 139 4 := ⟨by kernel_rfl⟩
instance : TZ Tryz.prog 139 [(.pointer none), (.pointer none), (.pointer none), (.string ⟨#[]⟩)] := ⟨_, _, rfl, rfl, rfl, by decide⟩
instance : TN Tryz.prog 140 0 := ⟨by kernel_rfl⟩
instance : AR Tryz.prog 140 0 1 := ⟨by kernel_rfl⟩
instance : T1 Tryz.prog 144 := ⟨by kernel_rfl⟩
instance : TI Tryz.prog 144 .u8 := ⟨Tryz.underlying144⟩
instance : TZ Tryz.prog 144 [(.int .u8 0)] := ⟨_, _, rfl, rfl, rfl, by decide⟩
instance : T1 Tryz.prog 145 := ⟨by kernel_rfl⟩
instance : TI Tryz.prog 145 .u8 := ⟨Tryz.underlying145⟩
instance : TZ Tryz.prog 145 [(.int .u8 0)] := ⟨_, _, rfl, rfl, rfl, by decide⟩
instance : T1 Tryz.prog 147 := ⟨by kernel_rfl⟩
instance : TI Tryz.prog 147 .i32 := ⟨Tryz.underlying147⟩
instance : TZ Tryz.prog 147 [(.int .i32 0)] := ⟨_, _, rfl, rfl, rfl, by decide⟩
instance : T1 Tryz.prog 148 := ⟨by kernel_rfl⟩
instance : TI Tryz.prog 148 .i32 := ⟨Tryz.underlying148⟩
instance : TZ Tryz.prog 148 [(.int .i32 0)] := ⟨_, _, rfl, rfl, rfl, by decide⟩
instance : FA Tryz.prog 149 0 0 := ⟨by kernel_rfl⟩
instance : FA Tryz.prog 149 1 1 := ⟨by kernel_rfl⟩
instance : FA Tryz.prog 149 2 2 := ⟨by kernel_rfl⟩
instance : FA Tryz.prog 149 3 3 := ⟨by kernel_rfl⟩
instance : FA Tryz.prog 149 4 4 := ⟨by kernel_rfl⟩
instance : FA Tryz.prog 149 5 5 := ⟨by kernel_rfl⟩
instance : FA Tryz.prog 149 6 6 := ⟨by kernel_rfl⟩
instance : FA Tryz.prog 149 8 8 := ⟨by kernel_rfl⟩
instance : FA Tryz.prog 149 9 9 := ⟨by kernel_rfl⟩
instance : FA Tryz.prog 149 10 10 := ⟨by kernel_rfl⟩
instance : TN Tryz.prog 149 11 := ⟨by kernel_rfl⟩
instance : TZ Tryz.prog 149 [(.int .u64 0), (.int .u64 0), (.int .u32 0), (.int .u8 0), (.int .u8 0), (.int .u8 0), (.int .u8 0), .nilFunc, (.pointer none), (.int .i32 0), (.int .i32 0)] := ⟨_, _, rfl, rfl, rfl, by decide⟩
instance : FA Tryz.prog 150 0 0 := ⟨by kernel_rfl⟩
instance : FA Tryz.prog 150 1 1 := ⟨by kernel_rfl⟩
instance : FA Tryz.prog 150 2 2 := ⟨by kernel_rfl⟩
instance : FA Tryz.prog 150 3 3 := ⟨by kernel_rfl⟩
instance : FA Tryz.prog 150 4 4 := ⟨by kernel_rfl⟩
instance : FA Tryz.prog 150 5 5 := ⟨by kernel_rfl⟩
instance : FA Tryz.prog 150 6 6 := ⟨by kernel_rfl⟩
instance : FA Tryz.prog 150 8 8 := ⟨by kernel_rfl⟩
instance : FA Tryz.prog 150 9 9 := ⟨by kernel_rfl⟩
instance : FA Tryz.prog 150 10 10 := ⟨by kernel_rfl⟩
instance : TN Tryz.prog 150 11 := ⟨by kernel_rfl⟩
instance : TZ Tryz.prog 150 [(.int .u64 0), (.int .u64 0), (.int .u32 0), (.int .u8 0), (.int .u8 0), (.int .u8 0), (.int .u8 0), .nilFunc, (.pointer none), (.int .i32 0), (.int .i32 0)] := ⟨_, _, rfl, rfl, rfl, by decide⟩
instance : FN Tryz.prog 3 Tryz.f3 := ⟨Tryz.func3, by kernel_rfl, by kernel_rfl⟩
instance : FN Tryz.prog 4 Tryz.f4 := ⟨Tryz.func4, by kernel_rfl, by kernel_rfl⟩
instance : FN Tryz.prog 5 Tryz.f5 := ⟨Tryz.func5, by kernel_rfl, by kernel_rfl⟩
instance : FN Tryz.prog 6 Tryz.f6 := ⟨Tryz.func6, by kernel_rfl, by kernel_rfl⟩
instance : FN Tryz.prog 7 Tryz.f7 := ⟨Tryz.func7, by kernel_rfl, by kernel_rfl⟩
instance : FN Tryz.prog 8 Tryz.f8 := ⟨Tryz.func8, by kernel_rfl, by kernel_rfl⟩
instance : FN Tryz.prog 9 Tryz.f9 := ⟨Tryz.func9, by kernel_rfl, by kernel_rfl⟩
instance : FN Tryz.prog 10 Tryz.f10 := ⟨Tryz.func10, by kernel_rfl, by kernel_rfl⟩
instance : FN Tryz.prog 11 Tryz.f11 := ⟨Tryz.func11, by kernel_rfl, by kernel_rfl⟩
instance : FN Tryz.prog 12 Tryz.f12 := ⟨Tryz.func12, by kernel_rfl, by kernel_rfl⟩
instance : FN Tryz.prog 13 Tryz.f13 := ⟨Tryz.func13, by kernel_rfl, by kernel_rfl⟩
instance : FN Tryz.prog 14 Tryz.f14 := ⟨Tryz.func14, by kernel_rfl, by kernel_rfl⟩
instance : FN Tryz.prog 15 Tryz.f15 := ⟨Tryz.func15, by kernel_rfl, by kernel_rfl⟩
instance : FN Tryz.prog 16 Tryz.f16 := ⟨Tryz.func16, by kernel_rfl, by kernel_rfl⟩
instance : FN Tryz.prog 17 Tryz.f17 := ⟨Tryz.func17, by kernel_rfl, by kernel_rfl⟩
instance : FN Tryz.prog 18 Tryz.f18 := ⟨Tryz.func18, by kernel_rfl, by kernel_rfl⟩
instance : FN Tryz.prog 19 Tryz.f19 := ⟨Tryz.func19, by kernel_rfl, by kernel_rfl⟩
instance : FN Tryz.prog 20 Tryz.f20 := ⟨Tryz.func20, by kernel_rfl, by kernel_rfl⟩
instance : FN Tryz.prog 21 Tryz.f21 := ⟨Tryz.func21, by kernel_rfl, by kernel_rfl⟩
instance : FN Tryz.prog 22 Tryz.f22 := ⟨Tryz.func22, by kernel_rfl, by kernel_rfl⟩
instance : FN Tryz.prog 23 Tryz.f23 := ⟨Tryz.func23, by kernel_rfl, by kernel_rfl⟩
instance : FN Tryz.prog 24 Tryz.f24 := ⟨Tryz.func24, by kernel_rfl, by kernel_rfl⟩
instance : FN Tryz.prog 25 Tryz.f25 := ⟨Tryz.func25, by kernel_rfl, by kernel_rfl⟩
instance : FN Tryz.prog 26 Tryz.f26 := ⟨Tryz.func26, by kernel_rfl, by kernel_rfl⟩
instance : FN Tryz.prog 27 Tryz.f27 := ⟨Tryz.func27, by kernel_rfl, by kernel_rfl⟩
instance : FN Tryz.prog 28 Tryz.f28 := ⟨Tryz.func28, by kernel_rfl, by kernel_rfl⟩
instance : FN Tryz.prog 29 Tryz.f29 := ⟨Tryz.func29, by kernel_rfl, by kernel_rfl⟩
instance : FN Tryz.prog 30 Tryz.f30 := ⟨Tryz.func30, by kernel_rfl, by kernel_rfl⟩
instance : FN Tryz.prog 31 Tryz.f31 := ⟨Tryz.func31, by kernel_rfl, by kernel_rfl⟩
instance : FN Tryz.prog 32 Tryz.f32 := ⟨Tryz.func32, by kernel_rfl, by kernel_rfl⟩
instance : FN Tryz.prog 33 Tryz.f33 := ⟨Tryz.func33, by kernel_rfl, by kernel_rfl⟩
instance : FN Tryz.prog 34 Tryz.f34 := ⟨Tryz.func34, by kernel_rfl, by kernel_rfl⟩
instance : FN Tryz.prog 35 Tryz.f35 := ⟨Tryz.func35, by kernel_rfl, by kernel_rfl⟩
instance : FN Tryz.prog 36 Tryz.f36 := ⟨Tryz.func36, by kernel_rfl, by kernel_rfl⟩
instance : FN Tryz.prog 37 Tryz.f37 := ⟨Tryz.func37, by kernel_rfl, by kernel_rfl⟩
instance : FN Tryz.prog 38 Tryz.f38 := ⟨Tryz.func38, by kernel_rfl, by kernel_rfl⟩
instance : FN Tryz.prog 39 Tryz.f39 := ⟨Tryz.func39, by kernel_rfl, by kernel_rfl⟩
instance : FN Tryz.prog 40 Tryz.f40 := ⟨Tryz.func40, by kernel_rfl, by kernel_rfl⟩
instance : FN Tryz.prog 41 Tryz.f41 := ⟨Tryz.func41, by kernel_rfl, by kernel_rfl⟩
instance : FN Tryz.prog 42 Tryz.f42 := ⟨Tryz.func42, by kernel_rfl, by kernel_rfl⟩
instance : FN Tryz.prog 43 Tryz.f43 := ⟨Tryz.func43, by kernel_rfl, by kernel_rfl⟩
instance : FN Tryz.prog 44 Tryz.f44 := ⟨Tryz.func44, by kernel_rfl, by kernel_rfl⟩
instance : FN Tryz.prog 45 Tryz.f45 := ⟨Tryz.func45, by kernel_rfl, by kernel_rfl⟩
instance : FN Tryz.prog 46 Tryz.f46 := ⟨Tryz.func46, by kernel_rfl, by kernel_rfl⟩
instance : FN Tryz.prog 47 Tryz.f47 := ⟨Tryz.func47, by kernel_rfl, by kernel_rfl⟩
instance : FN Tryz.prog 48 Tryz.f48 := ⟨Tryz.func48, by kernel_rfl, by kernel_rfl⟩
instance : FN Tryz.prog 49 Tryz.f49 := ⟨Tryz.func49, by kernel_rfl, by kernel_rfl⟩
instance : FN Tryz.prog 50 Tryz.f50 := ⟨Tryz.func50, by kernel_rfl, by kernel_rfl⟩
instance : FN Tryz.prog 51 Tryz.f51 := ⟨Tryz.func51, by kernel_rfl, by kernel_rfl⟩
instance : FN Tryz.prog 52 Tryz.f52 := ⟨Tryz.func52, by kernel_rfl, by kernel_rfl⟩
instance : FN Tryz.prog 53 Tryz.f53 := ⟨Tryz.func53, by kernel_rfl, by kernel_rfl⟩
instance : FN Tryz.prog 54 Tryz.f54 := ⟨Tryz.func54, by kernel_rfl, by kernel_rfl⟩
instance : FN Tryz.prog 55 Tryz.f55 := ⟨Tryz.func55, by kernel_rfl, by kernel_rfl⟩
instance : FN Tryz.prog 56 Tryz.f56 := ⟨Tryz.func56, by kernel_rfl, by kernel_rfl⟩
instance : FN Tryz.prog 57 Tryz.f57 := ⟨Tryz.func57, by kernel_rfl, by kernel_rfl⟩
instance : FN Tryz.prog 58 Tryz.f58 := ⟨Tryz.func58, by kernel_rfl, by kernel_rfl⟩
instance : FN Tryz.prog 59 Tryz.f59 := ⟨Tryz.func59, by kernel_rfl, by kernel_rfl⟩
instance : FN Tryz.prog 60 Tryz.f60 := ⟨Tryz.func60, by kernel_rfl, by kernel_rfl⟩
instance : FN Tryz.prog 61 Tryz.f61 := ⟨Tryz.func61, by kernel_rfl, by kernel_rfl⟩
instance : FN Tryz.prog 62 Tryz.f62 := ⟨Tryz.func62, by kernel_rfl, by kernel_rfl⟩
instance : FN Tryz.prog 63 Tryz.f63 := ⟨Tryz.func63, by kernel_rfl, by kernel_rfl⟩
instance : FN Tryz.prog 66 Tryz.f66 := ⟨Tryz.func66, by kernel_rfl, by kernel_rfl⟩
instance : FN Tryz.prog 67 Tryz.f67 := ⟨Tryz.func67, by kernel_rfl, by kernel_rfl⟩
instance : FN Tryz.prog 68 Tryz.f68 := ⟨Tryz.func68, by kernel_rfl, by kernel_rfl⟩
instance : FN Tryz.prog 69 Tryz.f69 := ⟨Tryz.func69, by kernel_rfl, by kernel_rfl⟩
instance : FN Tryz.prog 70 Tryz.f70 := ⟨Tryz.func70, by kernel_rfl, by kernel_rfl⟩
instance : FN Tryz.prog 71 Tryz.f71 := ⟨Tryz.func71, by kernel_rfl, by kernel_rfl⟩
instance : FN Tryz.prog 72 Tryz.f72 := ⟨Tryz.func72, by kernel_rfl, by kernel_rfl⟩
instance : FN Tryz.prog 73 Tryz.f73 := ⟨Tryz.func73, by kernel_rfl, by kernel_rfl⟩
instance : FN Tryz.prog 74 Tryz.f74 := ⟨Tryz.func74, by kernel_rfl, by kernel_rfl⟩
instance : FN Tryz.prog 79 Tryz.f79 := ⟨Tryz.func79, by kernel_rfl, by kernel_rfl⟩
instance : FN Tryz.prog 80 Tryz.f80 := ⟨Tryz.func80, by kernel_rfl, by kernel_rfl⟩
instance : FN Tryz.prog 81 Tryz.f81 := ⟨Tryz.func81, by kernel_rfl, by kernel_rfl⟩
instance : FN Tryz.prog 82 Tryz.f82 := ⟨Tryz.func82, by kernel_rfl, by kernel_rfl⟩
instance : FN Tryz.prog 83 Tryz.f83 := ⟨Tryz.func83, by kernel_rfl, by kernel_rfl⟩
instance : FN Tryz.prog 84 Tryz.f84 := ⟨Tryz.func84, by kernel_rfl, by kernel_rfl⟩
instance : FN Tryz.prog 88 Tryz.f88 := ⟨Tryz.func88, by kernel_rfl, by kernel_rfl⟩
instance : FN Tryz.prog 89 Tryz.f89 := ⟨Tryz.func89, by kernel_rfl, by kernel_rfl⟩
instance : FN Tryz.prog 90 Tryz.f90 := ⟨Tryz.func90, by kernel_rfl, by kernel_rfl⟩
instance : FN Tryz.prog 91 Tryz.f91 := ⟨Tryz.func91, by kernel_rfl, by kernel_rfl⟩
instance : FN Tryz.prog 92 Tryz.f92 := ⟨Tryz.func92, by kernel_rfl, by kernel_rfl⟩
instance : FN Tryz.prog 93 Tryz.f93 := ⟨Tryz.func93, by kernel_rfl, by kernel_rfl⟩
instance : FN Tryz.prog 100 Tryz.f100 := ⟨Tryz.func100, by kernel_rfl, by kernel_rfl⟩
instance : FN Tryz.prog 101 Tryz.f101 := ⟨Tryz.func101, by kernel_rfl, by kernel_rfl⟩
def tab : Tab := ⟨[(24, [0]), (28, [0, 1, 2]), (35, [0]), (39, [0, 1, 2]), (54, [0, 1, 2, 3, 4, 5, 6, 7]), (68, [0, 1, 2, 3, 4, 5, 6, 7]), (83, [0]), (103, [0, 1])], [2, 3, 4, 5, 9, 21, 22, 25, 26, 31, 33, 37, 52, 60, 95, 97, 101, 106, 115, 120, 131], [(24, 1), (28, 3), (35, 1), (39, 3), (54, 8), (68, 8), (83, 1), (103, 2), (119, 24), (130, 20), (132, 65), (136, 32), (137, 64), (140, 0)], [22, 25, 26, 31, 33, 37, 52], [9], [4]⟩
theorem tabOk : TabOk Tryz.prog tab := ⟨by kernel_rfl, by kernel_rfl, by kernel_rfl, by kernel_rfl, by kernel_rfl, by kernel_rfl⟩
theorem mixed : Tryz.prog.follows .mixedOrders = true := by kernel_rfl
def plains : List Nat := [2, 3, 4, 5, 6, 7, 9, 12, 13, 21, 22, 23, 24, 25, 26, 27, 28, 31, 33, 34, 35, 37, 38, 39, 52, 53, 54, 68, 82, 83, 97, 120, 131]
theorem plainsOk : (plains.all (typB Tryz.prog plains)) = true := by kernel_rfl
end Go.Proofs.YtkmoffefhlmgeaaGreatDoor
/- Functions that want a fact of the world, such as a table that lies in a variable. Over any program. -/
namespace Go.Proofs.YtkmoffefhlmgeaaGreatDoor
set_option linter.unusedSimpArgs false
set_option linter.unusedVariables false
set_option linter.unusedSectionVars false
set_option maxRecDepth 100000
open Go.RowKit
open AV (Mem Keeps)
structure Lasts (T : World → Prop) : Prop where
  keep : ∀ w w', T w → Below w.heap.size w w' → T w'
def ACt (T : World → Prop) (P : Program) (f : FuncId) (args : List RV) (R : RR → Prop) : Prop :=
  ∀ (w : World) (ok : Nat → Prop) (us : Array Value), T w → (∀ b, w.heap.size ≤ b → ok b) → RV.rels w ok args us.toList →
    Calls P f us w fun e w' => ∃ u rr bs, e = .returned u ∧ R rr ∧ RR.rel w' (fun b => ok b ∧ b ∉ bs) rr u bs ∧ bs.Nodup ∧ (∀ b ∈ bs, w.heap.size ≤ b ∧ b < w'.heap.size) ∧ Below w.heap.size w w'
abbrev ACtv (T : World → Prop) (P : Program) (f : FuncId) (args : List RV) (r : RV) : Prop := ACt T P f args fun rr => rr = .ro r
def Bears (T : World → Prop) (C : Ctx) : Prop := ∀ m, Good C m → T m.w
section
variable {T : World → Prop} {P : Program} {f : FuncId} {fn : Func} {args : List RV}
theorem act_enter {c : Code} {R : RR → Prop} (hT : Lasts T) (hf : P.funcs[f]? = some fn) (hb : fn.body = some c) (n : Nat) (hn : fn.ntmps = n) (hl : args.length ≤ n)
    (h : ∀ C : Ctx, C.n = n → (∀ b, ¬ C.mu b) → Bears T C → Runs P C [.code c] (Ends P C fn R) ⟨startEnv 0 args, []⟩) : ACt T P f args R := by
  intro w ok us hw h0 hu
  have hlen := RV.rels_len args _ hu
  refine calls_of_fin hf hb ?_
  have hs : Sim ⟨w, ok, fun _ => False, n⟩ ⟨startEnv 0 args, []⟩ { tmps := us ++ Array.replicate (fn.ntmps - us.size) undef, defers := [] } w := by
    refine ⟨rfl, by simp at hlen ⊢; omega, fun _ => none, ⟨rfl, fun i j g hi => by simp at hi, fun i o hi => by simp at hi, fun i g hi => by simp at hi, ⟨rfl, rfl, rfl, Nat.le_refl _, fun _ _ _ => rfl, h0⟩⟩, fun t => ?_⟩
    rw [start_look]
    simp only [Nat.zero_le, if_true, Nat.sub_zero]
    cases hr : args[t]? with
    | none => simp [AV.rel]
    | some r =>
      obtain ⟨u, e1, e2⟩ := RV.rels_at args _ hu t r hr
      have ht : t < us.size := by have := (List.getElem?_eq_some_iff.1 e1).1; simpa using this
      simp only [AV.rel]
      have : (us ++ Array.replicate (fn.ntmps - us.size) undef).getD t undef = u := by
        rw [Array.getD_eq_getD_getElem?, Array.getElem?_append_left ht]
        have : us[t]? = some u := by simpa using e1
        simp [this]
      rw [this]
      exact RV.rel_mono ⟨Nat.le_refl _, fun b _ hb => ⟨⟨hb, fun i hi => by simp at hi⟩, rfl⟩⟩ r u e2
  have hr := (h ⟨w, ok, fun _ => False, n⟩ rfl (fun _ h => h) (fun m hG => hT.keep w m.w hw (hG.frm.below0 fun _ h => h))).run _ w hs
  intro b cs
  obtain ⟨a', w', todo, ⟨hd, v, hv, rr, bs, h1, h2, h3, h4, h5⟩, hst⟩ := hr b cs
  exact ⟨a', w', todo, ⟨hd, v, hv, v, rr, bs, rfl, h1, h2, h3, h4, h5⟩, hst⟩
theorem ACt.law (h : ACtv T P f args (.bool true)) (w : World) (hw : T w) (us : Array Value) (hu : RV.Rels w args us.toList) :
    Calls P f us w fun e w' => e = .returned (.bool true) ∧ Below w.heap.size w w' :=
  (h w (fun _ => True) us hw (fun _ _ => trivial) hu).mono fun _ _ ⟨u, rr, bs, e, h1, h2, _, _, h5⟩ => by
    subst h1
    simp only [RR.rel, RV.rel] at h2
    rw [e, h2.1]
    exact ⟨rfl, h5⟩
end
section
variable {T : World → Prop} {P : Program} {C : Ctx} {env : Env} {σ : List Ob} {t : Nat} {ty : TypeId} {pos : String} {after : Array Edge} {gd : Option (Nat × Bool)}
theorem pu_callW {f : FuncId} {fn : Func} {xs : Array Operand} {ats : Array TypeId} {args : List RV} {r : RV} [hfn : FN P f fn] (hb : Bears T C) (hf : ACtv T P f args r) (ha : xs.toList.map (ev env) = args.map .ro) :
    Pur P C ⟨some t, .call { callee := .value (.func f), args := xs, argTypes := ats }, ty, pos, after, gd⟩ env σ (.ro r) := by
  refine ⟨fun a m hG hσ hH K Q hK => ?_⟩
  have hr := FitsL.rels (ha ▸ FitsL.ros args) _ (rels_eval (a := a) (m := m) xs.toList fun x hx => hH x (by simp [Op.operands, Call.operands]; exact .inr (by simpa using hx)))
  unfold Oper.wp
  rw [execOp_call_go, run_call hfn]
  simp only [Oper.upon]
  refine (hf m.w m.ok _ (hb m hG) (fun b hb => ⟨by rw [hG.ok0]; exact hG.frm.new b (Nat.le_trans hG.frm.size hb), fun i hi e => ?_⟩) (by simpa using hr)).mono ?_
  · have := hG.lt hi e; omega
  · rintro e w' ⟨u, rr, bs, rfl, rfl, h1, _, _, h4⟩
    simp only [RR.rel] at h1
    obtain ⟨h1, rfl⟩ := h1
    refine hK u w' h4 ?_
    simp only [AV.rel]
    exact RV.rel_mono ⟨Nat.le_refl _, fun b _ hb => ⟨hb.1, rfl⟩⟩ r u h1
end
theorem lasts_var {P : Program} {n : String} {cs : Array Value} {g : Nat} (hg : P.globalNamed n = some g) : Lasts fun w => w.var? P n = some cs := ⟨fun w w' h hb => by
  refine var?_below hb hg ?_ h
  unfold World.var? at h
  rw [hg] at h
  simp only [Option.bind_some] at h
  split at h
  · rename_i hh; exact (Array.getElem?_eq_some_iff.1 hh).1
  · cases h⟩
end Go.Proofs.YtkmoffefhlmgeaaGreatDoor
/- The decimal digits of a number, one by one from the right: plain laws. -/
namespace Go.Proofs.YtkmoffefhlmgeaaGreatDoor
set_option linter.unusedSimpArgs false
set_option linter.unusedVariables false
set_option linter.unusedSectionVars false
set_option maxRecDepth 100000
def digPre (x : Int) : List UInt8 := if x = 0 then [] else Lib.decDigits x.natAbs
theorem tdiv_abs (x : Int) : (x.tdiv 10).natAbs = x.natAbs / 10 := by
  rw [Int.natAbs_tdiv]; rfl
theorem tmod_abs (x : Int) : (x.tmod 10).natAbs = x.natAbs % 10 := by
  rw [Int.natAbs_tmod]; rfl
theorem digPre_step (x : Int) (hx : x ≠ 0) : digPre x = digPre (x.tdiv 10) ++ [UInt8.ofNat (48 + x.natAbs % 10)] := by
  have h1 := tdiv_abs x
  have hn : x.natAbs ≠ 0 := by omega
  unfold digPre
  rw [if_neg hx, Lib.decDigits]
  by_cases h : x.natAbs < 10
  · have h0 : x.tdiv 10 = 0 := by
      have : (x.tdiv 10).natAbs = 0 := by rw [h1]; omega
      omega
    rw [dif_pos h, if_pos h0, Nat.mod_eq_of_lt h]; rfl
  · have h0 : x.tdiv 10 ≠ 0 := by
      intro e
      rw [e] at h1
      simp only [Int.natAbs_zero] at h1
      omega
    rw [dif_neg h, if_neg h0, h1]
theorem itoa_zero : Lib.itoa 0 = [48] := by
  unfold Lib.itoa
  rw [if_neg (by decide), Lib.decDigits, dif_pos (by decide)]; rfl
theorem itoa_neg (n : Int) (h : n < 0) : Lib.itoa n = 45 :: digPre n := by
  unfold Lib.itoa digPre
  rw [if_pos h, if_neg (by omega)]
theorem itoa_pos (n : Int) (h : 0 < n) : Lib.itoa n = digPre n := by
  unfold Lib.itoa digPre
  rw [if_neg (by omega), if_neg (by omega), show n.toNat = n.natAbs by omega]
theorem digs_len : ∀ (k u : Nat), u < 10 ^ (k + 1) → (Lib.decDigits u).length ≤ k + 1
  | 0, u, h => by rw [Lib.decDigits, dif_pos (by simpa using h)]; simp
  | k + 1, u, h => by
    rw [Lib.decDigits]
    split
    · simp
    · rw [List.length_append]
      have := digs_len k (u / 10) (by rw [Nat.pow_succ] at h; omega)
      simp only [List.length_cons, List.length_nil]; omega
theorem itoa_len (n : Int) (h1 : -9223372036854775808 ≤ n) (h2 : n ≤ 9223372036854775807) : (Lib.itoa n).length ≤ 20 := by
  unfold Lib.itoa
  split
  · have := digs_len 18 n.natAbs (by omega)
    simp only [List.length_cons]; omega
  · have := digs_len 18 n.toNat (by omega)
    omega
end Go.Proofs.YtkmoffefhlmgeaaGreatDoor
/- The shelf's contract of strconv.Itoa, laid at this program (by the kit's lay-shelf and lay-plain). -/
namespace Go.Proofs.YtkmoffefhlmgeaaGreatDoor
set_option linter.unusedSimpArgs false
set_option linter.unusedVariables false
set_option linter.unusedSectionVars false
set_option maxRecDepth 100000
open Go.Shelf
def laysM171_ren : Go.Shelf.Ren := ⟨fun | 171 => 64 | 243 => 75 | 246 => 85 | 283 => 94 | 284 => 95 | 285 => 96 | 286 => 97 | 129 => 103 | 317 => 102 | 318 => 104 | 319 => 105 | 320 => 106 | 337 => 107 | 338 => 108 | n => n, fun | 3 => 3 | 9 => 9 | 2 => 2 | 4 => 4 | 171 => 119 | 0 => 0 | 53 => 120 | 37 => 25 | 5 => 5 | 173 => 123 | 212 => 130 | 51 => 131 | 20 => 20 | 213 => 132 | 46 => 97 | 232 => 136 | 233 => 137 | n => n, fun | 17 => 0 | 18 => 2 | 19 => 3 | n => n⟩
theorem laysM171 : Go.Proofs.LaysM.n171 Tryz.prog laysM171_ren := {
  mixed := by kernel_rfl
  f129 := Tryz.func103.trans (congrArg some (by kernel_rfl))
  f171 := Tryz.func64.trans (congrArg some (by kernel_rfl))
  f243 := Tryz.func75.trans (congrArg some (by kernel_rfl))
  f246 := Tryz.func85.trans (congrArg some (by kernel_rfl))
  f283 := Tryz.func94.trans (congrArg some (by kernel_rfl))
  f284 := Tryz.func95.trans (congrArg some (by kernel_rfl))
  f285 := Tryz.func96.trans (congrArg some (by kernel_rfl))
  f286 := Tryz.func97.trans (congrArg some (by kernel_rfl))
  f317 := Tryz.func102.trans (congrArg some (by kernel_rfl))
  f318 := Tryz.func104.trans (congrArg some (by kernel_rfl))
  f319 := Tryz.func105.trans (congrArg some (by kernel_rfl))
  f320 := Tryz.func106.trans (congrArg some (by kernel_rfl))
  f337 := Tryz.func107.trans (congrArg some (by kernel_rfl))
  f338 := Tryz.func108.trans (congrArg some (by kernel_rfl))
  t0 := Tryz.underlying0
  a0 := Tryz.isAgg0
  z0 := Tryz.sizeOf0
  v0 := Tryz.zeroValue0
  t2 := Tryz.underlying2
  a2 := Tryz.isAgg2
  z2 := Tryz.sizeOf2
  v2 := Tryz.zeroValue2
  t3 := Tryz.underlying3
  a3 := Tryz.isAgg3
  z3 := Tryz.sizeOf3
  v3 := Tryz.zeroValue3
  t4 := Tryz.underlying4
  a4 := Tryz.isAgg4
  z4 := Tryz.sizeOf4
  v4 := Tryz.zeroValue4
  t5 := Tryz.underlying5
  a5 := Tryz.isAgg5
  z5 := Tryz.sizeOf5
  v5 := Tryz.zeroValue5
  t9 := Tryz.underlying9
  a9 := Tryz.isAgg9
  z9 := Tryz.sizeOf9
  v9 := Tryz.zeroValue9
  t20 := Tryz.underlying20
  a20 := Tryz.isAgg20
  z20 := Tryz.sizeOf20
  v20 := Tryz.zeroValue20
  t37 := Tryz.underlying25
  a37 := Tryz.isAgg25
  z37 := Tryz.sizeOf25
  v37 := Tryz.zeroValue25
  t46 := Tryz.underlying97
  a46 := Tryz.isAgg97
  z46 := Tryz.sizeOf97
  v46 := Tryz.zeroValue97
  t51 := Tryz.underlying131
  a51 := Tryz.isAgg131
  z51 := Tryz.sizeOf131
  v51 := Tryz.zeroValue131
  t53 := Tryz.underlying120
  a53 := Tryz.isAgg120
  z53 := Tryz.sizeOf120
  v53 := Tryz.zeroValue120
  t171 := Tryz.underlying119
  a171 := Tryz.isAgg119
  z171 := Tryz.sizeOf119
  v171 := Tryz.zeroValue119
  t173 := Tryz.underlying123
  a173 := Tryz.isAgg123
  z173 := Tryz.sizeOf123
  v173 := Tryz.zeroValue123
  t212 := Tryz.underlying130
  a212 := Tryz.isAgg130
  z212 := Tryz.sizeOf130
  v212 := Tryz.zeroValue130
  t213 := Tryz.underlying132
  a213 := Tryz.isAgg132
  z213 := Tryz.sizeOf132
  t232 := Tryz.underlying136
  a232 := Tryz.isAgg136
  z232 := Tryz.sizeOf136
  v232 := Tryz.zeroValue136
  t233 := Tryz.underlying137
  a233 := Tryz.isAgg137
  z233 := Tryz.sizeOf137
  v233 := Tryz.zeroValue137
  g17 := by kernel_rfl
  g18 := by kernel_rfl
  g19 := by kernel_rfl
  i0 := by kernel_rfl
  i2 := by kernel_rfl
  i3 := by kernel_rfl
  i4 := by kernel_rfl
  i5 := by kernel_rfl
  i9 := by kernel_rfl
  i20 := by kernel_rfl
  i37 := by kernel_rfl
  i46 := by kernel_rfl
  i51 := by kernel_rfl
  i53 := by kernel_rfl
  i171 := by kernel_rfl
  i173 := by kernel_rfl
  i212 := by kernel_rfl
  i232 := by kernel_rfl
  i233 := by kernel_rfl
  m17 := by kernel_rfl
  m18 := by kernel_rfl
  m19 := by kernel_rfl }
end Go.Proofs.YtkmoffefhlmgeaaGreatDoor
/- strconv.Itoa as a contract over values; it reads a table of the library. -/
namespace Go.Proofs.YtkmoffefhlmgeaaGreatDoor
set_option linter.unusedSimpArgs false
set_option linter.unusedVariables false
set_option linter.unusedSectionVars false
set_option maxRecDepth 100000
open Go.RowKit
open AV (Mem Keeps)
abbrev seatLaid : List (String × DataW Unit) := Rows.fnExactValueLinesRow.laid
abbrev tabName : String := (seatLaid.map (·.1)).getD 2 ""
def TabT (w : World) : Prop := w.var? Tryz.prog tabName = some (Lib.pow10Tab.map fun z => Value.int .u64 z).toArray
theorem tabG : Tryz.prog.globalNamed tabName = some 0 := by kernel_rfl
theorem tabT_lasts : Lasts TabT := lasts_var tabG
theorem tabT_of {W : World} {d : DataW Unit} (hd : d = Lib.tabData .u64 Lib.pow10Tab) (h : laidMet Tryz.prog [(tabName, d)] W) : TabT W := by
  subst hd
  exact Lib.tabIs_of_head tabG (t := 130) (e := 120) (n := 20) (by kernel_rfl) Tryz.underlying130 Tryz.underlying120 (by kernel_rfl) (by kernel_rfl) h
instance : FN Tryz.prog 64 Tryz.f64 := ⟨Tryz.func64, by kernel_rfl, by kernel_rfl⟩
theorem itoa_act (n : Int) (hn : I64 n) : ACtv TabT Tryz.prog 64 [.int n] (.str ⟨(Lib.itoa n).toArray⟩) := by
  intro w ok us hw h0 hu
  obtain ⟨us⟩ := us
  simp only [RV.rels, RV.rel] at hu
  obtain ⟨u, us', rfl, rfl, rfl⟩ := hu
  refine (Any.strconv_Itoa laysM171 n hn.1 hn.2 w hw).mono ?_
  rintro e w' ⟨rfl, k, os, rfl⟩
  refine ⟨_, .ro (.str ⟨(Lib.itoa n).toArray⟩), [], rfl, rfl, by simp [RR.rel, RV.rel], by simp, by simp, ?_⟩
  refine ⟨rfl, rfl, rfl, by simp, fun b hb => ?_⟩
  exact Sort.heap_grow_old (w.drewN k) os hb
end Go.Proofs.YtkmoffefhlmgeaaGreatDoor
/- The laws' own helpers on slices of integers, over values: sizes, copies, comparisons. -/
namespace Go.Proofs.YtkmoffefhlmgeaaGreatDoor
set_option linter.unusedSimpArgs false
set_option linter.unusedVariables false
set_option linter.unusedSectionVars false
set_option maxRecDepth 100000
open Go.RowKit
def sz1 (left n : Int) : Int := if left < n then -1 else left - n
theorem sz1_neg {left n : Int} (h : left < n) : sz1 left n = -1 := if_pos h
theorem sz1_pos {left n : Int} (h : n ≤ left) : sz1 left n = left - n := if_neg (by omega)
theorem sz1_ge {left n : Int} (h : ¬ sz1 left n < 0) : n ≤ left := by
  by_cases hl : left < n
  · rw [sz1_neg hl] at h; omega
  · omega
theorem seals_ints (e : TypeId) (l : List Int) : Seals (.row e 1 (l.map RV.int)) (intsR l) := by
  have h := seals_row1 e (l.map RV.int)
  rwa [List.map_map] at h
theorem take_set {α : Type} (l : List α) (z : α) (n k : Nat) (hn : l.length = n) (x : α) (hx : l[k]? = some x) : (l.take k ++ List.replicate (n - k) z).set k x = l.take (k + 1) ++ List.replicate (n - (k + 1)) z := by
  obtain ⟨hk, rfl⟩ := List.getElem?_eq_some_iff.1 hx
  exact set_step l z n k hn (by omega) hk
theorem szInts_ac (a : List Int) (left : Int) (h0 : 0 ≤ left) (h1 : left ≤ 1048576) (hl : a.length ≤ maxLen) : ACv Tryz.prog 54 [intsR a, .int left] (.int (sz1 left a.length)) := by
  unfold maxLen at hl
  refine ac_enter Tryz.func54 rfl _ Tryz.ntmps54 (by simp) fun C hn hm => ?_
  by_cases h : left < (a.length : Int)
  · repeat' (first
 | refine RunsL.step tabOk hn rfl ?_
 | refine RunsL.nil ?_
 | refine Runs.toRegion 30 rfl ?_
 | (refine RunsL.pe hn rfl rfl rfl ?_; first
 | refine ⟨_, pu_sub rfl rfl (by first | omega | (simp only [List.length_map]; omega)), ?_⟩)
 | (refine Runs.ctls 30 rfl ?_; first | ((first | refine Runs.cond_yes rfl ?_ ?_ | refine Runs.cond_nno rfl ?_ ?_); · first | omega | rfl | assumption | (simp only [List.length_map]; omega)) | ((first | refine Runs.cond_no rfl ?_ ?_ | refine Runs.cond_nyes rfl ?_ ?_); · first | omega | rfl | assumption | (simp only [List.length_map]; omega)) | refine Runs.ret (ends_ro hm rfl rfl ?_) | exact Runs.ret (ends_cellR hm rfl rfl rfl (Nat.le_of_ble_eq_true rfl) rfl rfl))
 | (refine RunsL.pe hn rfl rfl rfl ?_; first
 | refine ⟨_, pu_sub rfl rfl (by omega), ?_⟩
      ))
    exact rr_int (sz1_neg h).symm
  · repeat' (first
 | refine RunsL.step tabOk hn rfl ?_
 | refine RunsL.nil ?_
 | refine Runs.toRegion 30 rfl ?_
 | (refine RunsL.pe hn rfl rfl rfl ?_; first
 | refine ⟨_, pu_sub rfl rfl (by first | omega | (simp only [List.length_map]; omega)), ?_⟩)
 | (refine Runs.ctls 30 rfl ?_; first | ((first | refine Runs.cond_yes rfl ?_ ?_ | refine Runs.cond_nno rfl ?_ ?_); · first | omega | rfl | assumption | (simp only [List.length_map]; omega)) | ((first | refine Runs.cond_no rfl ?_ ?_ | refine Runs.cond_nyes rfl ?_ ?_); · first | omega | rfl | assumption | (simp only [List.length_map]; omega)) | refine Runs.ret (ends_ro hm rfl rfl ?_) | exact Runs.ret (ends_cellR hm rfl rfl rfl (Nat.le_of_ble_eq_true rfl) rfl rfl))
 | (refine RunsL.pe hn rfl rfl rfl ?_; first
 | refine ⟨_, pu_sub rfl rfl (by omega), ?_⟩
      ))
    exact rr_int (by rw [sz1_pos (by omega)]; simp)
theorem eqInts_ac (a : List Int) (hl : a.length ≤ maxLen) : ACv Tryz.prog 66 [intsR a, intsR a] (.bool true) := by
  unfold maxLen at hl
  refine ac_enter Tryz.func66 rfl _ Tryz.ntmps66 (by simp) fun C hn hm => ?_
  repeat' (first
 | refine RunsL.step tabOk hn rfl ?_
 | refine RunsL.nil ?_
 | refine Runs.toRegion 30 rfl ?_
 | (refine Runs.ctls 30 rfl ?_; first | ((first | refine Runs.cond_yes rfl ?_ ?_ | refine Runs.cond_nno rfl ?_ ?_); · first | omega | rfl | assumption | (simp only [List.length_map]; omega)) | ((first | refine Runs.cond_no rfl ?_ ?_ | refine Runs.cond_nyes rfl ?_ ?_); · first | omega | rfl | assumption | (simp only [List.length_map]; omega)) | refine Runs.ret (ends_ro hm rfl rfl ?_) | exact Runs.ret (ends_cellR hm rfl rfl rfl (Nat.le_of_ble_eq_true rfl) rfl rfl))
 | refine RunsD.step tabOk hn rfl rfl ?_
 | refine RunsD.nil ?_
 | refine Runs.toDraw 30 mixed hn rfl (by kernel_rfl) rfl ?_
 | ((first | refine RunsL.pe hn rfl rfl rfl ?_ | refine RunsD.pe rfl rfl ?_); first
 | refine ⟨_, pu_add rfl rfl (by omega), ?_⟩
 | refine ⟨_, pu_indexAddr_map rfl rfl (by omega) (by assumption), ?_⟩
 | refine ⟨_, pu_sub rfl rfl (by omega), ?_⟩
 | refine ⟨_, pu_pick_b rfl rfl rfl, ?_⟩
 | refine ⟨_, pu_mul rfl rfl (by omega), ?_⟩
 | refine ⟨_, pu_build rfl rfl rfl rfl rfl rfl, ?_⟩))
  refine Runs.loopN 30 rfl (fun j => [(0, .ro (intsR a)), (1, .ro (intsR a)), (5, .int (j : Int))]) (fun _ => []) (fun _ => True) a.length 0 (Nat.zero_le _) trivial ⟨rfl, rfl, rfl, trivial⟩ rfl fun j hj _ next => ?_
  by_cases hlt : j < a.length
  · obtain ⟨x, hx⟩ : ∃ x, a[(j : Int).toNat]? = some x := ⟨_, List.getElem?_eq_getElem hlt⟩
    repeat' (first
 | refine RunsL.step tabOk hn rfl ?_
 | refine RunsL.nil ?_
 | refine Runs.toRegion 30 rfl ?_
 | (refine Runs.ctls 30 rfl ?_; first | ((first | refine Runs.cond_yes rfl ?_ ?_ | refine Runs.cond_nno rfl ?_ ?_); · first | omega | rfl | assumption | (simp only [List.length_map]; omega)) | ((first | refine Runs.cond_no rfl ?_ ?_ | refine Runs.cond_nyes rfl ?_ ?_); · first | omega | rfl | assumption | (simp only [List.length_map]; omega)) | refine Runs.ret (ends_ro hm rfl rfl ?_) | exact Runs.ret (ends_cellR hm rfl rfl rfl (Nat.le_of_ble_eq_true rfl) rfl rfl))
 | refine RunsD.step tabOk hn rfl rfl ?_
 | refine RunsD.nil ?_
 | refine Runs.toDraw 30 mixed hn rfl (by kernel_rfl) rfl ?_
 | ((first | refine RunsL.pe hn rfl rfl rfl ?_ | refine RunsD.pe rfl rfl ?_); first
 | refine ⟨_, pu_add rfl rfl (by omega), ?_⟩
 | refine ⟨_, pu_indexAddr_map rfl rfl (by omega) (by assumption), ?_⟩
 | refine ⟨_, pu_sub rfl rfl (by omega), ?_⟩
 | refine ⟨_, pu_pick_b rfl rfl rfl, ?_⟩
 | refine ⟨_, pu_mul rfl rfl (by omega), ?_⟩
 | refine ⟨_, pu_build rfl rfl rfl rfl rfl rfl, ?_⟩))
    exact next _ _ ⟨rfl, rfl, rfl, trivial⟩ hlt trivial rfl
  · repeat' (first
 | refine RunsL.step tabOk hn rfl ?_
 | refine RunsL.nil ?_
 | refine Runs.toRegion 30 rfl ?_
 | (refine Runs.ctls 30 rfl ?_; first | ((first | refine Runs.cond_yes rfl ?_ ?_ | refine Runs.cond_nno rfl ?_ ?_); · first | omega | rfl | assumption | (simp only [List.length_map]; omega)) | ((first | refine Runs.cond_no rfl ?_ ?_ | refine Runs.cond_nyes rfl ?_ ?_); · first | omega | rfl | assumption | (simp only [List.length_map]; omega)) | refine Runs.ret (ends_ro hm rfl rfl ?_) | exact Runs.ret (ends_cellR hm rfl rfl rfl (Nat.le_of_ble_eq_true rfl) rfl rfl))
 | refine RunsD.step tabOk hn rfl rfl ?_
 | refine RunsD.nil ?_
 | refine Runs.toDraw 30 mixed hn rfl (by kernel_rfl) rfl ?_
 | ((first | refine RunsL.pe hn rfl rfl rfl ?_ | refine RunsD.pe rfl rfl ?_); first
 | refine ⟨_, pu_add rfl rfl (by omega), ?_⟩
 | refine ⟨_, pu_indexAddr_map rfl rfl (by omega) (by assumption), ?_⟩
 | refine ⟨_, pu_sub rfl rfl (by omega), ?_⟩
 | refine ⟨_, pu_pick_b rfl rfl rfl, ?_⟩
 | refine ⟨_, pu_mul rfl rfl (by omega), ?_⟩
 | refine ⟨_, pu_build rfl rfl rfl rfl rfl rfl, ?_⟩))
    exact rr_bool rfl
theorem toInts_ac (a : List Int) (hl : a.length ≤ 4194304) : ACv Tryz.prog 60 [intsR a] (intsR a) := by
  refine AC.shut (R := fun rr => rr = .row 3 1 (a.map RV.int)) ?_ (by rintro _ rfl; exact seals_ints _ a)
  refine ac_enter Tryz.func60 rfl _ Tryz.ntmps60 (by simp) fun C hn hm => ?_
  repeat' (first
 | refine RunsL.step tabOk hn rfl ?_
 | refine RunsL.nil ?_
 | refine Runs.toRegion 30 rfl ?_
 | refine op_make1 rfl rfl rfl rfl (by first | omega | (simp only [List.length_map]; omega)) (by unfold maxLen; simp only [List.length_map]; omega) (tl hn rfl) ?_
 | (refine Runs.ctls 30 rfl ?_; first | ((first | refine Runs.cond_yes rfl ?_ ?_ | refine Runs.cond_nno rfl ?_ ?_); · first | omega | rfl | assumption | (simp only [List.length_map]; omega)) | ((first | refine Runs.cond_no rfl ?_ ?_ | refine Runs.cond_nyes rfl ?_ ?_); · first | omega | rfl | assumption | (simp only [List.length_map]; omega)) | refine Runs.ret (ends_ro hm rfl rfl ?_) | exact Runs.ret (ends_cellR hm rfl rfl rfl (Nat.le_of_ble_eq_true rfl) rfl rfl))
 | refine op_storeF rfl rfl rfl rfl (Nat.le_of_ble_eq_true rfl) ?_
 | (refine RunsL.pe hn rfl rfl rfl ?_; first
 | refine ⟨_, pu_add rfl rfl (by omega), ?_⟩
 | refine ⟨_, pu_indexAddr_map rfl rfl (by omega) (by assumption), ?_⟩
      ))
  refine Runs.loopN 30 rfl (fun j => [(0, .ro (intsR a)), (3, .own 0), (4, .int (j : Int))]) (fun j => [⟨3, 1, (a.take j ++ List.replicate (a.length - j) 0).map fun z => .ro (.int z)⟩]) (fun _ => True) a.length 0 (Nat.zero_le _) trivial ⟨rfl, rfl, rfl, trivial⟩ (by simp) fun j hj _ next => ?_
  by_cases hlt : j < a.length
  · obtain ⟨x, hx⟩ : ∃ x, a[(j : Int).toNat]? = some x := ⟨_, List.getElem?_eq_getElem hlt⟩
    repeat' (first
 | refine RunsL.step tabOk hn rfl ?_
 | refine RunsL.nil ?_
 | refine Runs.toRegion 30 rfl ?_
 | refine op_storeF rfl rfl rfl rfl (by simp; omega) ?_
 | (refine RunsL.pe hn rfl rfl rfl ?_; first
 | refine ⟨_, pu_indexAddr_own (n := a.length) rfl rfl rfl rfl (by simp; omega) (by omega) (by omega), ?_⟩)
 | (refine Runs.ctls 30 rfl ?_; first | ((first | refine Runs.cond_yes rfl ?_ ?_ | refine Runs.cond_nno rfl ?_ ?_); · first | omega | rfl | assumption | (simp only [List.length_map]; omega)) | ((first | refine Runs.cond_no rfl ?_ ?_ | refine Runs.cond_nyes rfl ?_ ?_); · first | omega | rfl | assumption | (simp only [List.length_map]; omega)) | refine Runs.ret (ends_ro hm rfl rfl ?_) | exact Runs.ret (ends_cellR hm rfl rfl rfl (Nat.le_of_ble_eq_true rfl) rfl rfl))
 | refine op_storeF rfl rfl rfl rfl (Nat.le_of_ble_eq_true rfl) ?_
 | (refine RunsL.pe hn rfl rfl rfl ?_; first
 | refine ⟨_, pu_add rfl rfl (by omega), ?_⟩
 | refine ⟨_, pu_indexAddr_map rfl rfl (by omega) (by assumption), ?_⟩
        ))
    refine next _ _ ⟨rfl, rfl, rfl, trivial⟩ hlt trivial ?_
    have h := take_set a 0 a.length j rfl x hx
    simp only [List.set_cons_zero, Nat.mul_one, Int.toNat_natCast]
    rw [← h, List.map_set]
  · obtain rfl : j = a.length := by omega
    repeat' (first
 | refine RunsL.step tabOk hn rfl ?_
 | refine RunsL.nil ?_
 | refine Runs.toRegion 30 rfl ?_
 | (refine Runs.ctls 30 rfl ?_; first | ((first | refine Runs.cond_yes rfl ?_ ?_ | refine Runs.cond_nno rfl ?_ ?_); · first | omega | rfl | assumption | (simp only [List.length_map]; omega)) | ((first | refine Runs.cond_no rfl ?_ ?_ | refine Runs.cond_nyes rfl ?_ ?_); · first | omega | rfl | assumption | (simp only [List.length_map]; omega)) | refine Runs.ret (ends_ro hm rfl rfl ?_) | exact Runs.ret (ends_cellR hm rfl rfl rfl (Nat.le_of_ble_eq_true rfl) rfl rfl))
 | refine op_storeF rfl rfl rfl rfl (Nat.le_of_ble_eq_true rfl) ?_
 | (refine RunsL.pe hn rfl rfl rfl ?_; first
 | refine ⟨_, pu_add rfl rfl (by omega), ?_⟩
 | refine ⟨_, pu_indexAddr_map rfl rfl (by omega) (by assumption), ?_⟩
        ))
    exact Runs.ctls 30 rfl (Runs.ret (ends_own (rs := a.map RV.int) hm rfl rfl rfl (by simp) rfl))
end Go.Proofs.YtkmoffefhlmgeaaGreatDoor
/- The laws' own helpers on programs, over values: sizes, copies, comparisons. -/
namespace Go.Proofs.YtkmoffefhlmgeaaGreatDoor
set_option linter.unusedSimpArgs false
set_option linter.unusedVariables false
set_option linter.unusedSectionVars false
set_option maxRecDepth 100000
open Go.RowKit
structure Ins where
  op : Int
  a : Int
  b : Int
structure Prg where
  code : List Ins
  entries : List Int
end Go.Proofs.YtkmoffefhlmgeaaGreatDoor
/- A program, opened. -/
namespace Go.Proofs.YtkmoffefhlmgeaaGreatDoor
set_option linter.unusedSimpArgs false
set_option linter.unusedVariables false
set_option linter.unusedSectionVars false
set_option maxRecDepth 100000
open Go.RowKit
def InsOk (i : Ins) : Prop := I64 i.op ∧ I64 i.a ∧ I64 i.b
structure PrgOk (p : Prg) : Prop where
  code : ∀ i ∈ p.code, InsOk i
  entries : ∀ e ∈ p.entries, I64 e
  clen : p.code.length ≤ maxLen
  elen : p.entries.length ≤ maxLen
end Go.Proofs.YtkmoffefhlmgeaaGreatDoor
/- Equality of slices and of programs: both sides return the same. -/
namespace Go.Proofs.YtkmoffefhlmgeaaGreatDoor
set_option linter.unusedSimpArgs false
set_option linter.unusedVariables false
set_option linter.unusedSectionVars false
set_option maxRecDepth 100000
open Go.RowKit
deriving instance DecidableEq for Ins
deriving instance DecidableEq for Prg
section
variable {α : Type} {a b : List α} {j : Nat} {x y : α}
end
end Go.Proofs.YtkmoffefhlmgeaaGreatDoor
/- Bytes over values: the laws' helpers, equality, conversion to a string. -/
namespace Go.Proofs.YtkmoffefhlmgeaaGreatDoor
set_option linter.unusedSimpArgs false
set_option linter.unusedVariables false
set_option linter.unusedSectionVars false
set_option maxRecDepth 100000
open Go.RowKit
open AV (Mem Keeps)
section
variable {P : Program} {C : Ctx} {env : Env} {σ : List Ob} {t : Nat} {ty : TypeId} {pos : String} {after : Array Edge} {gd : Option (Nat × Bool)}
theorem pu_string {src dst e : TypeId} {x : Operand} {l : List UInt8} (hs : P.underlying src = some (.slice e)) (he : P.underlying e = some (.int .u8)) (hd : P.underlying dst = some .string) (hx : ev env x = .ro (bytesR l)) :
    Pur P C ⟨some t, .convert src dst x, ty, pos, after, gd⟩ env σ (.str ⟨l.toArray⟩) :=
  Pur.of (fun a m hG hσ hH => by
    have h := hH x (by simp [Op.operands])
    rw [hx] at h
    simp only [AV.rel, bytesR, RV.rel] at h
    obtain ⟨A, n, c, e1, hn, hc, _, hA⟩ := h
    rw [List.length_map] at hn
    refine ⟨.string ⟨l.toArray⟩, ?_, by simp [AV.rel, RV.rel]⟩
    have key : (convert src dst (a.eval x)).run P m.w = .ok (.string ⟨l.toArray⟩) m.w := by
      rw [e1]
      cases hl : l with
      | nil =>
        subst hl
        have : n = 0 := by simpa using hn
        subst this
        cases A with
        | none => rw [run_convert_bytes_string m.w src dst e none 0 c hs he hd]; rfl
        | some a => exact run_convert_bytes_back m.w src dst e a c [] hs he hd (fun j hj => absurd hj (by simp))
      | cons y ys =>
        obtain ⟨b, o, eA, hb, _, hE⟩ := hA (by rw [hn, hl]; simp)
        rw [eA, hn, ← hl]
        refine run_convert_bytes_back m.w src dst e ⟨b, o, none⟩ c l hs he hd fun j hj => ?_
        have h1 := RV.relE_at _ o 1 hE j [.u8 l[j]] (by rw [List.getElem?_map, List.getElem?_eq_getElem hj]; rfl)
        obtain ⟨_, h2⟩ := h1
        simp only [RV.relAt] at h2
        obtain ⟨⟨u, k1, _, k3⟩, _⟩ := h2
        simp only [RV.rel] at k3
        rw [add_lit, ← k3, ← k1, Nat.mul_one]
    simp only [execOp, Sem.run_bind, key, Result.andThen]
    rfl)
end
theorem szBytes_ac (a : List UInt8) (left : Int) (h0 : 0 ≤ left) (h1 : left ≤ 1048576) (hl : a.length ≤ maxLen) : ACv Tryz.prog 18 [bytesR a, .int left] (.int (sz1 left a.length)) := by
  unfold maxLen at hl
  refine ac_enter Tryz.func18 rfl _ Tryz.ntmps18 (by simp) fun C hn hm => ?_
  by_cases h : left < (a.length : Int)
  · repeat' (first
 | refine RunsL.step tabOk hn rfl ?_
 | refine RunsL.nil ?_
 | refine Runs.toRegion 30 rfl ?_
 | (refine RunsL.pe hn rfl rfl rfl ?_; first
 | refine ⟨_, pu_sub rfl rfl (by first | omega | (simp only [List.length_map]; omega)), ?_⟩)
 | (refine Runs.ctls 30 rfl ?_; first | ((first | refine Runs.cond_yes rfl ?_ ?_ | refine Runs.cond_nno rfl ?_ ?_); · first | omega | rfl | assumption | (simp only [List.length_map]; omega)) | ((first | refine Runs.cond_no rfl ?_ ?_ | refine Runs.cond_nyes rfl ?_ ?_); · first | omega | rfl | assumption | (simp only [List.length_map]; omega)) | refine Runs.ret (ends_ro hm rfl rfl ?_) | exact Runs.ret (ends_cellR hm rfl rfl rfl (Nat.le_of_ble_eq_true rfl) rfl rfl))
 | (refine RunsL.pe hn rfl rfl rfl ?_; first
 | refine ⟨_, pu_sub rfl rfl (by omega), ?_⟩
      ))
    exact rr_int (sz1_neg h).symm
  · repeat' (first
 | refine RunsL.step tabOk hn rfl ?_
 | refine RunsL.nil ?_
 | refine Runs.toRegion 30 rfl ?_
 | (refine RunsL.pe hn rfl rfl rfl ?_; first
 | refine ⟨_, pu_sub rfl rfl (by first | omega | (simp only [List.length_map]; omega)), ?_⟩)
 | (refine Runs.ctls 30 rfl ?_; first | ((first | refine Runs.cond_yes rfl ?_ ?_ | refine Runs.cond_nno rfl ?_ ?_); · first | omega | rfl | assumption | (simp only [List.length_map]; omega)) | ((first | refine Runs.cond_no rfl ?_ ?_ | refine Runs.cond_nyes rfl ?_ ?_); · first | omega | rfl | assumption | (simp only [List.length_map]; omega)) | refine Runs.ret (ends_ro hm rfl rfl ?_) | exact Runs.ret (ends_cellR hm rfl rfl rfl (Nat.le_of_ble_eq_true rfl) rfl rfl))
 | (refine RunsL.pe hn rfl rfl rfl ?_; first
 | refine ⟨_, pu_sub rfl rfl (by omega), ?_⟩
      ))
    exact rr_int (by rw [sz1_pos (by omega)]; simp)
theorem eqBytes_ac (a : List UInt8) (hl : a.length ≤ maxLen) : ACv Tryz.prog 28 [bytesR a, bytesR a] (.bool true) := by
  unfold maxLen at hl
  refine ac_enter Tryz.func28 rfl _ Tryz.ntmps28 (by simp) fun C hn hm => ?_
  repeat' (first
 | refine RunsL.step tabOk hn rfl ?_
 | refine RunsL.nil ?_
 | refine Runs.toRegion 30 rfl ?_
 | (refine Runs.ctls 30 rfl ?_; first | ((first | refine Runs.cond_yes rfl ?_ ?_ | refine Runs.cond_nno rfl ?_ ?_); · first | omega | rfl | assumption | (simp only [List.length_map]; omega)) | ((first | refine Runs.cond_no rfl ?_ ?_ | refine Runs.cond_nyes rfl ?_ ?_); · first | omega | rfl | assumption | (simp only [List.length_map]; omega)) | refine Runs.ret (ends_ro hm rfl rfl ?_) | exact Runs.ret (ends_cellR hm rfl rfl rfl (Nat.le_of_ble_eq_true rfl) rfl rfl))
 | refine RunsD.step tabOk hn rfl rfl ?_
 | refine RunsD.nil ?_
 | refine Runs.toDraw 30 mixed hn rfl (by kernel_rfl) rfl ?_
 | ((first | refine RunsL.pe hn rfl rfl rfl ?_ | refine RunsD.pe rfl rfl ?_); first
 | refine ⟨_, pu_add rfl rfl (by omega), ?_⟩
 | refine ⟨_, pu_indexAddr_map rfl rfl (by omega) (by assumption), ?_⟩
 | refine ⟨_, pu_sub rfl rfl (by omega), ?_⟩
 | refine ⟨_, pu_pick_b rfl rfl rfl, ?_⟩
 | refine ⟨_, pu_mul rfl rfl (by omega), ?_⟩
 | refine ⟨_, pu_build rfl rfl rfl rfl rfl rfl, ?_⟩))
  refine Runs.loopN 30 rfl (fun j => [(0, .ro (bytesR a)), (1, .ro (bytesR a)), (5, .int (j : Int))]) (fun _ => []) (fun _ => True) a.length 0 (Nat.zero_le _) trivial ⟨rfl, rfl, rfl, trivial⟩ rfl fun j hj _ next => ?_
  by_cases hlt : j < a.length
  · obtain ⟨x, hx⟩ : ∃ x, a[(j : Int).toNat]? = some x := ⟨_, List.getElem?_eq_getElem hlt⟩
    repeat' (first
 | refine RunsL.step tabOk hn rfl ?_
 | refine RunsL.nil ?_
 | refine Runs.toRegion 30 rfl ?_
 | (refine Runs.ctls 30 rfl ?_; first | ((first | refine Runs.cond_yes rfl ?_ ?_ | refine Runs.cond_nno rfl ?_ ?_); · first | omega | rfl | assumption | (simp only [List.length_map]; omega)) | ((first | refine Runs.cond_no rfl ?_ ?_ | refine Runs.cond_nyes rfl ?_ ?_); · first | omega | rfl | assumption | (simp only [List.length_map]; omega)) | refine Runs.ret (ends_ro hm rfl rfl ?_) | exact Runs.ret (ends_cellR hm rfl rfl rfl (Nat.le_of_ble_eq_true rfl) rfl rfl))
 | refine RunsD.step tabOk hn rfl rfl ?_
 | refine RunsD.nil ?_
 | refine Runs.toDraw 30 mixed hn rfl (by kernel_rfl) rfl ?_
 | ((first | refine RunsL.pe hn rfl rfl rfl ?_ | refine RunsD.pe rfl rfl ?_); first
 | refine ⟨_, pu_add rfl rfl (by omega), ?_⟩
 | refine ⟨_, pu_indexAddr_map rfl rfl (by omega) (by assumption), ?_⟩
 | refine ⟨_, pu_sub rfl rfl (by omega), ?_⟩
 | refine ⟨_, pu_pick_b rfl rfl rfl, ?_⟩
 | refine ⟨_, pu_mul rfl rfl (by omega), ?_⟩
 | refine ⟨_, pu_build rfl rfl rfl rfl rfl rfl, ?_⟩))
    exact next _ _ ⟨rfl, rfl, rfl, trivial⟩ hlt trivial rfl
  · repeat' (first
 | refine RunsL.step tabOk hn rfl ?_
 | refine RunsL.nil ?_
 | refine Runs.toRegion 30 rfl ?_
 | (refine Runs.ctls 30 rfl ?_; first | ((first | refine Runs.cond_yes rfl ?_ ?_ | refine Runs.cond_nno rfl ?_ ?_); · first | omega | rfl | assumption | (simp only [List.length_map]; omega)) | ((first | refine Runs.cond_no rfl ?_ ?_ | refine Runs.cond_nyes rfl ?_ ?_); · first | omega | rfl | assumption | (simp only [List.length_map]; omega)) | refine Runs.ret (ends_ro hm rfl rfl ?_) | exact Runs.ret (ends_cellR hm rfl rfl rfl (Nat.le_of_ble_eq_true rfl) rfl rfl))
 | refine RunsD.step tabOk hn rfl rfl ?_
 | refine RunsD.nil ?_
 | refine Runs.toDraw 30 mixed hn rfl (by kernel_rfl) rfl ?_
 | ((first | refine RunsL.pe hn rfl rfl rfl ?_ | refine RunsD.pe rfl rfl ?_); first
 | refine ⟨_, pu_add rfl rfl (by omega), ?_⟩
 | refine ⟨_, pu_indexAddr_map rfl rfl (by omega) (by assumption), ?_⟩
 | refine ⟨_, pu_sub rfl rfl (by omega), ?_⟩
 | refine ⟨_, pu_pick_b rfl rfl rfl, ?_⟩
 | refine ⟨_, pu_mul rfl rfl (by omega), ?_⟩
 | refine ⟨_, pu_build rfl rfl rfl rfl rfl rfl, ?_⟩))
    exact rr_bool rfl
theorem seals_bytes (e : TypeId) (l : List UInt8) : Seals (.row e 1 (l.map RV.u8)) (bytesR l) := by
  have h := seals_row1 e (l.map RV.u8)
  rwa [List.map_map] at h
theorem toBytes_ac (a : List UInt8) (hl : a.length ≤ 4194304) : ACv Tryz.prog 23 [bytesR a] (bytesR a) := by
  refine AC.shut (R := fun rr => rr = .row 5 1 (a.map RV.u8)) ?_ (by rintro _ rfl; exact seals_bytes _ a)
  refine ac_enter Tryz.func23 rfl _ Tryz.ntmps23 (by simp) fun C hn hm => ?_
  repeat' (first
 | refine RunsL.step tabOk hn rfl ?_
 | refine RunsL.nil ?_
 | refine Runs.toRegion 30 rfl ?_
 | refine op_make1 rfl rfl rfl rfl (by first | omega | (simp only [List.length_map]; omega)) (by unfold maxLen; simp only [List.length_map]; omega) (tl hn rfl) ?_
 | (refine Runs.ctls 30 rfl ?_; first | ((first | refine Runs.cond_yes rfl ?_ ?_ | refine Runs.cond_nno rfl ?_ ?_); · first | omega | rfl | assumption | (simp only [List.length_map]; omega)) | ((first | refine Runs.cond_no rfl ?_ ?_ | refine Runs.cond_nyes rfl ?_ ?_); · first | omega | rfl | assumption | (simp only [List.length_map]; omega)) | refine Runs.ret (ends_ro hm rfl rfl ?_) | exact Runs.ret (ends_cellR hm rfl rfl rfl (Nat.le_of_ble_eq_true rfl) rfl rfl))
 | refine op_storeF rfl rfl rfl rfl (Nat.le_of_ble_eq_true rfl) ?_
 | (refine RunsL.pe hn rfl rfl rfl ?_; first
 | refine ⟨_, pu_add rfl rfl (by omega), ?_⟩
 | refine ⟨_, pu_indexAddr_map rfl rfl (by omega) (by assumption), ?_⟩
      ))
  refine Runs.loopN 30 rfl (fun j => [(0, .ro (bytesR a)), (3, .own 0), (4, .int (j : Int))]) (fun j => [⟨5, 1, (a.take j ++ List.replicate (a.length - j) 0).map fun z => .ro (.u8 z)⟩]) (fun _ => True) a.length 0 (Nat.zero_le _) trivial ⟨rfl, rfl, rfl, trivial⟩ (by simp) fun j hj _ next => ?_
  by_cases hlt : j < a.length
  · obtain ⟨x, hx⟩ : ∃ x, a[(j : Int).toNat]? = some x := ⟨_, List.getElem?_eq_getElem hlt⟩
    repeat' (first
 | refine RunsL.step tabOk hn rfl ?_
 | refine RunsL.nil ?_
 | refine Runs.toRegion 30 rfl ?_
 | refine op_storeF rfl rfl rfl rfl (by simp; omega) ?_
 | (refine RunsL.pe hn rfl rfl rfl ?_; first
 | refine ⟨_, pu_indexAddr_own (n := a.length) rfl rfl rfl rfl (by simp; omega) (by omega) (by omega), ?_⟩)
 | (refine Runs.ctls 30 rfl ?_; first | ((first | refine Runs.cond_yes rfl ?_ ?_ | refine Runs.cond_nno rfl ?_ ?_); · first | omega | rfl | assumption | (simp only [List.length_map]; omega)) | ((first | refine Runs.cond_no rfl ?_ ?_ | refine Runs.cond_nyes rfl ?_ ?_); · first | omega | rfl | assumption | (simp only [List.length_map]; omega)) | refine Runs.ret (ends_ro hm rfl rfl ?_) | exact Runs.ret (ends_cellR hm rfl rfl rfl (Nat.le_of_ble_eq_true rfl) rfl rfl))
 | refine op_storeF rfl rfl rfl rfl (Nat.le_of_ble_eq_true rfl) ?_
 | (refine RunsL.pe hn rfl rfl rfl ?_; first
 | refine ⟨_, pu_add rfl rfl (by omega), ?_⟩
 | refine ⟨_, pu_indexAddr_map rfl rfl (by omega) (by assumption), ?_⟩
        ))
    refine next _ _ ⟨rfl, rfl, rfl, trivial⟩ hlt trivial ?_
    have h := take_set a 0 a.length j rfl x hx
    simp only [List.set_cons_zero, Nat.mul_one, Int.toNat_natCast]
    rw [← h, List.map_set]
  · obtain rfl : j = a.length := by omega
    repeat' (first
 | refine RunsL.step tabOk hn rfl ?_
 | refine RunsL.nil ?_
 | refine Runs.toRegion 30 rfl ?_
 | (refine Runs.ctls 30 rfl ?_; first | ((first | refine Runs.cond_yes rfl ?_ ?_ | refine Runs.cond_nno rfl ?_ ?_); · first | omega | rfl | assumption | (simp only [List.length_map]; omega)) | ((first | refine Runs.cond_no rfl ?_ ?_ | refine Runs.cond_nyes rfl ?_ ?_); · first | omega | rfl | assumption | (simp only [List.length_map]; omega)) | refine Runs.ret (ends_ro hm rfl rfl ?_) | exact Runs.ret (ends_cellR hm rfl rfl rfl (Nat.le_of_ble_eq_true rfl) rfl rfl))
 | refine op_storeF rfl rfl rfl rfl (Nat.le_of_ble_eq_true rfl) ?_
 | (refine RunsL.pe hn rfl rfl rfl ?_; first
 | refine ⟨_, pu_add rfl rfl (by omega), ?_⟩
 | refine ⟨_, pu_indexAddr_map rfl rfl (by omega) (by assumption), ?_⟩
        ))
    exact Runs.ctls 30 rfl (Runs.ret (ends_own (rs := a.map RV.u8) hm rfl rfl rfl (by simp) rfl))
theorem u8_ext {x y : UInt8} (h : (x.toNat : Int) = (y.toNat : Int)) : x = y := UInt8.toNat_inj.1 (Int.ofNat_inj.1 h)
end Go.Proofs.YtkmoffefhlmgeaaGreatDoor
/- Sums over lists; integers in a frame. Over any program. -/
namespace Go.Proofs.YtkmoffefhlmgeaaGreatDoor
set_option linter.unusedSimpArgs false
set_option linter.unusedVariables false
set_option linter.unusedSectionVars false
set_option maxRecDepth 100000
open Go.RowKit
section
variable {α : Type} (f : α → Nat)
theorem sum_take_next {l : List α} {j : Nat} {x : α} (hx : l[j]? = some x) : ((l.take (j + 1)).map f).sum = ((l.take j).map f).sum + f x := by
  obtain ⟨hj, rfl⟩ := List.getElem?_eq_some_iff.1 hx
  rw [List.take_succ_eq_append_getElem hj]; simp only [List.map_append, List.map_cons, List.map_nil, List.sum_append, List.sum_cons, List.sum_nil, Nat.add_zero]
theorem sum_take_le (l : List α) (j : Nat) : ((l.take j).map f).sum ≤ (l.map f).sum := by
  have h := congrArg (fun l => (l.map f).sum) (List.take_append_drop j l)
  simp only [List.map_append, List.sum_append] at h
  omega
theorem sum_mem_le {l : List α} {x : α} (h : x ∈ l) : f x ≤ (l.map f).sum := by
  induction l with
  | nil => cases h
  | cons y l ih =>
    rw [List.map_cons, List.sum_cons]
    rcases List.mem_cons.1 h with e | e
    · rw [e]; omega
    · have := ih e; omega
end
theorem av_int {a b : Int} (h : a = b) : AV.int a = AV.int b := by rw [h]
end Go.Proofs.YtkmoffefhlmgeaaGreatDoor
/- Descriptions over values: the laws' helpers on strings, rules and descriptions; opened arguments. -/
namespace Go.Proofs.YtkmoffefhlmgeaaGreatDoor
set_option linter.unusedSimpArgs false
set_option linter.unusedVariables false
set_option linter.unusedSectionVars false
set_option maxRecDepth 100000
open Go.RowKit
structure Rul where
  name : ByteArray
  kind : Int
  size : Int
  little : Bool
  bytes : List UInt8
  names : List ByteArray
  tags : List Int
  kids : List Int
abbrev Des := List Rul
def rulR (r : Rul) : List RV := [.str r.name, .int r.kind, .int r.size, .bool r.little, bytesR r.bytes, strsR r.names, intsR r.tags, intsR r.kids]
def rulsR (d : Des) : RV := .seq 8 (d.map rulR)
def desR (d : Des) : RV := .agg [rulsR d]
theorem rulR_len (r : Rul) : (rulR r).length = 8 := rfl
namespace Rul
def total (r : Rul) : Nat := r.name.size + r.bytes.length + (r.names.length + (r.names.map ByteArray.size).sum) + r.tags.length + r.kids.length
structure Ok (r : Rul) : Prop where
  kind : I64 r.kind
  size : I64 r.size
  tags : ∀ z ∈ r.tags, I64 z
  kids : ∀ z ∈ r.kids, I64 z
  lens : r.name.size ≤ maxLen ∧ r.bytes.length ≤ maxLen ∧ r.names.length ≤ maxLen ∧ (∀ s ∈ r.names, s.size ≤ maxLen) ∧ r.tags.length ≤ maxLen ∧ r.kids.length ≤ maxLen ∧ True
end Rul
def dtotal (d : Des) : Nat := d.length + (d.map Rul.total).sum
structure DesOk (d : Des) : Prop where
  rules : ∀ r ∈ d, r.Ok
  len : d.length ≤ maxLen
theorem rul_of {rcs : List RV} (h : TyC Tryz.prog 68 rcs) : ∃ r : Rul, rcs = rulR r ∧ r.Ok := by
  obtain ⟨cells, rfl, hp⟩ := h.parts Tryz.underlying68
  obtain ⟨c0, _, rfl, h0, c1, _, rfl, h1, c2, _, rfl, h2, c3, _, rfl, h3, c4, _, rfl, h4, c5, _, rfl, h5, c6, _, rfl, h6, c7, _, rfl, h7, rfl⟩ := hp
  obtain ⟨s, rfl, b0⟩ := h0.inv_str Tryz.underlying9
  obtain ⟨n1, rfl, b1⟩ := h1.i64 Tryz.underlying3
  obtain ⟨n2, rfl, b2⟩ := h2.i64 Tryz.underlying3
  obtain ⟨n3, rfl⟩ := h3.inv_bool Tryz.underlying4
  obtain ⟨l4, rfl, b4⟩ := h4.bytes Tryz.underlying25 Tryz.underlying5 (by kernel_rfl)
  obtain ⟨l5, rfl, b5, d5⟩ := h5.strs Tryz.underlying31 Tryz.underlying9 (by kernel_rfl)
  obtain ⟨l6, rfl, b6, d6⟩ := h6.ints Tryz.underlying52 Tryz.underlying3 (by kernel_rfl)
  obtain ⟨l7, rfl, b7, d7⟩ := h7.ints Tryz.underlying52 Tryz.underlying3 (by kernel_rfl)
  exact ⟨⟨s, n1, n2, n3, l4, l5, l6, l7⟩, rfl, ⟨b1, b2, d6, d7, b0, b4, b5, d5, b6, b7, trivial⟩⟩
theorem des_of {rcs : List RV} (h : TyC Tryz.prog 24 rcs) : ∃ d : Des, .agg rcs = desR d ∧ DesOk d := by
  obtain ⟨cells, rfl, hp⟩ := h.parts Tryz.underlying24
  obtain ⟨c0, _, rfl, h0, rfl⟩ := hp
  obtain ⟨els, rfl, hl, hels⟩ := h0.inv_slice Tryz.underlying22
  obtain ⟨l, rfl, hq⟩ := els_of (f := rulR) (Q := Rul.Ok) fun el hel => rul_of (hels el hel)
  have hc : Tryz.prog.cellsOf 68 = 8 := by kernel_rfl
  exact ⟨l, by rw [hc]; rfl, hq, by simpa using hl⟩
section
variable {P : Program} {C : Ctx} {env : Env} {σ : List Ob} {t : Nat} {ty : TypeId} {pos : String} {after : Array Edge} {gd : Option (Nat × Bool)}
theorem pu_neqSame {xt yt : TypeId} {x y : Operand} {s : ByteArray} (hx : ev env x = .str s) (hy : ev env y = .str s) : Pur P C ⟨some t, .binOp .neq xt x y yt, ty, pos, after, gd⟩ env σ (.bool false) := by
  have h := pu_neqS (P := P) (C := C) (σ := σ) (t := t) (ty := ty) (pos := pos) (after := after) (gd := gd) (xt := xt) (yt := yt) hx hy
  have e : (!(s.toList == s.toList)) = false := by simp
  rwa [e] at h
end
theorem szStrs_ac (l : List ByteArray) (left : Int) (h0 : 0 ≤ left) (h1 : left ≤ 1048576) (hl : l.length ≤ maxLen) (ho : ∀ s ∈ l, s.size ≤ maxLen) :
    ACv Tryz.prog 53 [strsR l, .int left] (.int (sz1 left (l.length + (l.map ByteArray.size).sum : Nat))) := by
  unfold maxLen at hl ho
  refine ac_enter Tryz.func53 rfl _ Tryz.ntmps53 (by simp) fun C hn hm => ?_
  by_cases h : left < (l.length : Int)
  · repeat' (first
 | refine RunsL.step tabOk hn rfl ?_
 | refine RunsL.nil ?_
 | refine Runs.toRegion 30 rfl ?_
 | (refine RunsL.pe hn rfl rfl rfl ?_; first
 | refine ⟨_, pu_sub rfl rfl (by first | omega | (simp only [List.length_map]; omega)), ?_⟩)
 | (refine Runs.ctls 30 rfl ?_; first | ((first | refine Runs.cond_yes rfl ?_ ?_ | refine Runs.cond_nno rfl ?_ ?_); · first | omega | rfl | assumption | (simp only [List.length_map]; omega)) | ((first | refine Runs.cond_no rfl ?_ ?_ | refine Runs.cond_nyes rfl ?_ ?_); · first | omega | rfl | assumption | (simp only [List.length_map]; omega)) | refine Runs.ret (ends_ro hm rfl rfl ?_) | exact Runs.ret (ends_cellR hm rfl rfl rfl (Nat.le_of_ble_eq_true rfl) rfl rfl))
 | (refine RunsL.pe hn rfl rfl rfl ?_; first
 | refine ⟨_, pu_add rfl rfl (by omega), ?_⟩
 | refine ⟨_, pu_indexAddr_map rfl rfl (by omega) (by assumption), ?_⟩
 | refine ⟨_, pu_sub rfl rfl (by omega), ?_⟩
      ))
    exact rr_int (sz1_neg (by omega)).symm
  · repeat' (first
 | refine RunsL.step tabOk hn rfl ?_
 | refine RunsL.nil ?_
 | refine Runs.toRegion 30 rfl ?_
 | (refine RunsL.pe hn rfl rfl rfl ?_; first
 | refine ⟨_, pu_sub rfl rfl (by first | omega | (simp only [List.length_map]; omega)), ?_⟩)
 | (refine Runs.ctls 30 rfl ?_; first | ((first | refine Runs.cond_yes rfl ?_ ?_ | refine Runs.cond_nno rfl ?_ ?_); · first | omega | rfl | assumption | (simp only [List.length_map]; omega)) | ((first | refine Runs.cond_no rfl ?_ ?_ | refine Runs.cond_nyes rfl ?_ ?_); · first | omega | rfl | assumption | (simp only [List.length_map]; omega)) | refine Runs.ret (ends_ro hm rfl rfl ?_) | exact Runs.ret (ends_cellR hm rfl rfl rfl (Nat.le_of_ble_eq_true rfl) rfl rfl))
 | (refine RunsL.pe hn rfl rfl rfl ?_; first
 | refine ⟨_, pu_add rfl rfl (by omega), ?_⟩
 | refine ⟨_, pu_indexAddr_map rfl rfl (by omega) (by assumption), ?_⟩
 | refine ⟨_, pu_sub rfl rfl (by omega), ?_⟩
      ))
    refine Runs.loopN 30 rfl (fun j => [(0, .ro (strsR l)), (1, .int (left - l.length - ((l.take j).map ByteArray.size).sum)), (5, .int (j : Int))]) (fun _ => []) (fun j => ((l.take j).map ByteArray.size).sum ≤ left - l.length) l.length 0 (Nat.zero_le _) (by simp; omega) ⟨rfl, by simp [look], rfl, trivial⟩ rfl fun j hj hQ next => ?_
    by_cases hlt : j < l.length
    · obtain ⟨x, hx⟩ : ∃ x, l[(j : Int).toNat]? = some x := ⟨_, List.getElem?_eq_getElem hlt⟩
      have hx' : l[j]? = some x := hx
      have hm' := List.mem_of_getElem? hx'
      have hs := sum_take_next ByteArray.size hx'
      have hle := sum_take_le ByteArray.size l (j + 1)
      have hsz := ho x hm'
      by_cases hz : (left - l.length - ((l.take j).map ByteArray.size).sum) < (x.size : Int)
      · repeat' (first
 | refine RunsL.step tabOk hn rfl ?_
 | refine RunsL.nil ?_
 | refine Runs.toRegion 30 rfl ?_
 | (refine Runs.ctls 30 rfl ?_; first | ((first | refine Runs.cond_yes rfl ?_ ?_ | refine Runs.cond_nno rfl ?_ ?_); · first | omega | rfl | assumption | (simp only [List.length_map]; omega)) | ((first | refine Runs.cond_no rfl ?_ ?_ | refine Runs.cond_nyes rfl ?_ ?_); · first | omega | rfl | assumption | (simp only [List.length_map]; omega)) | refine Runs.ret (ends_ro hm rfl rfl ?_) | exact Runs.ret (ends_cellR hm rfl rfl rfl (Nat.le_of_ble_eq_true rfl) rfl rfl))
 | (refine RunsL.pe hn rfl rfl rfl ?_; first
 | refine ⟨_, pu_add rfl rfl (by omega), ?_⟩
 | refine ⟨_, pu_indexAddr_map rfl rfl (by omega) (by assumption), ?_⟩
 | refine ⟨_, pu_sub rfl rfl (by omega), ?_⟩
          ))
        exact rr_int (sz1_neg (by omega)).symm
      · repeat' (first
 | refine RunsL.step tabOk hn rfl ?_
 | refine RunsL.nil ?_
 | refine Runs.toRegion 30 rfl ?_
 | (refine Runs.ctls 30 rfl ?_; first | ((first | refine Runs.cond_yes rfl ?_ ?_ | refine Runs.cond_nno rfl ?_ ?_); · first | omega | rfl | assumption | (simp only [List.length_map]; omega)) | ((first | refine Runs.cond_no rfl ?_ ?_ | refine Runs.cond_nyes rfl ?_ ?_); · first | omega | rfl | assumption | (simp only [List.length_map]; omega)) | refine Runs.ret (ends_ro hm rfl rfl ?_) | exact Runs.ret (ends_cellR hm rfl rfl rfl (Nat.le_of_ble_eq_true rfl) rfl rfl))
 | (refine RunsL.pe hn rfl rfl rfl ?_; first
 | refine ⟨_, pu_add rfl rfl (by omega), ?_⟩
 | refine ⟨_, pu_indexAddr_map rfl rfl (by omega) (by assumption), ?_⟩
 | refine ⟨_, pu_sub rfl rfl (by omega), ?_⟩
          ))
        refine next _ _ ⟨rfl, ?_, rfl, trivial⟩ hlt (by omega) rfl
        exact av_int (by rw [hs]; omega)
    · repeat' (first
 | refine RunsL.step tabOk hn rfl ?_
 | refine RunsL.nil ?_
 | refine Runs.toRegion 30 rfl ?_
 | (refine Runs.ctls 30 rfl ?_; first | ((first | refine Runs.cond_yes rfl ?_ ?_ | refine Runs.cond_nno rfl ?_ ?_); · first | omega | rfl | assumption | (simp only [List.length_map]; omega)) | ((first | refine Runs.cond_no rfl ?_ ?_ | refine Runs.cond_nyes rfl ?_ ?_); · first | omega | rfl | assumption | (simp only [List.length_map]; omega)) | refine Runs.ret (ends_ro hm rfl rfl ?_) | exact Runs.ret (ends_cellR hm rfl rfl rfl (Nat.le_of_ble_eq_true rfl) rfl rfl))
 | (refine RunsL.pe hn rfl rfl rfl ?_; first
 | refine ⟨_, pu_add rfl rfl (by omega), ?_⟩
 | refine ⟨_, pu_indexAddr_map rfl rfl (by omega) (by assumption), ?_⟩
 | refine ⟨_, pu_sub rfl rfl (by omega), ?_⟩
        ))
      obtain rfl : j = l.length := by omega
      rw [List.take_length] at hQ ⊢
      exact rr_int (by rw [sz1_pos (by omega)]; omega)
theorem eqStrs_ac (a : List ByteArray) (hl : a.length ≤ maxLen) : ACv Tryz.prog 10 [strsR a, strsR a] (.bool true) := by
  unfold maxLen at hl
  refine ac_enter Tryz.func10 rfl _ Tryz.ntmps10 (by simp) fun C hn hm => ?_
  repeat' (first
 | refine RunsL.step tabOk hn rfl ?_
 | refine RunsL.nil ?_
 | refine Runs.toRegion 30 rfl ?_
 | (refine Runs.ctls 30 rfl ?_; first | refine Runs.cond_f rfl ?_ | ((first | refine Runs.cond_yes rfl ?_ ?_ | refine Runs.cond_nno rfl ?_ ?_); · first | omega | rfl | assumption | (simp only [List.length_map]; omega)) | ((first | refine Runs.cond_no rfl ?_ ?_ | refine Runs.cond_nyes rfl ?_ ?_); · first | omega | rfl | assumption | (simp only [List.length_map]; omega)) | refine Runs.ret (ends_ro hm rfl rfl ?_) | exact Runs.ret (ends_cellR hm rfl rfl rfl (Nat.le_of_ble_eq_true rfl) rfl rfl))
 | refine RunsD.step tabOk hn rfl rfl ?_
 | refine RunsD.nil ?_
 | refine Runs.toDraw 30 mixed hn rfl (by kernel_rfl) rfl ?_
 | ((first | refine RunsL.pe hn rfl rfl rfl ?_ | refine RunsD.pe rfl rfl ?_); first
 | refine ⟨_, pu_add rfl rfl (by omega), ?_⟩
 | refine ⟨_, pu_indexAddr_map rfl rfl (by omega) (by assumption), ?_⟩
 | refine ⟨_, pu_sub rfl rfl (by omega), ?_⟩
 | refine ⟨_, pu_pick_b rfl rfl rfl, ?_⟩
 | refine ⟨_, pu_mul rfl rfl (by omega), ?_⟩
 | refine ⟨_, pu_build rfl rfl rfl rfl rfl rfl, ?_⟩))
  refine Runs.loopN 30 rfl (fun j => [(0, .ro (strsR a)), (1, .ro (strsR a)), (5, .int (j : Int))]) (fun _ => []) (fun _ => True) a.length 0 (Nat.zero_le _) trivial ⟨rfl, rfl, rfl, trivial⟩ rfl fun j hj _ next => ?_
  by_cases hlt : j < a.length
  · obtain ⟨x, hx⟩ : ∃ x, a[(j : Int).toNat]? = some x := ⟨_, List.getElem?_eq_getElem hlt⟩
    repeat' (first
 | ((first | refine RunsL.pe hn rfl rfl rfl ?_ | refine RunsD.pe rfl rfl ?_); first
 | refine ⟨_, pu_neqSame rfl rfl, ?_⟩)
 | refine RunsL.step tabOk hn rfl ?_
 | refine RunsL.nil ?_
 | refine Runs.toRegion 30 rfl ?_
 | (refine Runs.ctls 30 rfl ?_; first | refine Runs.cond_f rfl ?_ | ((first | refine Runs.cond_yes rfl ?_ ?_ | refine Runs.cond_nno rfl ?_ ?_); · first | omega | rfl | assumption | (simp only [List.length_map]; omega)) | ((first | refine Runs.cond_no rfl ?_ ?_ | refine Runs.cond_nyes rfl ?_ ?_); · first | omega | rfl | assumption | (simp only [List.length_map]; omega)) | refine Runs.ret (ends_ro hm rfl rfl ?_) | exact Runs.ret (ends_cellR hm rfl rfl rfl (Nat.le_of_ble_eq_true rfl) rfl rfl))
 | refine RunsD.step tabOk hn rfl rfl ?_
 | refine RunsD.nil ?_
 | refine Runs.toDraw 30 mixed hn rfl (by kernel_rfl) rfl ?_
 | ((first | refine RunsL.pe hn rfl rfl rfl ?_ | refine RunsD.pe rfl rfl ?_); first
 | refine ⟨_, pu_add rfl rfl (by omega), ?_⟩
 | refine ⟨_, pu_indexAddr_map rfl rfl (by omega) (by assumption), ?_⟩
 | refine ⟨_, pu_sub rfl rfl (by omega), ?_⟩
 | refine ⟨_, pu_pick_b rfl rfl rfl, ?_⟩
 | refine ⟨_, pu_mul rfl rfl (by omega), ?_⟩
 | refine ⟨_, pu_build rfl rfl rfl rfl rfl rfl, ?_⟩))
    exact next _ _ ⟨rfl, rfl, rfl, trivial⟩ hlt trivial rfl
  · repeat' (first
 | refine RunsL.step tabOk hn rfl ?_
 | refine RunsL.nil ?_
 | refine Runs.toRegion 30 rfl ?_
 | (refine Runs.ctls 30 rfl ?_; first | refine Runs.cond_f rfl ?_ | ((first | refine Runs.cond_yes rfl ?_ ?_ | refine Runs.cond_nno rfl ?_ ?_); · first | omega | rfl | assumption | (simp only [List.length_map]; omega)) | ((first | refine Runs.cond_no rfl ?_ ?_ | refine Runs.cond_nyes rfl ?_ ?_); · first | omega | rfl | assumption | (simp only [List.length_map]; omega)) | refine Runs.ret (ends_ro hm rfl rfl ?_) | exact Runs.ret (ends_cellR hm rfl rfl rfl (Nat.le_of_ble_eq_true rfl) rfl rfl))
 | refine RunsD.step tabOk hn rfl rfl ?_
 | refine RunsD.nil ?_
 | refine Runs.toDraw 30 mixed hn rfl (by kernel_rfl) rfl ?_
 | ((first | refine RunsL.pe hn rfl rfl rfl ?_ | refine RunsD.pe rfl rfl ?_); first
 | refine ⟨_, pu_add rfl rfl (by omega), ?_⟩
 | refine ⟨_, pu_indexAddr_map rfl rfl (by omega) (by assumption), ?_⟩
 | refine ⟨_, pu_sub rfl rfl (by omega), ?_⟩
 | refine ⟨_, pu_pick_b rfl rfl rfl, ?_⟩
 | refine ⟨_, pu_mul rfl rfl (by omega), ?_⟩
 | refine ⟨_, pu_build rfl rfl rfl rfl rfl rfl, ?_⟩))
    exact rr_bool rfl
theorem seals_strs (e : TypeId) (l : List ByteArray) : Seals (.row e 1 (l.map RV.str)) (strsR l) := by
  have h := seals_row1 e (l.map RV.str)
  rwa [List.map_map] at h
theorem toStrs_ac (a : List ByteArray) (hl : a.length ≤ 4194304) : ACv Tryz.prog 59 [strsR a] (strsR a) := by
  refine AC.shut (R := fun rr => rr = .row 9 1 (a.map RV.str)) ?_ (by rintro _ rfl; exact seals_strs _ a)
  refine ac_enter Tryz.func59 rfl _ Tryz.ntmps59 (by simp) fun C hn hm => ?_
  repeat' (first
 | refine RunsL.step tabOk hn rfl ?_
 | refine RunsL.nil ?_
 | refine Runs.toRegion 30 rfl ?_
 | refine op_make1 rfl rfl rfl rfl (by first | omega | (simp only [List.length_map]; omega)) (by unfold maxLen; simp only [List.length_map]; omega) (tl hn rfl) ?_
 | (refine Runs.ctls 30 rfl ?_; first | ((first | refine Runs.cond_yes rfl ?_ ?_ | refine Runs.cond_nno rfl ?_ ?_); · first | omega | rfl | assumption | (simp only [List.length_map]; omega)) | ((first | refine Runs.cond_no rfl ?_ ?_ | refine Runs.cond_nyes rfl ?_ ?_); · first | omega | rfl | assumption | (simp only [List.length_map]; omega)) | refine Runs.ret (ends_ro hm rfl rfl ?_) | exact Runs.ret (ends_cellR hm rfl rfl rfl (Nat.le_of_ble_eq_true rfl) rfl rfl))
 | refine op_storeF rfl rfl rfl rfl (Nat.le_of_ble_eq_true rfl) ?_
 | (refine RunsL.pe hn rfl rfl rfl ?_; first
 | refine ⟨_, pu_add rfl rfl (by omega), ?_⟩
 | refine ⟨_, pu_indexAddr_map rfl rfl (by omega) (by assumption), ?_⟩
      ))
  refine Runs.loopN 30 rfl (fun j => [(0, .ro (strsR a)), (3, .own 0), (4, .int (j : Int))]) (fun j => [⟨9, 1, (a.take j ++ List.replicate (a.length - j) (⟨#[]⟩ : ByteArray)).map fun z => .ro (.str z)⟩]) (fun _ => True) a.length 0 (Nat.zero_le _) trivial ⟨rfl, rfl, rfl, trivial⟩ (by simp) fun j hj _ next => ?_
  by_cases hlt : j < a.length
  · obtain ⟨x, hx⟩ : ∃ x, a[(j : Int).toNat]? = some x := ⟨_, List.getElem?_eq_getElem hlt⟩
    repeat' (first
 | refine RunsL.step tabOk hn rfl ?_
 | refine RunsL.nil ?_
 | refine Runs.toRegion 30 rfl ?_
 | refine op_storeF rfl rfl rfl rfl (by simp; omega) ?_
 | (refine RunsL.pe hn rfl rfl rfl ?_; first
 | refine ⟨_, pu_indexAddr_own (n := a.length) rfl rfl rfl rfl (by simp; omega) (by omega) (by omega), ?_⟩)
 | (refine Runs.ctls 30 rfl ?_; first | ((first | refine Runs.cond_yes rfl ?_ ?_ | refine Runs.cond_nno rfl ?_ ?_); · first | omega | rfl | assumption | (simp only [List.length_map]; omega)) | ((first | refine Runs.cond_no rfl ?_ ?_ | refine Runs.cond_nyes rfl ?_ ?_); · first | omega | rfl | assumption | (simp only [List.length_map]; omega)) | refine Runs.ret (ends_ro hm rfl rfl ?_) | exact Runs.ret (ends_cellR hm rfl rfl rfl (Nat.le_of_ble_eq_true rfl) rfl rfl))
 | refine op_storeF rfl rfl rfl rfl (Nat.le_of_ble_eq_true rfl) ?_
 | (refine RunsL.pe hn rfl rfl rfl ?_; first
 | refine ⟨_, pu_add rfl rfl (by omega), ?_⟩
 | refine ⟨_, pu_indexAddr_map rfl rfl (by omega) (by assumption), ?_⟩
        ))
    refine next _ _ ⟨rfl, rfl, rfl, trivial⟩ hlt trivial ?_
    have h := take_set a (⟨#[]⟩ : ByteArray) a.length j rfl x hx
    simp only [List.set_cons_zero, Nat.mul_one, Int.toNat_natCast]
    rw [← h, List.map_set]
  · obtain rfl : j = a.length := by omega
    repeat' (first
 | refine RunsL.step tabOk hn rfl ?_
 | refine RunsL.nil ?_
 | refine Runs.toRegion 30 rfl ?_
 | (refine Runs.ctls 30 rfl ?_; first | ((first | refine Runs.cond_yes rfl ?_ ?_ | refine Runs.cond_nno rfl ?_ ?_); · first | omega | rfl | assumption | (simp only [List.length_map]; omega)) | ((first | refine Runs.cond_no rfl ?_ ?_ | refine Runs.cond_nyes rfl ?_ ?_); · first | omega | rfl | assumption | (simp only [List.length_map]; omega)) | refine Runs.ret (ends_ro hm rfl rfl ?_) | exact Runs.ret (ends_cellR hm rfl rfl rfl (Nat.le_of_ble_eq_true rfl) rfl rfl))
 | refine op_storeF rfl rfl rfl rfl (Nat.le_of_ble_eq_true rfl) ?_
 | (refine RunsL.pe hn rfl rfl rfl ?_; first
 | refine ⟨_, pu_add rfl rfl (by omega), ?_⟩
 | refine ⟨_, pu_indexAddr_map rfl rfl (by omega) (by assumption), ?_⟩
        ))
    exact Runs.ctls 30 rfl (Runs.ret (ends_own (rs := a.map RV.str) hm rfl rfl rfl (by simp) rfl))
set_option maxHeartbeats 4000000 in
theorem szRul_ac (r : Rul) (left : Int) (h0 : 0 ≤ left) (h1 : left ≤ 1048576) (ho : r.Ok) : ACv Tryz.prog 34 [.agg (rulR r), .int left] (.int (sz1 left r.total)) := by
  obtain ⟨o1, o2, o3, o4, o5, o6, o7⟩ := ho.lens
  have et : r.total = r.name.size + r.bytes.length + (r.names.length + (r.names.map ByteArray.size).sum) + r.tags.length + r.kids.length := rfl
  unfold maxLen at o1
  refine ac_enter Tryz.func34 rfl _ Tryz.ntmps34 (by simp) fun C hn hm => ?_
  by_cases q0 : left < (r.name.size : Int)
  · skip
    repeat' (first
 | refine RunsL.step tabOk hn rfl ?_
 | refine RunsL.nil ?_
 | refine Runs.toRegion 30 rfl ?_
 | (refine RunsL.pe hn rfl rfl rfl ?_; first
 | refine ⟨_, pu_sub rfl rfl (by omega), ?_⟩)
 | (refine Runs.ctls 30 rfl ?_; first | refine Runs.cond_t rfl ?_ | ((first | refine Runs.cond_yes rfl ?_ ?_ | refine Runs.cond_nno rfl ?_ ?_); · first | omega | rfl | assumption | (simp only [List.length_map]; omega)) | ((first | refine Runs.cond_no rfl ?_ ?_ | refine Runs.cond_nyes rfl ?_ ?_); · first | omega | rfl | assumption | (simp only [List.length_map]; omega)) | refine Runs.ret (ends_ro hm rfl rfl ?_) | exact Runs.ret (ends_cellR hm rfl rfl rfl (Nat.le_of_ble_eq_true rfl) rfl rfl))
 | refine op_box rfl (tl hn rfl) ?_
 | (refine RunsL.pe hn rfl rfl rfl ?_; first
 | refine ⟨_, pu_sub rfl rfl (by omega), ?_⟩
        ))
    exact rr_int (sz1_neg (by omega)).symm
  · skip
    have c1 := szBytes_ac r.bytes (left - r.name.size) (by omega) (by omega) o2
    by_cases q1 : left - r.name.size < (r.bytes.length : Int)
    · rw [sz1_neg q1] at c1
      repeat' (first
 | refine RunsL.step tabOk hn rfl ?_
 | refine RunsL.nil ?_
 | refine Runs.toRegion 30 rfl ?_
 | (refine RunsL.pe hn rfl rfl rfl ?_; first
 | refine ⟨_, pu_sub rfl rfl (by omega), ?_⟩
 | refine ⟨_, pu_callR c1 rfl, ?_⟩)
 | (refine Runs.ctls 30 rfl ?_; first | refine Runs.cond_t rfl ?_ | ((first | refine Runs.cond_yes rfl ?_ ?_ | refine Runs.cond_nno rfl ?_ ?_); · first | omega | rfl | assumption | (simp only [List.length_map]; omega)) | ((first | refine Runs.cond_no rfl ?_ ?_ | refine Runs.cond_nyes rfl ?_ ?_); · first | omega | rfl | assumption | (simp only [List.length_map]; omega)) | refine Runs.ret (ends_ro hm rfl rfl ?_) | exact Runs.ret (ends_cellR hm rfl rfl rfl (Nat.le_of_ble_eq_true rfl) rfl rfl))
 | refine op_box rfl (tl hn rfl) ?_
 | (refine RunsL.pe hn rfl rfl rfl ?_; first
 | refine ⟨_, pu_sub rfl rfl (by omega), ?_⟩
          ))
      exact rr_int (sz1_neg (by omega)).symm
    · rw [sz1_pos (by omega)] at c1
      have c2 := szStrs_ac r.names (left - r.name.size - r.bytes.length) (by omega) (by omega) o3 o4
      by_cases q2 : left - r.name.size - r.bytes.length < ((r.names.length + (r.names.map ByteArray.size).sum : Nat) : Int)
      · rw [sz1_neg q2] at c2
        repeat' (first
 | refine RunsL.step tabOk hn rfl ?_
 | refine RunsL.nil ?_
 | refine Runs.toRegion 30 rfl ?_
 | (refine RunsL.pe hn rfl rfl rfl ?_; first
 | refine ⟨_, pu_sub rfl rfl (by omega), ?_⟩
 | refine ⟨_, pu_callR c1 rfl, ?_⟩
 | refine ⟨_, pu_callR c2 rfl, ?_⟩)
 | (refine Runs.ctls 30 rfl ?_; first | refine Runs.cond_t rfl ?_ | ((first | refine Runs.cond_yes rfl ?_ ?_ | refine Runs.cond_nno rfl ?_ ?_); · first | omega | rfl | assumption | (simp only [List.length_map]; omega)) | ((first | refine Runs.cond_no rfl ?_ ?_ | refine Runs.cond_nyes rfl ?_ ?_); · first | omega | rfl | assumption | (simp only [List.length_map]; omega)) | refine Runs.ret (ends_ro hm rfl rfl ?_) | exact Runs.ret (ends_cellR hm rfl rfl rfl (Nat.le_of_ble_eq_true rfl) rfl rfl))
 | refine op_box rfl (tl hn rfl) ?_
 | (refine RunsL.pe hn rfl rfl rfl ?_; first
 | refine ⟨_, pu_sub rfl rfl (by omega), ?_⟩
            ))
        exact rr_int (sz1_neg (by omega)).symm
      · rw [sz1_pos (by omega)] at c2
        have c3 := szInts_ac r.tags (left - r.name.size - r.bytes.length - (r.names.length + (r.names.map ByteArray.size).sum : Nat)) (by omega) (by omega) o5
        by_cases q3 : left - r.name.size - r.bytes.length - (r.names.length + (r.names.map ByteArray.size).sum : Nat) < (r.tags.length : Int)
        · rw [sz1_neg q3] at c3
          repeat' (first
 | refine RunsL.step tabOk hn rfl ?_
 | refine RunsL.nil ?_
 | refine Runs.toRegion 30 rfl ?_
 | (refine RunsL.pe hn rfl rfl rfl ?_; first
 | refine ⟨_, pu_sub rfl rfl (by omega), ?_⟩
 | refine ⟨_, pu_callR c1 rfl, ?_⟩
 | refine ⟨_, pu_callR c2 rfl, ?_⟩
 | refine ⟨_, pu_callR c3 rfl, ?_⟩)
 | (refine Runs.ctls 30 rfl ?_; first | refine Runs.cond_t rfl ?_ | ((first | refine Runs.cond_yes rfl ?_ ?_ | refine Runs.cond_nno rfl ?_ ?_); · first | omega | rfl | assumption | (simp only [List.length_map]; omega)) | ((first | refine Runs.cond_no rfl ?_ ?_ | refine Runs.cond_nyes rfl ?_ ?_); · first | omega | rfl | assumption | (simp only [List.length_map]; omega)) | refine Runs.ret (ends_ro hm rfl rfl ?_) | exact Runs.ret (ends_cellR hm rfl rfl rfl (Nat.le_of_ble_eq_true rfl) rfl rfl))
 | refine op_box rfl (tl hn rfl) ?_
 | (refine RunsL.pe hn rfl rfl rfl ?_; first
 | refine ⟨_, pu_sub rfl rfl (by omega), ?_⟩
              ))
          exact rr_int (sz1_neg (by omega)).symm
        · rw [sz1_pos (by omega)] at c3
          have c4 := szInts_ac r.kids (left - r.name.size - r.bytes.length - (r.names.length + (r.names.map ByteArray.size).sum : Nat) - r.tags.length) (by omega) (by omega) o6
          by_cases q4 : left - r.name.size - r.bytes.length - (r.names.length + (r.names.map ByteArray.size).sum : Nat) - r.tags.length < (r.kids.length : Int)
          · rw [sz1_neg q4] at c4
            repeat' (first
 | refine RunsL.step tabOk hn rfl ?_
 | refine RunsL.nil ?_
 | refine Runs.toRegion 30 rfl ?_
 | (refine RunsL.pe hn rfl rfl rfl ?_; first
 | refine ⟨_, pu_sub rfl rfl (by omega), ?_⟩
 | refine ⟨_, pu_callR c1 rfl, ?_⟩
 | refine ⟨_, pu_callR c2 rfl, ?_⟩
 | refine ⟨_, pu_callR c3 rfl, ?_⟩
 | refine ⟨_, pu_callR c4 rfl, ?_⟩)
 | (refine Runs.ctls 30 rfl ?_; first | refine Runs.cond_t rfl ?_ | ((first | refine Runs.cond_yes rfl ?_ ?_ | refine Runs.cond_nno rfl ?_ ?_); · first | omega | rfl | assumption | (simp only [List.length_map]; omega)) | ((first | refine Runs.cond_no rfl ?_ ?_ | refine Runs.cond_nyes rfl ?_ ?_); · first | omega | rfl | assumption | (simp only [List.length_map]; omega)) | refine Runs.ret (ends_ro hm rfl rfl ?_) | exact Runs.ret (ends_cellR hm rfl rfl rfl (Nat.le_of_ble_eq_true rfl) rfl rfl))
 | refine op_box rfl (tl hn rfl) ?_
 | (refine RunsL.pe hn rfl rfl rfl ?_; first
 | refine ⟨_, pu_sub rfl rfl (by omega), ?_⟩
                ))
            exact rr_int (sz1_neg (by omega)).symm
          · rw [sz1_pos (by omega)] at c4
            repeat' (first
 | refine RunsL.step tabOk hn rfl ?_
 | refine RunsL.nil ?_
 | refine Runs.toRegion 30 rfl ?_
 | (refine RunsL.pe hn rfl rfl rfl ?_; first
 | refine ⟨_, pu_sub rfl rfl (by omega), ?_⟩
 | refine ⟨_, pu_callR c1 rfl, ?_⟩
 | refine ⟨_, pu_callR c2 rfl, ?_⟩
 | refine ⟨_, pu_callR c3 rfl, ?_⟩
 | refine ⟨_, pu_callR c4 rfl, ?_⟩)
 | (refine Runs.ctls 30 rfl ?_; first | refine Runs.cond_t rfl ?_ | ((first | refine Runs.cond_yes rfl ?_ ?_ | refine Runs.cond_nno rfl ?_ ?_); · first | omega | rfl | assumption | (simp only [List.length_map]; omega)) | ((first | refine Runs.cond_no rfl ?_ ?_ | refine Runs.cond_nyes rfl ?_ ?_); · first | omega | rfl | assumption | (simp only [List.length_map]; omega)) | refine Runs.ret (ends_ro hm rfl rfl ?_) | exact Runs.ret (ends_cellR hm rfl rfl rfl (Nat.le_of_ble_eq_true rfl) rfl rfl))
 | refine op_box rfl (tl hn rfl) ?_
 | (refine RunsL.pe hn rfl rfl rfl ?_; first
 | refine ⟨_, pu_sub rfl rfl (by omega), ?_⟩
                ))
            exact rr_int (by rw [sz1_pos (by omega)]; omega)
theorem szRuls_ac (l : Des) (left : Int) (h0 : 0 ≤ left) (h1 : left ≤ 1048576) (ho : DesOk l) : ACv Tryz.prog 17 [rulsR l, .int left] (.int (sz1 left (dtotal l))) := by
  have hl := ho.len
  have et : dtotal l = l.length + (l.map Rul.total).sum := rfl
  unfold maxLen at hl
  refine ac_enter Tryz.func17 rfl _ Tryz.ntmps17 (by simp) fun C hn hm => ?_
  by_cases h : left < (l.length : Int)
  · repeat' (first
 | refine RunsL.step tabOk hn rfl ?_
 | refine RunsL.nil ?_
 | refine Runs.toRegion 30 rfl ?_
 | (refine RunsL.pe hn rfl rfl rfl ?_; first
 | refine ⟨_, pu_sub rfl rfl (by first | omega | (simp only [List.length_map]; omega)), ?_⟩)
 | (refine Runs.ctls 30 rfl ?_; first | refine Runs.cond_t rfl ?_ | ((first | refine Runs.cond_yes rfl ?_ ?_ | refine Runs.cond_nno rfl ?_ ?_); · first | omega | rfl | assumption | (simp only [List.length_map]; omega)) | ((first | refine Runs.cond_no rfl ?_ ?_ | refine Runs.cond_nyes rfl ?_ ?_); · first | omega | rfl | assumption | (simp only [List.length_map]; omega)) | refine Runs.ret (ends_ro hm rfl rfl ?_) | exact Runs.ret (ends_cellR hm rfl rfl rfl (Nat.le_of_ble_eq_true rfl) rfl rfl))
 | (refine RunsL.pe hn rfl rfl rfl ?_; first
 | refine ⟨_, pu_add rfl rfl (by omega), ?_⟩
 | refine ⟨_, pu_indexAddr_map rfl rfl (by omega) (by assumption), ?_⟩
 | refine ⟨_, pu_sub rfl rfl (by omega), ?_⟩
      ))
    exact rr_int (sz1_neg (by omega)).symm
  · repeat' (first
 | refine RunsL.step tabOk hn rfl ?_
 | refine RunsL.nil ?_
 | refine Runs.toRegion 30 rfl ?_
 | (refine RunsL.pe hn rfl rfl rfl ?_; first
 | refine ⟨_, pu_sub rfl rfl (by first | omega | (simp only [List.length_map]; omega)), ?_⟩)
 | (refine Runs.ctls 30 rfl ?_; first | refine Runs.cond_t rfl ?_ | ((first | refine Runs.cond_yes rfl ?_ ?_ | refine Runs.cond_nno rfl ?_ ?_); · first | omega | rfl | assumption | (simp only [List.length_map]; omega)) | ((first | refine Runs.cond_no rfl ?_ ?_ | refine Runs.cond_nyes rfl ?_ ?_); · first | omega | rfl | assumption | (simp only [List.length_map]; omega)) | refine Runs.ret (ends_ro hm rfl rfl ?_) | exact Runs.ret (ends_cellR hm rfl rfl rfl (Nat.le_of_ble_eq_true rfl) rfl rfl))
 | (refine RunsL.pe hn rfl rfl rfl ?_; first
 | refine ⟨_, pu_add rfl rfl (by omega), ?_⟩
 | refine ⟨_, pu_indexAddr_map rfl rfl (by omega) (by assumption), ?_⟩
 | refine ⟨_, pu_sub rfl rfl (by omega), ?_⟩
      ))
    refine Runs.loopN 30 rfl (fun j => [(0, .ro (rulsR l)), (1, .int (left - l.length - ((l.take j).map Rul.total).sum)), (5, .int (j : Int))]) (fun _ => []) (fun j => ((l.take j).map Rul.total).sum ≤ left - l.length) l.length 0 (Nat.zero_le _) (by simp; omega) ⟨rfl, by simp [look], rfl, trivial⟩ rfl fun j hj hQ next => ?_
    by_cases hlt : j < l.length
    · obtain ⟨x, hx⟩ : ∃ x, l[(j : Int).toNat]? = some x := ⟨_, List.getElem?_eq_getElem hlt⟩
      have hx' : l[j]? = some x := hx
      have hm' := List.mem_of_getElem? hx'
      have hs := sum_take_next Rul.total hx'
      have hle := sum_take_le Rul.total l (j + 1)
      have hcall := szRul_ac x (left - l.length - ((l.take j).map Rul.total).sum) (by omega) (by omega) (ho.rules x hm')
      by_cases hz : (left - l.length - ((l.take j).map Rul.total).sum) < (x.total : Int)
      · rw [sz1_neg hz] at hcall
        repeat' (first
 | refine RunsL.step tabOk hn rfl ?_
 | refine RunsL.nil ?_
 | refine Runs.toRegion 30 rfl ?_
 | (refine RunsL.pe hn rfl rfl rfl ?_; first
 | refine ⟨_, pu_callR hcall rfl, ?_⟩)
 | (refine Runs.ctls 30 rfl ?_; first | refine Runs.cond_t rfl ?_ | ((first | refine Runs.cond_yes rfl ?_ ?_ | refine Runs.cond_nno rfl ?_ ?_); · first | omega | rfl | assumption | (simp only [List.length_map]; omega)) | ((first | refine Runs.cond_no rfl ?_ ?_ | refine Runs.cond_nyes rfl ?_ ?_); · first | omega | rfl | assumption | (simp only [List.length_map]; omega)) | refine Runs.ret (ends_ro hm rfl rfl ?_) | exact Runs.ret (ends_cellR hm rfl rfl rfl (Nat.le_of_ble_eq_true rfl) rfl rfl))
 | (refine RunsL.pe hn rfl rfl rfl ?_; first
 | refine ⟨_, pu_add rfl rfl (by omega), ?_⟩
 | refine ⟨_, pu_indexAddr_map rfl rfl (by omega) (by assumption), ?_⟩
 | refine ⟨_, pu_sub rfl rfl (by omega), ?_⟩
            ))
        exact rr_int (sz1_neg (by omega)).symm
      · rw [sz1_pos (by omega)] at hcall
        repeat' (first
 | refine RunsL.step tabOk hn rfl ?_
 | refine RunsL.nil ?_
 | refine Runs.toRegion 30 rfl ?_
 | (refine RunsL.pe hn rfl rfl rfl ?_; first
 | refine ⟨_, pu_callR hcall rfl, ?_⟩)
 | (refine Runs.ctls 30 rfl ?_; first | refine Runs.cond_t rfl ?_ | ((first | refine Runs.cond_yes rfl ?_ ?_ | refine Runs.cond_nno rfl ?_ ?_); · first | omega | rfl | assumption | (simp only [List.length_map]; omega)) | ((first | refine Runs.cond_no rfl ?_ ?_ | refine Runs.cond_nyes rfl ?_ ?_); · first | omega | rfl | assumption | (simp only [List.length_map]; omega)) | refine Runs.ret (ends_ro hm rfl rfl ?_) | exact Runs.ret (ends_cellR hm rfl rfl rfl (Nat.le_of_ble_eq_true rfl) rfl rfl))
 | (refine RunsL.pe hn rfl rfl rfl ?_; first
 | refine ⟨_, pu_add rfl rfl (by omega), ?_⟩
 | refine ⟨_, pu_indexAddr_map rfl rfl (by omega) (by assumption), ?_⟩
 | refine ⟨_, pu_sub rfl rfl (by omega), ?_⟩
            ))
        refine next _ _ ⟨rfl, ?_, rfl, trivial⟩ hlt (by omega) rfl
        exact av_int (by rw [hs]; omega)
    · repeat' (first
 | refine RunsL.step tabOk hn rfl ?_
 | refine RunsL.nil ?_
 | refine Runs.toRegion 30 rfl ?_
 | (refine Runs.ctls 30 rfl ?_; first | refine Runs.cond_t rfl ?_ | ((first | refine Runs.cond_yes rfl ?_ ?_ | refine Runs.cond_nno rfl ?_ ?_); · first | omega | rfl | assumption | (simp only [List.length_map]; omega)) | ((first | refine Runs.cond_no rfl ?_ ?_ | refine Runs.cond_nyes rfl ?_ ?_); · first | omega | rfl | assumption | (simp only [List.length_map]; omega)) | refine Runs.ret (ends_ro hm rfl rfl ?_) | exact Runs.ret (ends_cellR hm rfl rfl rfl (Nat.le_of_ble_eq_true rfl) rfl rfl))
 | (refine RunsL.pe hn rfl rfl rfl ?_; first
 | refine ⟨_, pu_add rfl rfl (by omega), ?_⟩
 | refine ⟨_, pu_indexAddr_map rfl rfl (by omega) (by assumption), ?_⟩
 | refine ⟨_, pu_sub rfl rfl (by omega), ?_⟩
        ))
      obtain rfl : j = l.length := by omega
      rw [List.take_length] at hQ ⊢
      exact rr_int (by rw [sz1_pos (by omega)]; omega)
theorem szDes_ac (d : Des) (left : Int) (h0 : 0 ≤ left) (h1 : left ≤ 1048576) (ho : DesOk d) : ACv Tryz.prog 4 [desR d, .int left] (.int (sz1 left (dtotal d))) := by
  have hr := szRuls_ac d left h0 h1 ho
  refine ac_enter Tryz.func4 rfl _ Tryz.ntmps4 (by simp) fun C hn hm => ?_
  by_cases h : left < (dtotal d : Int)
  · rw [sz1_neg h] at hr ⊢
    repeat' (first
 | refine RunsL.step tabOk hn rfl ?_
 | refine RunsL.nil ?_
 | refine Runs.toRegion 30 rfl ?_
 | (refine RunsL.pe hn rfl rfl rfl ?_; first
 | refine ⟨_, pu_callR hr rfl, ?_⟩)
 | (refine Runs.ctls 30 rfl ?_; first | refine Runs.cond_t rfl ?_ | ((first | refine Runs.cond_yes rfl ?_ ?_ | refine Runs.cond_nno rfl ?_ ?_); · first | omega | rfl | assumption | (simp only [List.length_map]; omega)) | ((first | refine Runs.cond_no rfl ?_ ?_ | refine Runs.cond_nyes rfl ?_ ?_); · first | omega | rfl | assumption | (simp only [List.length_map]; omega)) | refine Runs.ret (ends_ro hm rfl rfl ?_) | exact Runs.ret (ends_cellR hm rfl rfl rfl (Nat.le_of_ble_eq_true rfl) rfl rfl))
 | refine op_box rfl (tl hn rfl) ?_
      )
    exact rr_int rfl
  · rw [sz1_pos (by omega)] at hr ⊢
    repeat' (first
 | refine RunsL.step tabOk hn rfl ?_
 | refine RunsL.nil ?_
 | refine Runs.toRegion 30 rfl ?_
 | (refine RunsL.pe hn rfl rfl rfl ?_; first
 | refine ⟨_, pu_callR hr rfl, ?_⟩)
 | (refine Runs.ctls 30 rfl ?_; first | refine Runs.cond_t rfl ?_ | ((first | refine Runs.cond_yes rfl ?_ ?_ | refine Runs.cond_nno rfl ?_ ?_); · first | omega | rfl | assumption | (simp only [List.length_map]; omega)) | ((first | refine Runs.cond_no rfl ?_ ?_ | refine Runs.cond_nyes rfl ?_ ?_); · first | omega | rfl | assumption | (simp only [List.length_map]; omega)) | refine Runs.ret (ends_ro hm rfl rfl ?_) | exact Runs.ret (ends_cellR hm rfl rfl rfl (Nat.le_of_ble_eq_true rfl) rfl rfl))
 | refine op_box rfl (tl hn rfl) ?_
      )
    exact rr_int rfl
set_option maxHeartbeats 4000000 in
theorem toRul_ac (r : Rul) (h : r.total ≤ 1048576) : ACv Tryz.prog 41 [.agg (rulR r)] (.agg (rulR r)) := by
  have et : r.total = r.name.size + r.bytes.length + (r.names.length + (r.names.map ByteArray.size).sum) + r.tags.length + r.kids.length := rfl
  refine ac_enter Tryz.func41 rfl _ Tryz.ntmps41 (by simp) fun C hn hm => ?_
  repeat' (first
 | refine RunsL.step tabOk hn rfl ?_
 | refine RunsL.nil ?_
 | refine Runs.toRegion 30 rfl ?_
 | (refine RunsL.pe hn rfl rfl rfl ?_; first
 | refine ⟨_, pu_callR (toBytes_ac r.bytes (by omega)) rfl, ?_⟩
 | refine ⟨_, pu_callR (toStrs_ac r.names (by omega)) rfl, ?_⟩
 | refine ⟨_, pu_callR (toInts_ac r.tags (by omega)) rfl, ?_⟩
 | refine ⟨_, pu_callR (toInts_ac r.kids (by omega)) rfl, ?_⟩)
 | (refine Runs.ctls 30 rfl ?_; first | ((first | refine Runs.cond_yes rfl ?_ ?_ | refine Runs.cond_nno rfl ?_ ?_); · first | omega | rfl | assumption | (simp only [List.length_map]; omega)) | ((first | refine Runs.cond_no rfl ?_ ?_ | refine Runs.cond_nyes rfl ?_ ?_); · first | omega | rfl | assumption | (simp only [List.length_map]; omega)) | refine Runs.ret (ends_ro hm rfl rfl ?_) | exact Runs.ret (ends_cellR hm rfl rfl rfl (Nat.le_of_ble_eq_true rfl) rfl rfl))
 | refine op_box rfl (tl hn rfl) ?_
 | refine op_storeF rfl rfl rfl rfl (Nat.le_of_ble_eq_true rfl) ?_
 | refine op_alloc (tl hn rfl) ?_
 | refine op_storeN rfl rfl rfl rfl (Nat.le_of_ble_eq_true rfl) ?_
    )
theorem toRuls_ac (l : Des) (ht : dtotal l ≤ 1048576) : ACv Tryz.prog 22 [rulsR l] (rulsR l) := by
  have hl' : (l.map rulR).length = l.length := List.length_map ..
  have et : dtotal l = l.length + (l.map Rul.total).sum := rfl
  refine ac_enter Tryz.func22 rfl _ Tryz.ntmps22 (by simp) fun C hn hm => ?_
  repeat' (first
 | refine RunsL.step tabOk hn rfl ?_
 | refine RunsL.nil ?_
 | refine Runs.toRegion 30 rfl ?_
 | refine op_makeN (zs := [.string ⟨#[]⟩, .int .i64 0, .int .i64 0, .bool false, .slice none 0 0, .slice none 0 0, .slice none 0 0, .slice none 0 0]) rfl rfl rfl rfl (by decide) rfl (by omega) (by unfold maxLen; omega) (tl hn rfl) ?_
 | (refine Runs.ctls 30 rfl ?_; first | ((first | refine Runs.cond_yes rfl ?_ ?_ | refine Runs.cond_nno rfl ?_ ?_); · first | omega | rfl | assumption | (simp only [List.length_map]; omega)) | ((first | refine Runs.cond_no rfl ?_ ?_ | refine Runs.cond_nyes rfl ?_ ?_); · first | omega | rfl | assumption | (simp only [List.length_map]; omega)) | refine Runs.ret (ends_ro hm rfl rfl ?_) | exact Runs.ret (ends_cellR hm rfl rfl rfl (Nat.le_of_ble_eq_true rfl) rfl rfl))
 | refine op_storeN rfl rfl rfl rfl (Nat.le_of_ble_eq_true rfl) ?_
 | (refine RunsL.pe hn rfl rfl rfl ?_; first
 | refine ⟨_, pu_add rfl rfl (by omega), ?_⟩
 | refine ⟨_, pu_indexAddr_map rfl rfl (by omega) (by assumption), ?_⟩
      ))
  refine Runs.loopN 30 rfl (fun j => [(0, .ro (rulsR l)), (3, .own 0), (4, .int (j : Int))]) (fun j => [⟨54, 8, (filled rulR [.str ⟨#[]⟩, .int 0, .int 0, .bool false, .nil, .nil, .nil, .nil] l j).map .ro⟩]) (fun _ => True) l.length 0 (Nat.zero_le _) trivial ⟨rfl, rfl, rfl, trivial⟩ (by rw [filled_zero, hl']; rfl) fun j hj _ next => ?_
  have hlen := filled_len rulR_len (zc := [.str ⟨#[]⟩, .int 0, .int 0, .bool false, .nil, .nil, .nil, .nil]) rfl l j hj
  by_cases hlt : j < l.length
  · obtain ⟨x, hx⟩ : ∃ x, l[(j : Int).toNat]? = some x := ⟨_, List.getElem?_eq_getElem hlt⟩
    have hm' := List.mem_of_getElem? hx
    have hcall := toRul_ac x (by have := sum_mem_le Rul.total hm'; omega)
    repeat' (first
 | refine RunsL.step tabOk hn rfl ?_
 | refine RunsL.nil ?_
 | refine Runs.toRegion 30 rfl ?_
 | refine op_storeN rfl rfl rfl rfl (by simp only [List.length_map, rulR_len]; omega) ?_
 | (refine RunsL.pe hn rfl rfl rfl ?_; first
 | refine ⟨_, pu_callR hcall rfl, ?_⟩
 | refine ⟨_, pu_indexAddr_own (n := l.length) rfl rfl rfl rfl (by simp only [List.length_map]; omega) (by omega) (by omega), ?_⟩)
 | (refine Runs.ctls 30 rfl ?_; first | ((first | refine Runs.cond_yes rfl ?_ ?_ | refine Runs.cond_nno rfl ?_ ?_); · first | omega | rfl | assumption | (simp only [List.length_map]; omega)) | ((first | refine Runs.cond_no rfl ?_ ?_ | refine Runs.cond_nyes rfl ?_ ?_); · first | omega | rfl | assumption | (simp only [List.length_map]; omega)) | refine Runs.ret (ends_ro hm rfl rfl ?_) | exact Runs.ret (ends_cellR hm rfl rfl rfl (Nat.le_of_ble_eq_true rfl) rfl rfl))
 | refine op_storeN rfl rfl rfl rfl (Nat.le_of_ble_eq_true rfl) ?_
 | (refine RunsL.pe hn rfl rfl rfl ?_; first
 | refine ⟨_, pu_add rfl rfl (by omega), ?_⟩
 | refine ⟨_, pu_indexAddr_map rfl rfl (by omega) (by assumption), ?_⟩
        ))
    refine next _ _ ⟨rfl, rfl, rfl, trivial⟩ hlt trivial ?_
    rw [← filled_set rulR_len rfl l j x hx]
    rfl
  · obtain rfl : j = l.length := by omega
    repeat' (first
 | refine RunsL.step tabOk hn rfl ?_
 | refine RunsL.nil ?_
 | refine Runs.toRegion 30 rfl ?_
 | (refine Runs.ctls 30 rfl ?_; first | ((first | refine Runs.cond_yes rfl ?_ ?_ | refine Runs.cond_nno rfl ?_ ?_); · first | omega | rfl | assumption | (simp only [List.length_map]; omega)) | ((first | refine Runs.cond_no rfl ?_ ?_ | refine Runs.cond_nyes rfl ?_ ?_); · first | omega | rfl | assumption | (simp only [List.length_map]; omega)) | refine Runs.ret (ends_ro hm rfl rfl ?_) | exact Runs.ret (ends_cellR hm rfl rfl rfl (Nat.le_of_ble_eq_true rfl) rfl rfl))
 | refine op_storeN rfl rfl rfl rfl (Nat.le_of_ble_eq_true rfl) ?_
 | (refine RunsL.pe hn rfl rfl rfl ?_; first
 | refine ⟨_, pu_add rfl rfl (by omega), ?_⟩
 | refine ⟨_, pu_indexAddr_map rfl rfl (by omega) (by assumption), ?_⟩
        ))
    exact Runs.ctls 30 rfl (Runs.ret (ends_ownR (els := l.map rulR) hm rfl rfl rfl rfl (by rw [filled_full]) (by simp [rulR_len])))
theorem toDes_ac (d : Des) (ht : dtotal d ≤ 1048576) : ACv Tryz.prog 7 [desR d] (desR d) := by
  refine ac_enter Tryz.func7 rfl _ Tryz.ntmps7 (by simp) fun C hn hm => ?_
  repeat' (first
 | refine RunsL.step tabOk hn rfl ?_
 | refine RunsL.nil ?_
 | refine Runs.toRegion 30 rfl ?_
 | (refine RunsL.pe hn rfl rfl rfl ?_; first
 | refine ⟨_, pu_callR (toRuls_ac d ht) rfl, ?_⟩)
 | (refine Runs.ctls 30 rfl ?_; first | ((first | refine Runs.cond_yes rfl ?_ ?_ | refine Runs.cond_nno rfl ?_ ?_); · first | omega | rfl | assumption | (simp only [List.length_map]; omega)) | ((first | refine Runs.cond_no rfl ?_ ?_ | refine Runs.cond_nyes rfl ?_ ?_); · first | omega | rfl | assumption | (simp only [List.length_map]; omega)) | refine Runs.ret (ends_ro hm rfl rfl ?_) | exact Runs.ret (ends_cellR hm rfl rfl rfl (Nat.le_of_ble_eq_true rfl) rfl rfl))
 | refine op_box rfl (tl hn rfl) ?_
 | refine op_storeF rfl rfl rfl rfl (Nat.le_of_ble_eq_true rfl) ?_
 | refine op_alloc (tl hn rfl) ?_
 | refine op_storeN rfl rfl rfl rfl (Nat.le_of_ble_eq_true rfl) ?_
    )
set_option maxHeartbeats 4000000 in
theorem eqRul_ac (r : Rul) (ho : r.Ok) : ACv Tryz.prog 51 [.agg (rulR r), .agg (rulR r)] (.bool true) := by
  obtain ⟨o1, o2, o3, o4, o5, o6, o7⟩ := ho.lens
  refine ac_enter Tryz.func51 rfl _ Tryz.ntmps51 (by simp) fun C hn hm => ?_
  repeat' (first
 | (refine RunsL.pe hn rfl rfl rfl ?_; first
 | refine ⟨_, pu_neqSame rfl rfl, ?_⟩)
 | refine RunsL.step tabOk hn rfl ?_
 | refine RunsL.nil ?_
 | refine Runs.toRegion 30 rfl ?_
 | (refine RunsL.pe hn rfl rfl rfl ?_; first
 | refine ⟨_, pu_callR (eqBytes_ac r.bytes o2) rfl, ?_⟩
 | refine ⟨_, pu_callR (eqStrs_ac r.names o3) rfl, ?_⟩
 | refine ⟨_, pu_callR (eqInts_ac r.tags o5) rfl, ?_⟩
 | refine ⟨_, pu_callR (eqInts_ac r.kids o6) rfl, ?_⟩)
 | (refine Runs.ctls 30 rfl ?_; first | refine Runs.cond_f rfl ?_ | ((first | refine Runs.cond_yes rfl ?_ ?_ | refine Runs.cond_nno rfl ?_ ?_); · first | omega | rfl | assumption | (simp only [List.length_map]; omega)) | ((first | refine Runs.cond_no rfl ?_ ?_ | refine Runs.cond_nyes rfl ?_ ?_); · first | omega | rfl | assumption | (simp only [List.length_map]; omega)) | refine Runs.ret (ends_ro hm rfl rfl ?_) | exact Runs.ret (ends_cellR hm rfl rfl rfl (Nat.le_of_ble_eq_true rfl) rfl rfl))
 | refine op_box rfl (tl hn rfl) ?_
    )
  exact rr_bool rfl
theorem eqRuls_ac (l : Des) (ho : DesOk l) : ACv Tryz.prog 27 [rulsR l, rulsR l] (.bool true) := by
  have hl := ho.len
  unfold maxLen at hl
  refine ac_enter Tryz.func27 rfl _ Tryz.ntmps27 (by simp) fun C hn hm => ?_
  repeat' (first
 | refine RunsL.step tabOk hn rfl ?_
 | refine RunsL.nil ?_
 | refine Runs.toRegion 30 rfl ?_
 | (refine Runs.ctls 30 rfl ?_; first | refine Runs.cond_f rfl ?_ | ((first | refine Runs.cond_yes rfl ?_ ?_ | refine Runs.cond_nno rfl ?_ ?_); · first | omega | rfl | assumption | (simp only [List.length_map]; omega)) | ((first | refine Runs.cond_no rfl ?_ ?_ | refine Runs.cond_nyes rfl ?_ ?_); · first | omega | rfl | assumption | (simp only [List.length_map]; omega)) | refine Runs.ret (ends_ro hm rfl rfl ?_) | exact Runs.ret (ends_cellR hm rfl rfl rfl (Nat.le_of_ble_eq_true rfl) rfl rfl))
 | refine RunsD.step tabOk hn rfl rfl ?_
 | refine RunsD.nil ?_
 | refine Runs.toDraw 30 mixed hn rfl (by kernel_rfl) rfl ?_
 | ((first | refine RunsL.pe hn rfl rfl rfl ?_ | refine RunsD.pe rfl rfl ?_); first
 | refine ⟨_, pu_add rfl rfl (by omega), ?_⟩
 | refine ⟨_, pu_indexAddr_map rfl rfl (by omega) (by assumption), ?_⟩
 | refine ⟨_, pu_sub rfl rfl (by omega), ?_⟩
 | refine ⟨_, pu_pick_b rfl rfl rfl, ?_⟩
 | refine ⟨_, pu_mul rfl rfl (by omega), ?_⟩
 | refine ⟨_, pu_build rfl rfl rfl rfl rfl rfl, ?_⟩))
  refine Runs.loopN 30 rfl (fun j => [(0, .ro (rulsR l)), (1, .ro (rulsR l)), (5, .int (j : Int))]) (fun _ => []) (fun _ => True) l.length 0 (Nat.zero_le _) trivial ⟨rfl, rfl, rfl, trivial⟩ rfl fun j hj _ next => ?_
  by_cases hlt : j < l.length
  · obtain ⟨x, hx⟩ : ∃ x, l[(j : Int).toNat]? = some x := ⟨_, List.getElem?_eq_getElem hlt⟩
    have hm' := List.mem_of_getElem? hx
    repeat' (first
 | refine RunsL.step tabOk hn rfl ?_
 | refine RunsL.nil ?_
 | refine Runs.toRegion 30 rfl ?_
 | ((first | refine RunsL.pe hn rfl rfl rfl ?_ | refine RunsD.pe rfl rfl ?_); first
 | refine ⟨_, pu_callR (eqRul_ac x (ho.rules x hm')) rfl, ?_⟩)
 | (refine Runs.ctls 30 rfl ?_; first | refine Runs.cond_f rfl ?_ | ((first | refine Runs.cond_yes rfl ?_ ?_ | refine Runs.cond_nno rfl ?_ ?_); · first | omega | rfl | assumption | (simp only [List.length_map]; omega)) | ((first | refine Runs.cond_no rfl ?_ ?_ | refine Runs.cond_nyes rfl ?_ ?_); · first | omega | rfl | assumption | (simp only [List.length_map]; omega)) | refine Runs.ret (ends_ro hm rfl rfl ?_) | exact Runs.ret (ends_cellR hm rfl rfl rfl (Nat.le_of_ble_eq_true rfl) rfl rfl))
 | refine RunsD.step tabOk hn rfl rfl ?_
 | refine RunsD.nil ?_
 | refine Runs.toDraw 30 mixed hn rfl (by kernel_rfl) rfl ?_
 | ((first | refine RunsL.pe hn rfl rfl rfl ?_ | refine RunsD.pe rfl rfl ?_); first
 | refine ⟨_, pu_add rfl rfl (by omega), ?_⟩
 | refine ⟨_, pu_indexAddr_map rfl rfl (by omega) (by assumption), ?_⟩
 | refine ⟨_, pu_sub rfl rfl (by omega), ?_⟩
 | refine ⟨_, pu_pick_b rfl rfl rfl, ?_⟩
 | refine ⟨_, pu_mul rfl rfl (by omega), ?_⟩
 | refine ⟨_, pu_build rfl rfl rfl rfl rfl rfl, ?_⟩))
    exact next _ _ ⟨rfl, rfl, rfl, trivial⟩ hlt trivial rfl
  · repeat' (first
 | refine RunsL.step tabOk hn rfl ?_
 | refine RunsL.nil ?_
 | refine Runs.toRegion 30 rfl ?_
 | (refine Runs.ctls 30 rfl ?_; first | refine Runs.cond_f rfl ?_ | ((first | refine Runs.cond_yes rfl ?_ ?_ | refine Runs.cond_nno rfl ?_ ?_); · first | omega | rfl | assumption | (simp only [List.length_map]; omega)) | ((first | refine Runs.cond_no rfl ?_ ?_ | refine Runs.cond_nyes rfl ?_ ?_); · first | omega | rfl | assumption | (simp only [List.length_map]; omega)) | refine Runs.ret (ends_ro hm rfl rfl ?_) | exact Runs.ret (ends_cellR hm rfl rfl rfl (Nat.le_of_ble_eq_true rfl) rfl rfl))
 | refine RunsD.step tabOk hn rfl rfl ?_
 | refine RunsD.nil ?_
 | refine Runs.toDraw 30 mixed hn rfl (by kernel_rfl) rfl ?_
 | ((first | refine RunsL.pe hn rfl rfl rfl ?_ | refine RunsD.pe rfl rfl ?_); first
 | refine ⟨_, pu_add rfl rfl (by omega), ?_⟩
 | refine ⟨_, pu_indexAddr_map rfl rfl (by omega) (by assumption), ?_⟩
 | refine ⟨_, pu_sub rfl rfl (by omega), ?_⟩
 | refine ⟨_, pu_pick_b rfl rfl rfl, ?_⟩
 | refine ⟨_, pu_mul rfl rfl (by omega), ?_⟩
 | refine ⟨_, pu_build rfl rfl rfl rfl rfl rfl, ?_⟩))
    exact rr_bool rfl
theorem eqDes_ac (d : Des) (ho : DesOk d) : ACv Tryz.prog 11 [desR d, desR d] (.bool true) := by
  refine ac_enter Tryz.func11 rfl _ Tryz.ntmps11 (by simp) fun C hn hm => ?_
  repeat' (first
 | refine RunsL.step tabOk hn rfl ?_
 | refine RunsL.nil ?_
 | refine Runs.toRegion 30 rfl ?_
 | (refine RunsL.pe hn rfl rfl rfl ?_; first
 | refine ⟨_, pu_callR (eqRuls_ac d ho) rfl, ?_⟩)
 | (refine Runs.ctls 30 rfl ?_; first | refine Runs.cond_f rfl ?_ | ((first | refine Runs.cond_yes rfl ?_ ?_ | refine Runs.cond_nno rfl ?_ ?_); · first | omega | rfl | assumption | (simp only [List.length_map]; omega)) | ((first | refine Runs.cond_no rfl ?_ ?_ | refine Runs.cond_nyes rfl ?_ ?_); · first | omega | rfl | assumption | (simp only [List.length_map]; omega)) | refine Runs.ret (ends_ro hm rfl rfl ?_) | exact Runs.ret (ends_cellR hm rfl rfl rfl (Nat.le_of_ble_eq_true rfl) rfl rfl))
 | refine op_box rfl (tl hn rfl) ?_
    )
  exact rr_bool rfl
end Go.Proofs.YtkmoffefhlmgeaaGreatDoor
/- The verifier of one instruction: both sides return the same. -/
namespace Go.Proofs.YtkmoffefhlmgeaaGreatDoor
set_option linter.unusedSimpArgs false
set_option linter.unusedVariables false
set_option linter.unusedSectionVars false
set_option maxRecDepth 100000
open Go.RowKit
abbrev InR (x lo hi : Int) : Prop := lo ≤ x ∧ x ≤ hi
theorem inRange_ac (x lo hi : Int) : ACv Tryz.prog 71 [.int x, .int lo, .int hi] (.bool (decide (InR x lo hi))) := by
  refine ac_enter Tryz.func71 rfl _ Tryz.ntmps71 (by simp) fun C hn hm => ?_
  repeat' (first
 | refine RunsL.step tabOk hn rfl ?_
 | refine RunsL.nil ?_
 | refine Runs.toRegion 30 rfl ?_
 | (refine Runs.ctls 30 rfl ?_; first | ((first | refine Runs.cond_yes rfl ?_ ?_ | refine Runs.cond_nno rfl ?_ ?_); · first | omega | rfl | assumption | (simp only [List.length_map]; omega)) | ((first | refine Runs.cond_no rfl ?_ ?_ | refine Runs.cond_nyes rfl ?_ ?_); · first | omega | rfl | assumption | (simp only [List.length_map]; omega)) | refine Runs.ret (ends_ro hm rfl rfl ?_) | exact Runs.ret (ends_cellR hm rfl rfl rfl (Nat.le_of_ble_eq_true rfl) rfl rfl))
 | ((first | refine RunsL.guard_dec rfl rfl rfl ?_ ?_ | refine RunsL.guard_ndec rfl rfl rfl ?_ ?_ | refine RunsL.guard_nb rfl rfl rfl ?_ ?_ | refine RunsL.guard_b rfl rfl rfl ?_ ?_) <;> intro h <;> try (exfalso; first | omega | contradiction | (simp only [List.length_map] at h; omega))))
  all_goals exact rr_bool (by rw [Bool.eq_iff_iff]; simp only [decide_eq_true_eq, Bool.not_eq_true', decide_eq_false_iff_not, Bool.false_eq_true, true_iff, false_iff, Bool.and_eq_true, Bool.or_eq_true, Bool.not_eq_eq_eq_not, Bool.not_true, Bool.not_false, reduceCtorEq, eq_self, iff_true, iff_false, ne_eq]; simp only [InR] at *; omega)
theorem l1In_ac (x lo hi : Int) : ACv Tryz.prog 55 [.int x, .int lo, .int hi] (.bool (decide (InR x lo hi))) := by
  refine ac_enter Tryz.func55 rfl _ Tryz.ntmps55 (by simp) fun C hn hm => ?_
  repeat' (first
 | refine RunsL.step tabOk hn rfl ?_
 | refine RunsL.nil ?_
 | refine Runs.toRegion 30 rfl ?_
 | (refine Runs.ctls 30 rfl ?_; first | ((first | refine Runs.cond_yes rfl ?_ ?_ | refine Runs.cond_nno rfl ?_ ?_); · first | omega | rfl | assumption | (simp only [List.length_map]; omega)) | ((first | refine Runs.cond_no rfl ?_ ?_ | refine Runs.cond_nyes rfl ?_ ?_); · first | omega | rfl | assumption | (simp only [List.length_map]; omega)) | refine Runs.ret (ends_ro hm rfl rfl ?_) | exact Runs.ret (ends_cellR hm rfl rfl rfl (Nat.le_of_ble_eq_true rfl) rfl rfl))
 | ((first | refine RunsL.guard_dec rfl rfl rfl ?_ ?_ | refine RunsL.guard_ndec rfl rfl rfl ?_ ?_ | refine RunsL.guard_nb rfl rfl rfl ?_ ?_ | refine RunsL.guard_b rfl rfl rfl ?_ ?_) <;> intro h <;> try (exfalso; first | omega | contradiction | (simp only [List.length_map] at h; omega))))
  all_goals exact rr_bool (by rw [Bool.eq_iff_iff]; simp only [decide_eq_true_eq, Bool.not_eq_true', decide_eq_false_iff_not, Bool.false_eq_true, true_iff, false_iff, Bool.and_eq_true, Bool.or_eq_true, Bool.not_eq_eq_eq_not, Bool.not_true, Bool.not_false, reduceCtorEq, eq_self, iff_true, iff_false, ne_eq]; simp only [InR] at *; omega)
abbrev Goes (op : Int) : Prop := op ≠ 8 ∧ op ≠ 10 ∧ op ≠ 12 ∧ op ≠ 17
def OpOk (x : Ins) : Prop := (x.op = 1 → InR x.a 1 4 ∧ InR x.b 0 1) ∧ (x.op = 2 ∨ x.op = 16 → InR x.a 0 255) ∧ (x.op = 3 ∨ x.op = 5 → InR x.a 0 400) ∧ (x.op = 11 → 0 ≤ x.a) ∧ (x.op = 12 → InR x.a 1 8) ∧ InR x.op 1 17
instance (x : Ins) : Decidable (OpOk x) := by unfold OpOk; infer_instance
def SafeX (n i : Int) (x : Ins) : Prop := OpOk x ∧ (x.op = 7 ∨ x.op = 8 ∨ x.op = 9 ∨ x.op = 13 → 0 ≤ x.a ∧ x.a < n) ∧ (x.op = 11 → 0 ≤ x.b ∧ x.b < n) ∧ (Goes x.op → i + 1 < n)
instance (n i : Int) (x : Ins) : Decidable (SafeX n i x) := by unfold SafeX; infer_instance
def SafeI (p : Prg) (i : Int) : Prop := match p.code[i.toNat]? with
  | some x => 0 ≤ i ∧ SafeX p.code.length i x
  | none => False
instance (p : Prg) (i : Int) : Decidable (SafeI p i) := by unfold SafeI; split <;> infer_instance
end Go.Proofs.YtkmoffefhlmgeaaGreatDoor
/- Slice expressions on data. Over any program. -/
namespace Go.Proofs.YtkmoffefhlmgeaaGreatDoor
set_option linter.unusedSimpArgs false
set_option linter.unusedVariables false
set_option linter.unusedSectionVars false
set_option maxRecDepth 100000
open Go.RowKit
open AV (Mem Keeps)
theorem rel_sliced {w : World} {ok : Nat → Prop} {A : Option Addr} {n c sz l h : Nat} {els : List (List RV)} (hr : RV.rel w ok (.seq sz els) (.slice A n c)) (hl : l ≤ h) (hh : h ≤ els.length) : RV.rel w ok (.seq sz ((els.take h).drop l)) (sliced A l h c sz) := by
  simp only [RV.rel] at hr ⊢
  obtain ⟨A', n', c', e, hn, h1, h2, h3⟩ := hr
  injection e with e1 e2 e3; subst e1; subst e2; subst e3
  refine ⟨_, h - l, c - l, rfl, by rw [List.length_drop, List.length_take]; omega, by omega, by omega, fun h0 => ?_⟩
  obtain ⟨b, o, rfl, hb, hok, hE⟩ := h3 (by omega)
  rw [if_neg (by omega)]
  refine ⟨b, o + l * sz, by simp [Addr.add_lit], hb, hok, RV.relE_of _ _ _ fun k e hk => ?_⟩
  rw [List.getElem?_drop, List.getElem?_take] at hk
  split at hk
  · have := RV.relE_at _ o sz hE (l + k) e hk
    rwa [Nat.add_mul, ← Nat.add_assoc] at this
  · cases hk
section
variable {P : Program} {C : Ctx} {env : Env} {σ : List Ob} {t : Nat} {ty : TypeId} {pos : String} {after : Array Edge} {gd : Option (Nat × Bool)}
variable {tt e : TypeId} {z : Value} {sz bytes : Nat} {x y y' : Operand} {kd kd' : IntKind} {p q : Int} {els : List (List RV)} {α : Type} {l : List α} {f : α → List RV}
theorem SL.under [hs : SL P tt e z sz bytes] : P.underlying tt = some (.slice (P.elem tt)) := by
  have h := hs.el.ht
  have : P.elem tt = e := by simp [Program.elem, h]
  rw [this]; exact h
theorem SL.size [hs : SL P tt e z sz bytes] (w : World) : (sizeOf (P.elem tt)).run P w = .ok sz w := by
  have h := hs.el.ht
  have he : P.elem tt = e := by simp [Program.elem, h]
  obtain ⟨i, i1, i2, i3, i4⟩ := hs.el.hi
  simp [he, sizeOf, typeInfo, i1, i3]
theorem pu_slice_h [hs : SL P tt e z sz bytes] (hx : ev env x = .ro (.seq sz els)) (hy : ev env y = .ro (.c (.int kd p))) (h0 : 0 ≤ p) (h1 : p ≤ els.length) : Pur P C ⟨some t, .slice tt x none (some y) none, ty, pos, after, gd⟩ env σ (.ro (.seq sz (els.take p.toNat))) :=
  Pur.of (fun a m hG hσ hH => by
    have h := hH x (by simp [Op.operands])
    rw [hx] at h
    simp only [AV.rel] at h
    have h' := h
    simp only [RV.rel] at h'
    obtain ⟨A, n, c, ea, hn, k1, k2, _⟩ := h'
    rw [ea] at h
    have hr := rel_sliced h (Nat.zero_le p.toNat) (by omega)
    refine ⟨sliced A 0 p.toNat c sz, ?_, by simpa only [AV.rel, List.drop_zero] using hr⟩
    simp only [execOp, Option.map_some, Option.map_none, ev_c (hH _ (by simp [Op.operands])) hy, ea, Sem.run_bind, run_sliceAt_slice m.w tt _ _ _ _ SL.under, run_slice_h m.w tt A n c SL.under kd p h0 (by omega), SL.size, Result.andThen_ok]
    rfl)
theorem pu_slice_hM [hs : SL P tt e z sz bytes] (hx : ev env x = .ro (.seq sz (l.map f))) (hy : ev env y = .ro (.c (.int kd p))) (h0 : 0 ≤ p) (h1 : p ≤ l.length) : Pur P C ⟨some t, .slice tt x none (some y) none, ty, pos, after, gd⟩ env σ (.ro (.seq sz ((l.take p.toNat).map f))) := by
  have h := pu_slice_h (P := P) (tt := tt) (C := C) (σ := σ) (t := t) (ty := ty) (pos := pos) (after := after) (gd := gd) hx hy h0 (by simpa using h1)
  rwa [← List.map_take] at h
end
end Go.Proofs.YtkmoffefhlmgeaaGreatDoor
/- Names, lists of names, limits, shapes of rules: both sides return the same. -/
namespace Go.Proofs.YtkmoffefhlmgeaaGreatDoor
set_option linter.unusedSimpArgs false
set_option linter.unusedVariables false
set_option linter.unusedSectionVars false
set_option maxRecDepth 100000
open Go.RowKit
noncomputable instance (s : ByteArray) (l : List ByteArray) : Decidable (s ∈ l) := Classical.propDecidable _
theorem str_lt {s : ByteArray} {i : Nat} {c : UInt8} (h : s[i]? = some c) : i < s.size := by
  by_cases hi : i < s.size
  · exact hi
  · rw [getElem?_neg s i hi] at h; cases h
section
variable {P : Program} {C : Ctx} {env : Env} {σ : List Ob} {t : Nat} {ty : TypeId} {pos : String} {after : Array Edge} {gd : Option (Nat × Bool)}
theorem pu_eqlSame {xt yt : TypeId} {x y : Operand} {s : ByteArray} (hx : ev env x = .str s) (hy : ev env y = .str s) : Pur P C ⟨some t, .binOp .eql xt x y yt, ty, pos, after, gd⟩ env σ (.bool true) := by
  have h := pu_eqlS (P := P) (C := C) (σ := σ) (t := t) (ty := ty) (pos := pos) (after := after) (gd := gd) (xt := xt) (yt := yt) hx hy
  have e : (s.toList == s.toList) = true := by simp
  rwa [e] at h
theorem pu_eqlDiff {xt yt : TypeId} {x y : Operand} {s u : ByteArray} (hx : ev env x = .str s) (hy : ev env y = .str u) (hn : ¬ s = u) : Pur P C ⟨some t, .binOp .eql xt x y yt, ty, pos, after, gd⟩ env σ (.bool false) := by
  have h := pu_eqlS (P := P) (C := C) (σ := σ) (t := t) (ty := ty) (pos := pos) (after := after) (gd := gd) (xt := xt) (yt := yt) hx hy
  have e : (s.toList == u.toList) = false := by
    rw [Bool.eq_false_iff]
    simpa [ByteArray.toList_eq, ← ByteArray.ext_iff] using hn
  rwa [e] at h
end
def NameC (c : UInt8) (i : Nat) : Prop := (97 ≤ c.toNat ∧ c.toNat ≤ 122) ∨ (48 ≤ c.toNat ∧ c.toNat ≤ 57 ∧ i ≠ 0)
def IsNm (s : ByteArray) : Prop := 1 ≤ s.size ∧ s.size ≤ 12 ∧ ∀ (i : Nat) c, s[i]? = some c → NameC c i
noncomputable instance (s : ByteArray) : Decidable (IsNm s) := Classical.propDecidable _
theorem spec_IsName (s : ByteArray) (hs : s.size ≤ maxLen) : ACv Tryz.prog 79 [.str s] (.bool (decide (IsNm s))) := by
  unfold maxLen at hs
  refine ac_enter Tryz.func79 rfl _ Tryz.ntmps79 (by simp) fun C hn hm => ?_
  repeat' (first
 | refine RunsL.step tabOk hn rfl ?_
 | refine RunsL.nil ?_
 | refine Runs.toRegion 30 rfl ?_
 | (refine Runs.ctls 30 rfl ?_; first | refine Runs.cond_t rfl ?_ | refine Runs.cond_f rfl ?_ | ((first | refine Runs.cond_yes rfl ?_ ?_ | refine Runs.cond_nno rfl ?_ ?_); · first | omega | rfl | assumption | (simp only [List.length_map]; omega)) | ((first | refine Runs.cond_no rfl ?_ ?_ | refine Runs.cond_nyes rfl ?_ ?_); · first | omega | rfl | assumption | (simp only [List.length_map]; omega)) | refine Runs.cond_dec rfl (fun h => ?_) (fun h => ?_) | refine Runs.ret (ends_ro hm rfl rfl ?_) | exact Runs.ret (ends_cellR hm rfl rfl rfl (Nat.le_of_ble_eq_true rfl) rfl rfl))
 | (refine RunsL.pe hn rfl rfl rfl ?_; first
 | refine ⟨_, pu_add rfl rfl (by omega), ?_⟩
      )
 | ((first | refine RunsL.guard_dec rfl rfl rfl ?_ ?_ | refine RunsL.guard_ndec rfl rfl rfl ?_ ?_ | refine RunsL.guard_nb rfl rfl rfl ?_ ?_ | refine RunsL.guard_b rfl rfl rfl ?_ ?_) <;> intro h <;> try (exfalso; first | omega | contradiction | (simp only [List.length_map] at h; omega))))
  refine Runs.loopN 30 rfl (fun j => [(0, .str s), (3, .int (j : Int))]) (fun _ => []) (fun j => ∀ (i : Nat) c, i < j → s[i]? = some c → NameC c i) s.size 0 (Nat.zero_le _) (fun i c h => absurd h (by omega)) ⟨rfl, rfl, trivial⟩ rfl fun j hj hQ next => ?_
  by_cases hlt : j < s.size
  · obtain ⟨x, hx⟩ : ∃ x, s[(j : Int).toNat]? = some x := ⟨_, getElem?_pos s j hlt⟩
    have hx' : s[j]? = some x := hx
    repeat' (first
 | refine RunsL.step tabOk hn rfl ?_
 | refine RunsL.nil ?_
 | refine Runs.toRegion 30 rfl ?_
 | (refine RunsL.pe hn rfl rfl rfl ?_; first
 | refine ⟨_, pu_indexS rfl rfl (by omega) (by assumption), ?_⟩)
 | (refine Runs.ctls 30 rfl ?_; first | refine Runs.cond_t rfl ?_ | refine Runs.cond_f rfl ?_ | ((first | refine Runs.cond_yes rfl ?_ ?_ | refine Runs.cond_nno rfl ?_ ?_); · first | omega | rfl | assumption | (simp only [List.length_map]; omega)) | ((first | refine Runs.cond_no rfl ?_ ?_ | refine Runs.cond_nyes rfl ?_ ?_); · first | omega | rfl | assumption | (simp only [List.length_map]; omega)) | refine Runs.cond_dec rfl (fun h => ?_) (fun h => ?_) | refine Runs.ret (ends_ro hm rfl rfl ?_) | exact Runs.ret (ends_cellR hm rfl rfl rfl (Nat.le_of_ble_eq_true rfl) rfl rfl))
 | (refine RunsL.pe hn rfl rfl rfl ?_; first
 | refine ⟨_, pu_add rfl rfl (by omega), ?_⟩
        )
 | ((first | refine RunsL.guard_dec rfl rfl rfl ?_ ?_ | refine RunsL.guard_ndec rfl rfl rfl ?_ ?_ | refine RunsL.guard_nb rfl rfl rfl ?_ ?_ | refine RunsL.guard_b rfl rfl rfl ?_ ?_) <;> intro h <;> try (exfalso; first | omega | contradiction | (simp only [List.length_map] at h; omega))))
    all_goals first
      | exact rr_bool (decide_eq_false fun hN => by have := hN.2.2 j x hx'; unfold NameC at this; omega).symm
      | (refine next _ _ ⟨rfl, rfl, trivial⟩ hlt (fun i c hi hc => ?_) rfl
         by_cases e : i = j
         · subst e; rw [hx'] at hc; injection hc with hc; subst hc; unfold NameC; omega
         · exact hQ i c (by omega) hc)
  · repeat' (first
 | refine RunsL.step tabOk hn rfl ?_
 | refine RunsL.nil ?_
 | refine Runs.toRegion 30 rfl ?_
 | (refine RunsL.pe hn rfl rfl rfl ?_; first
 | refine ⟨_, pu_callR (l1In_ac _ _ _) rfl, ?_⟩)
 | (refine Runs.ctls 30 rfl ?_; first | refine Runs.cond_t rfl ?_ | refine Runs.cond_f rfl ?_ | ((first | refine Runs.cond_yes rfl ?_ ?_ | refine Runs.cond_nno rfl ?_ ?_); · first | omega | rfl | assumption | (simp only [List.length_map]; omega)) | ((first | refine Runs.cond_no rfl ?_ ?_ | refine Runs.cond_nyes rfl ?_ ?_); · first | omega | rfl | assumption | (simp only [List.length_map]; omega)) | refine Runs.cond_dec rfl (fun h => ?_) (fun h => ?_) | refine Runs.ret (ends_ro hm rfl rfl ?_) | exact Runs.ret (ends_cellR hm rfl rfl rfl (Nat.le_of_ble_eq_true rfl) rfl rfl))
 | (refine RunsL.pe hn rfl rfl rfl ?_; first
 | refine ⟨_, pu_add rfl rfl (by omega), ?_⟩
      )
 | ((first | refine RunsL.guard_dec rfl rfl rfl ?_ ?_ | refine RunsL.guard_ndec rfl rfl rfl ?_ ?_ | refine RunsL.guard_nb rfl rfl rfl ?_ ?_ | refine RunsL.guard_b rfl rfl rfl ?_ ?_) <;> intro h <;> try (exfalso; first | omega | contradiction | (simp only [List.length_map] at h; omega))))
    exact rr_bool (decide_eq_decide.2 ⟨fun h => ⟨by omega, by omega, fun i c hc => hQ i c (by have := str_lt hc; omega) hc⟩, fun h => ⟨by have := h.1; omega, by have := h.2.1; omega⟩⟩)
theorem spec_ContainsText (l : List ByteArray) (s : ByteArray) (hl : l.length ≤ maxLen) : ACv Tryz.prog 100 [strsR l, .str s] (.bool (decide (s ∈ l))) := by
  unfold maxLen at hl
  refine ac_enter Tryz.func100 rfl _ Tryz.ntmps100 (by simp) fun C hn hm => ?_
  repeat' (first
 | refine RunsL.step tabOk hn rfl ?_
 | refine RunsL.nil ?_
 | refine Runs.toRegion 30 rfl ?_
 | (refine Runs.ctls 30 rfl ?_; first | refine Runs.cond_t rfl ?_ | refine Runs.cond_f rfl ?_ | ((first | refine Runs.cond_yes rfl ?_ ?_ | refine Runs.cond_nno rfl ?_ ?_); · first | omega | rfl | assumption | (simp only [List.length_map]; omega)) | ((first | refine Runs.cond_no rfl ?_ ?_ | refine Runs.cond_nyes rfl ?_ ?_); · first | omega | rfl | assumption | (simp only [List.length_map]; omega)) | refine Runs.ret (ends_ro hm rfl rfl ?_) | exact Runs.ret (ends_cellR hm rfl rfl rfl (Nat.le_of_ble_eq_true rfl) rfl rfl))
 | (refine RunsL.pe hn rfl rfl rfl ?_; first
 | refine ⟨_, pu_add rfl rfl (by omega), ?_⟩
 | refine ⟨_, pu_indexAddr_map rfl rfl (by omega) (by assumption), ?_⟩
      ))
  refine Runs.loopN 30 rfl (fun j => [(0, .ro (strsR l)), (1, .str s), (5, .int (j : Int))]) (fun _ => []) (fun j => s ∉ l.take j) l.length 0 (Nat.zero_le _) (by simp) ⟨rfl, rfl, rfl, trivial⟩ rfl fun j hj hQ next => ?_
  by_cases hlt : j < l.length
  · obtain ⟨x, hx⟩ : ∃ x, l[(j : Int).toNat]? = some x := ⟨_, List.getElem?_eq_getElem hlt⟩
    have hx' : l[j]? = some x := hx
    by_cases hxs : x = s
    · subst hxs
      repeat' (first
 | (refine RunsL.pe hn rfl rfl rfl ?_; first
 | refine ⟨_, pu_eqlSame rfl rfl, ?_⟩)
 | refine RunsL.step tabOk hn rfl ?_
 | refine RunsL.nil ?_
 | refine Runs.toRegion 30 rfl ?_
 | (refine Runs.ctls 30 rfl ?_; first | refine Runs.cond_t rfl ?_ | refine Runs.cond_f rfl ?_ | ((first | refine Runs.cond_yes rfl ?_ ?_ | refine Runs.cond_nno rfl ?_ ?_); · first | omega | rfl | assumption | (simp only [List.length_map]; omega)) | ((first | refine Runs.cond_no rfl ?_ ?_ | refine Runs.cond_nyes rfl ?_ ?_); · first | omega | rfl | assumption | (simp only [List.length_map]; omega)) | refine Runs.ret (ends_ro hm rfl rfl ?_) | exact Runs.ret (ends_cellR hm rfl rfl rfl (Nat.le_of_ble_eq_true rfl) rfl rfl))
 | (refine RunsL.pe hn rfl rfl rfl ?_; first
 | refine ⟨_, pu_add rfl rfl (by omega), ?_⟩
 | refine ⟨_, pu_indexAddr_map rfl rfl (by omega) (by assumption), ?_⟩
          ))
      exact rr_bool (decide_eq_true (List.mem_of_getElem? hx')).symm
    · repeat' (first
 | (refine RunsL.pe hn rfl rfl rfl ?_; first
 | refine ⟨_, pu_eqlDiff rfl rfl (by assumption), ?_⟩)
 | refine RunsL.step tabOk hn rfl ?_
 | refine RunsL.nil ?_
 | refine Runs.toRegion 30 rfl ?_
 | (refine Runs.ctls 30 rfl ?_; first | refine Runs.cond_t rfl ?_ | refine Runs.cond_f rfl ?_ | ((first | refine Runs.cond_yes rfl ?_ ?_ | refine Runs.cond_nno rfl ?_ ?_); · first | omega | rfl | assumption | (simp only [List.length_map]; omega)) | ((first | refine Runs.cond_no rfl ?_ ?_ | refine Runs.cond_nyes rfl ?_ ?_); · first | omega | rfl | assumption | (simp only [List.length_map]; omega)) | refine Runs.ret (ends_ro hm rfl rfl ?_) | exact Runs.ret (ends_cellR hm rfl rfl rfl (Nat.le_of_ble_eq_true rfl) rfl rfl))
 | (refine RunsL.pe hn rfl rfl rfl ?_; first
 | refine ⟨_, pu_add rfl rfl (by omega), ?_⟩
 | refine ⟨_, pu_indexAddr_map rfl rfl (by omega) (by assumption), ?_⟩
        ))
      refine next _ _ ⟨rfl, rfl, rfl, trivial⟩ hlt ?_ rfl
      rw [List.take_succ_eq_append_getElem hlt, List.mem_append]
      rintro (hm' | hm')
      · exact hQ hm'
      · rw [List.getElem?_eq_getElem hlt] at hx'; injection hx' with hx'
        simp only [List.mem_singleton] at hm'
        exact hxs (by rw [hm', hx'])
  · repeat' (first
 | refine RunsL.step tabOk hn rfl ?_
 | refine RunsL.nil ?_
 | refine Runs.toRegion 30 rfl ?_
 | (refine Runs.ctls 30 rfl ?_; first | refine Runs.cond_t rfl ?_ | refine Runs.cond_f rfl ?_ | ((first | refine Runs.cond_yes rfl ?_ ?_ | refine Runs.cond_nno rfl ?_ ?_); · first | omega | rfl | assumption | (simp only [List.length_map]; omega)) | ((first | refine Runs.cond_no rfl ?_ ?_ | refine Runs.cond_nyes rfl ?_ ?_); · first | omega | rfl | assumption | (simp only [List.length_map]; omega)) | refine Runs.ret (ends_ro hm rfl rfl ?_) | exact Runs.ret (ends_cellR hm rfl rfl rfl (Nat.le_of_ble_eq_true rfl) rfl rfl))
 | (refine RunsL.pe hn rfl rfl rfl ?_; first
 | refine ⟨_, pu_add rfl rfl (by omega), ?_⟩
 | refine ⟨_, pu_indexAddr_map rfl rfl (by omega) (by assumption), ?_⟩
      ))
    rw [show j = l.length by omega, List.take_length] at hQ
    exact rr_bool (decide_eq_false hQ).symm
theorem impl_ContainsText (l : List ByteArray) (s : ByteArray) (hl : l.length ≤ maxLen) : ACv Tryz.prog 101 [strsR l, .str s] (.bool (decide (s ∈ l))) := by
  have hlm : (l.map fun z => [RV.str z]).length = l.length := List.length_map ..
  unfold maxLen at hl
  refine ac_enter Tryz.func101 rfl _ Tryz.ntmps101 (by simp) fun C hn hm => ?_
  repeat' (first
 | refine RunsL.step tabOk hn rfl ?_
 | refine RunsL.nil ?_
 | refine Runs.toRegion 30 rfl ?_
 | (refine Runs.ctls 30 rfl ?_; first | refine Runs.cond_t rfl ?_ | refine Runs.cond_f rfl ?_ | ((first | refine Runs.cond_yes rfl ?_ ?_ | refine Runs.cond_nno rfl ?_ ?_); · first | omega | rfl | assumption | (simp only [List.length_map]; omega)) | ((first | refine Runs.cond_no rfl ?_ ?_ | refine Runs.cond_nyes rfl ?_ ?_); · first | omega | rfl | assumption | (simp only [List.length_map]; omega)) | refine Runs.ret (ends_ro hm rfl rfl ?_) | exact Runs.ret (ends_cellR hm rfl rfl rfl (Nat.le_of_ble_eq_true rfl) rfl rfl))
 | (refine RunsL.pe hn rfl rfl rfl ?_; first
 | refine ⟨_, pu_add rfl rfl (by omega), ?_⟩
 | refine ⟨_, pu_indexAddr_map rfl rfl (by omega) (by assumption), ?_⟩
      ))
  refine Runs.loopN 30 rfl (fun j => [(7, .ro (strsR l)), (8, .int (l.length : Int)), (1, .str s), (9, .int (j : Int))]) (fun _ => []) (fun j => s ∉ l.take j) l.length 0 (Nat.zero_le _) (by simp) ⟨rfl, by simp [look], rfl, rfl, trivial⟩ rfl fun j hj hQ next => ?_
  by_cases hlt : j < l.length
  · obtain ⟨x, hx⟩ : ∃ x, l[(j : Int).toNat]? = some x := ⟨_, List.getElem?_eq_getElem hlt⟩
    have hx' : l[j]? = some x := hx
    by_cases hxs : x = s
    · subst hxs
      repeat' (first
 | (refine RunsL.pe hn rfl rfl rfl ?_; first
 | refine ⟨_, pu_eqlSame rfl rfl, ?_⟩)
 | refine RunsL.step tabOk hn rfl ?_
 | refine RunsL.nil ?_
 | refine Runs.toRegion 30 rfl ?_
 | (refine Runs.ctls 30 rfl ?_; first | refine Runs.cond_t rfl ?_ | refine Runs.cond_f rfl ?_ | ((first | refine Runs.cond_yes rfl ?_ ?_ | refine Runs.cond_nno rfl ?_ ?_); · first | omega | rfl | assumption | (simp only [List.length_map]; omega)) | ((first | refine Runs.cond_no rfl ?_ ?_ | refine Runs.cond_nyes rfl ?_ ?_); · first | omega | rfl | assumption | (simp only [List.length_map]; omega)) | refine Runs.ret (ends_ro hm rfl rfl ?_) | exact Runs.ret (ends_cellR hm rfl rfl rfl (Nat.le_of_ble_eq_true rfl) rfl rfl))
 | (refine RunsL.pe hn rfl rfl rfl ?_; first
 | refine ⟨_, pu_add rfl rfl (by omega), ?_⟩
 | refine ⟨_, pu_indexAddr_map rfl rfl (by omega) (by assumption), ?_⟩
          ))
      exact rr_bool (decide_eq_true (List.mem_of_getElem? hx')).symm
    · repeat' (first
 | (refine RunsL.pe hn rfl rfl rfl ?_; first
 | refine ⟨_, pu_eqlDiff rfl rfl (by assumption), ?_⟩)
 | refine RunsL.step tabOk hn rfl ?_
 | refine RunsL.nil ?_
 | refine Runs.toRegion 30 rfl ?_
 | (refine Runs.ctls 30 rfl ?_; first | refine Runs.cond_t rfl ?_ | refine Runs.cond_f rfl ?_ | ((first | refine Runs.cond_yes rfl ?_ ?_ | refine Runs.cond_nno rfl ?_ ?_); · first | omega | rfl | assumption | (simp only [List.length_map]; omega)) | ((first | refine Runs.cond_no rfl ?_ ?_ | refine Runs.cond_nyes rfl ?_ ?_); · first | omega | rfl | assumption | (simp only [List.length_map]; omega)) | refine Runs.ret (ends_ro hm rfl rfl ?_) | exact Runs.ret (ends_cellR hm rfl rfl rfl (Nat.le_of_ble_eq_true rfl) rfl rfl))
 | (refine RunsL.pe hn rfl rfl rfl ?_; first
 | refine ⟨_, pu_add rfl rfl (by omega), ?_⟩
 | refine ⟨_, pu_indexAddr_map rfl rfl (by omega) (by assumption), ?_⟩
        ))
      refine next _ _ ⟨rfl, rfl, rfl, rfl, trivial⟩ hlt ?_ rfl
      rw [List.take_succ_eq_append_getElem hlt, List.mem_append]
      rintro (hm' | hm')
      · exact hQ hm'
      · rw [List.getElem?_eq_getElem hlt] at hx'; injection hx' with hx'
        simp only [List.mem_singleton] at hm'
        exact hxs (by rw [hm', hx'])
  · repeat' (first
 | refine RunsL.step tabOk hn rfl ?_
 | refine RunsL.nil ?_
 | refine Runs.toRegion 30 rfl ?_
 | (refine Runs.ctls 30 rfl ?_; first | refine Runs.cond_t rfl ?_ | refine Runs.cond_f rfl ?_ | ((first | refine Runs.cond_yes rfl ?_ ?_ | refine Runs.cond_nno rfl ?_ ?_); · first | omega | rfl | assumption | (simp only [List.length_map]; omega)) | ((first | refine Runs.cond_no rfl ?_ ?_ | refine Runs.cond_nyes rfl ?_ ?_); · first | omega | rfl | assumption | (simp only [List.length_map]; omega)) | refine Runs.ret (ends_ro hm rfl rfl ?_) | exact Runs.ret (ends_cellR hm rfl rfl rfl (Nat.le_of_ble_eq_true rfl) rfl rfl))
 | (refine RunsL.pe hn rfl rfl rfl ?_; first
 | refine ⟨_, pu_add rfl rfl (by omega), ?_⟩
 | refine ⟨_, pu_indexAddr_map rfl rfl (by omega) (by assumption), ?_⟩
      ))
    rw [show j = l.length by omega, List.take_length] at hQ
    exact rr_bool (decide_eq_false hQ).symm
def pow8 (s : Int) : Int := if s = 1 then 256 else if s = 2 then 65536 else if s = 3 then 16777216 else 4294967296
theorem pow8_le {s : Int} : 256 ≤ pow8 s ∧ pow8 s ≤ 4294967296 := by unfold pow8; split; omega; split; omega; split <;> omega
section
variable {P : Program} {C : Ctx} {env : Env} {σ : List Ob} {t : Nat} {ty : TypeId} {pos : String} {after : Array Edge} {gd : Option (Nat × Bool)}
theorem pu_pow {xt yt : TypeId} {x y : Operand} {s : Int} (hx : ev env x = .ro (.c (.int .i64 1))) (hy : ev env y = .ro (.c (.int .i64 (8 * s)))) (h : 1 ≤ s ∧ s ≤ 4) : Pur P C ⟨some t, .binOp .shl xt x y yt, ty, pos, after, gd⟩ env σ (.int (pow8 s)) := by
  have hs : s = 1 ∨ s = 2 ∨ s = 3 ∨ s = 4 := by omega
  rcases hs with rfl | rfl | rfl | rfl
  · exact pu_bin hx hy (fun w => by simp [go_sem, pow8]; rfl)
  · exact pu_bin hx hy (fun w => by simp [go_sem, pow8]; rfl)
  · exact pu_bin hx hy (fun w => by simp [go_sem, pow8]; rfl)
  · exact pu_bin hx hy (fun w => by simp [go_sem, pow8]; rfl)
end
theorem l2Power_ac (s : Int) (h : 1 ≤ s ∧ s ≤ 4) : ACv Tryz.prog 68 [.int s] (.int (pow8 s)) := by
  refine ac_enter Tryz.func68 rfl _ Tryz.ntmps68 (by simp) fun C hn hm => ?_
  repeat' (first
 | refine RunsL.step tabOk hn rfl ?_
 | refine RunsL.nil ?_
 | refine Runs.toRegion 30 rfl ?_
 | (refine RunsL.pe hn rfl rfl rfl ?_; first
 | refine ⟨_, pu_pow rfl rfl h, ?_⟩)
 | (refine Runs.ctls 30 rfl ?_; first | ((first | refine Runs.cond_yes rfl ?_ ?_ | refine Runs.cond_nno rfl ?_ ?_); · first | omega | rfl | assumption | (simp only [List.length_map]; omega)) | ((first | refine Runs.cond_no rfl ?_ ?_ | refine Runs.cond_nyes rfl ?_ ?_); · first | omega | rfl | assumption | (simp only [List.length_map]; omega)) | refine Runs.ret (ends_ro hm rfl rfl ?_) | exact Runs.ret (ends_cellR hm rfl rfl rfl (Nat.le_of_ble_eq_true rfl) rfl rfl))
 | (refine RunsL.pe hn rfl rfl rfl ?_; first
 | refine ⟨_, pu_mul rfl rfl (by omega), ?_⟩
      ))
  exact rr_int rfl
def lim (d : Des) (i : Int) : Int := match d[i.toNat]? with
  | some r => if 0 ≤ i ∧ r.kind = 1 ∧ 1 ≤ r.size ∧ r.size ≤ 4 then pow8 r.size - 1 else -1
  | none => -1
theorem lim_yes {d : Des} {i : Int} {r : Rul} (h : d[i.toNat]? = some r) (h0 : 0 ≤ i ∧ r.kind = 1 ∧ 1 ≤ r.size ∧ r.size ≤ 4) : lim d i = pow8 r.size - 1 := by unfold lim; rw [h]; exact if_pos h0
theorem lim_no {d : Des} {i : Int} {r : Rul} (h : d[i.toNat]? = some r) (h0 : ¬ (0 ≤ i ∧ r.kind = 1 ∧ 1 ≤ r.size ∧ r.size ≤ 4)) : lim d i = -1 := by unfold lim; rw [h]; exact if_neg h0
theorem lim_out {d : Des} {i : Int} (h : ¬ (0 ≤ i ∧ i < d.length)) : lim d i = -1 := by
  unfold lim
  split
  · rename_i r hr
    have := (List.getElem?_eq_some_iff.1 hr).1
    exact if_neg (by omega)
  · rfl
abbrev HasR (d : Des) (i : Int) : Prop := 0 ≤ i ∧ i < d.length
theorem hasRule_ac (d : Des) (i : Int) : ACv Tryz.prog 62 [desR d, .int i] (.bool (decide (HasR d i))) := by
  have hl : (d.map rulR).length = d.length := List.length_map ..
  refine ac_enter Tryz.func62 rfl _ Tryz.ntmps62 (by simp) fun C hn hm => ?_
  repeat' (first
 | refine RunsL.step tabOk hn rfl ?_
 | refine RunsL.nil ?_
 | refine Runs.toRegion 30 rfl ?_
 | (refine Runs.ctls 30 rfl ?_; first | ((first | refine Runs.cond_yes rfl ?_ ?_ | refine Runs.cond_nno rfl ?_ ?_); · first | omega | rfl | assumption | (simp only [List.length_map]; omega)) | ((first | refine Runs.cond_no rfl ?_ ?_ | refine Runs.cond_nyes rfl ?_ ?_); · first | omega | rfl | assumption | (simp only [List.length_map]; omega)) | refine Runs.ret (ends_ro hm rfl rfl ?_) | exact Runs.ret (ends_cellR hm rfl rfl rfl (Nat.le_of_ble_eq_true rfl) rfl rfl))
 | refine op_box rfl (tl hn rfl) ?_
 | ((first | refine RunsL.guard_dec rfl rfl rfl ?_ ?_ | refine RunsL.guard_ndec rfl rfl rfl ?_ ?_ | refine RunsL.guard_nb rfl rfl rfl ?_ ?_ | refine RunsL.guard_b rfl rfl rfl ?_ ?_) <;> intro h <;> try (exfalso; first | omega | contradiction | (simp only [List.length_map] at h; omega))))
  all_goals exact rr_bool (by rw [Bool.eq_iff_iff]; simp only [decide_eq_true_eq, Bool.not_eq_true', decide_eq_false_iff_not, Bool.false_eq_true, true_iff, false_iff, Bool.and_eq_true, Bool.or_eq_true, Bool.not_eq_eq_eq_not, Bool.not_true, Bool.not_false, reduceCtorEq, eq_self, iff_true, iff_false, ne_eq]; simp only [HasR] at *; omega)
theorem impl_IntegerLimit (d : Des) (i : Int) (hl : d.length ≤ maxLen) : ACv Tryz.prog 73 [desR d, .int i] (.int (lim d i)) := by
  unfold maxLen at hl
  refine ac_enter Tryz.func73 rfl _ Tryz.ntmps73 (by simp) fun C hn hm => ?_
  by_cases hx : HasR d i
  · obtain ⟨r, hr⟩ : ∃ r, d[i.toNat]? = some r := ⟨_, List.getElem?_eq_getElem (by omega)⟩
    have hb := pow8_le (s := r.size)
    by_cases hk : 0 ≤ i ∧ r.kind = 1 ∧ 1 ≤ r.size ∧ r.size ≤ 4
    · rw [lim_yes hr hk]
      repeat' (first
 | refine RunsL.step tabOk hn rfl ?_
 | refine RunsL.nil ?_
 | refine Runs.toRegion 30 rfl ?_
 | (refine RunsL.pe hn rfl rfl rfl ?_; first
 | refine ⟨_, pu_callR (hasRule_ac _ _) rfl, ?_⟩
 | refine ⟨_, pu_callR (inRange_ac _ _ _) rfl, ?_⟩
 | refine ⟨_, pu_pow rfl rfl (by omega), ?_⟩)
 | (refine Runs.ctls 30 rfl ?_; first | refine Runs.cond_t rfl ?_ | ((first | refine Runs.cond_yes rfl ?_ ?_ | refine Runs.cond_nno rfl ?_ ?_); · first | omega | rfl | assumption | (simp only [List.length_map]; omega)) | ((first | refine Runs.cond_no rfl ?_ ?_ | refine Runs.cond_nyes rfl ?_ ?_); · first | omega | rfl | assumption | (simp only [List.length_map]; omega)) | refine Runs.ret (ends_ro hm rfl rfl ?_) | exact Runs.ret (ends_cellR hm rfl rfl rfl (Nat.le_of_ble_eq_true rfl) rfl rfl))
 | refine op_box rfl (tl hn rfl) ?_
 | (refine RunsL.pe hn rfl rfl rfl ?_; first
 | refine ⟨_, pu_indexAddr_map rfl rfl (by omega) (by assumption), ?_⟩
 | refine ⟨_, pu_sub rfl rfl (by omega), ?_⟩
 | refine ⟨_, pu_mul rfl rfl (by omega), ?_⟩
          )
 | ((first | refine RunsL.guard_dec rfl rfl rfl ?_ ?_ | refine RunsL.guard_ndec rfl rfl rfl ?_ ?_ | refine RunsL.guard_nb rfl rfl rfl ?_ ?_ | refine RunsL.guard_b rfl rfl rfl ?_ ?_) <;> intro h <;> try (exfalso; first | omega | contradiction | (simp only [List.length_map] at h; omega))))
      exact rr_int rfl
    · rw [lim_no hr hk]
      repeat' (first
 | refine RunsL.step tabOk hn rfl ?_
 | refine RunsL.nil ?_
 | refine Runs.toRegion 30 rfl ?_
 | (refine RunsL.pe hn rfl rfl rfl ?_; first
 | refine ⟨_, pu_callR (hasRule_ac _ _) rfl, ?_⟩
 | refine ⟨_, pu_callR (inRange_ac _ _ _) rfl, ?_⟩
 | refine ⟨_, pu_pow rfl rfl (by omega), ?_⟩)
 | (refine Runs.ctls 30 rfl ?_; first | refine Runs.cond_t rfl ?_ | ((first | refine Runs.cond_yes rfl ?_ ?_ | refine Runs.cond_nno rfl ?_ ?_); · first | omega | rfl | assumption | (simp only [List.length_map]; omega)) | ((first | refine Runs.cond_no rfl ?_ ?_ | refine Runs.cond_nyes rfl ?_ ?_); · first | omega | rfl | assumption | (simp only [List.length_map]; omega)) | refine Runs.ret (ends_ro hm rfl rfl ?_) | exact Runs.ret (ends_cellR hm rfl rfl rfl (Nat.le_of_ble_eq_true rfl) rfl rfl))
 | refine op_box rfl (tl hn rfl) ?_
 | (refine RunsL.pe hn rfl rfl rfl ?_; first
 | refine ⟨_, pu_indexAddr_map rfl rfl (by omega) (by assumption), ?_⟩
 | refine ⟨_, pu_sub rfl rfl (by omega), ?_⟩
 | refine ⟨_, pu_mul rfl rfl (by omega), ?_⟩
          )
 | ((first | refine RunsL.guard_dec rfl rfl rfl ?_ ?_ | refine RunsL.guard_ndec rfl rfl rfl ?_ ?_ | refine RunsL.guard_nb rfl rfl rfl ?_ ?_ | refine RunsL.guard_b rfl rfl rfl ?_ ?_) <;> intro h <;> try (exfalso; first | omega | contradiction | (simp only [List.length_map] at h; omega))))
      all_goals exact rr_int rfl
  · rw [lim_out hx]
    repeat' (first
 | refine RunsL.step tabOk hn rfl ?_
 | refine RunsL.nil ?_
 | refine Runs.toRegion 30 rfl ?_
 | (refine RunsL.pe hn rfl rfl rfl ?_; first
 | refine ⟨_, pu_callR (hasRule_ac _ _) rfl, ?_⟩)
 | (refine Runs.ctls 30 rfl ?_; first | refine Runs.cond_t rfl ?_ | ((first | refine Runs.cond_yes rfl ?_ ?_ | refine Runs.cond_nno rfl ?_ ?_); · first | omega | rfl | assumption | (simp only [List.length_map]; omega)) | ((first | refine Runs.cond_no rfl ?_ ?_ | refine Runs.cond_nyes rfl ?_ ?_); · first | omega | rfl | assumption | (simp only [List.length_map]; omega)) | refine Runs.ret (ends_ro hm rfl rfl ?_) | exact Runs.ret (ends_cellR hm rfl rfl rfl (Nat.le_of_ble_eq_true rfl) rfl rfl))
 | refine op_box rfl (tl hn rfl) ?_
 | (refine RunsL.pe hn rfl rfl rfl ?_; first
 | refine ⟨_, pu_indexAddr_map rfl rfl (by omega) (by assumption), ?_⟩
 | refine ⟨_, pu_sub rfl rfl (by omega), ?_⟩
 | refine ⟨_, pu_mul rfl rfl (by omega), ?_⟩
        )
 | ((first | refine RunsL.guard_dec rfl rfl rfl ?_ ?_ | refine RunsL.guard_ndec rfl rfl rfl ?_ ?_ | refine RunsL.guard_nb rfl rfl rfl ?_ ?_ | refine RunsL.guard_b rfl rfl rfl ?_ ?_) <;> intro h <;> try (exfalso; first | omega | contradiction | (simp only [List.length_map] at h; omega))))
    all_goals exact rr_int rfl
theorem spec_IntegerLimit (d : Des) (i : Int) (hl : d.length ≤ maxLen) : ACv Tryz.prog 70 [desR d, .int i] (.int (lim d i)) := by
  have hlm : (d.map rulR).length = d.length := List.length_map ..
  unfold maxLen at hl
  refine ac_enter Tryz.func70 rfl _ Tryz.ntmps70 (by simp) fun C hn hm => ?_
  by_cases hx : HasR d i
  · obtain ⟨r, hr⟩ : ∃ r, d[i.toNat]? = some r := ⟨_, List.getElem?_eq_getElem (by omega)⟩
    have hb := pow8_le (s := r.size)
    by_cases hk : 0 ≤ i ∧ r.kind = 1 ∧ 1 ≤ r.size ∧ r.size ≤ 4
    · rw [lim_yes hr hk]
      repeat' (first
 | refine RunsL.step tabOk hn rfl ?_
 | refine RunsL.nil ?_
 | refine Runs.toRegion 30 rfl ?_
 | (refine RunsL.pe hn rfl rfl rfl ?_; first
 | refine ⟨_, pu_callR (l1In_ac _ _ _) rfl, ?_⟩
 | refine ⟨_, pu_callR (l2Power_ac r.size (by omega)) rfl, ?_⟩)
 | (refine Runs.ctls 30 rfl ?_; first | refine Runs.cond_t rfl ?_ | ((first | refine Runs.cond_yes rfl ?_ ?_ | refine Runs.cond_nno rfl ?_ ?_); · first | omega | rfl | assumption | (simp only [List.length_map]; omega)) | ((first | refine Runs.cond_no rfl ?_ ?_ | refine Runs.cond_nyes rfl ?_ ?_); · first | omega | rfl | assumption | (simp only [List.length_map]; omega)) | refine Runs.ret (ends_ro hm rfl rfl ?_) | exact Runs.ret (ends_cellR hm rfl rfl rfl (Nat.le_of_ble_eq_true rfl) rfl rfl))
 | refine op_box rfl (tl hn rfl) ?_
 | (refine RunsL.pe hn rfl rfl rfl ?_; first
 | refine ⟨_, pu_indexAddr_map rfl rfl (by omega) (by assumption), ?_⟩
 | refine ⟨_, pu_sub rfl rfl (by omega), ?_⟩
          )
 | ((first | refine RunsL.guard_dec rfl rfl rfl ?_ ?_ | refine RunsL.guard_ndec rfl rfl rfl ?_ ?_ | refine RunsL.guard_nb rfl rfl rfl ?_ ?_ | refine RunsL.guard_b rfl rfl rfl ?_ ?_) <;> intro h <;> try (exfalso; first | omega | contradiction | (simp only [List.length_map] at h; omega))))
      exact rr_int rfl
    · rw [lim_no hr hk]
      repeat' (first
 | refine RunsL.step tabOk hn rfl ?_
 | refine RunsL.nil ?_
 | refine Runs.toRegion 30 rfl ?_
 | (refine RunsL.pe hn rfl rfl rfl ?_; first
 | refine ⟨_, pu_callR (l1In_ac _ _ _) rfl, ?_⟩)
 | (refine Runs.ctls 30 rfl ?_; first | refine Runs.cond_t rfl ?_ | ((first | refine Runs.cond_yes rfl ?_ ?_ | refine Runs.cond_nno rfl ?_ ?_); · first | omega | rfl | assumption | (simp only [List.length_map]; omega)) | ((first | refine Runs.cond_no rfl ?_ ?_ | refine Runs.cond_nyes rfl ?_ ?_); · first | omega | rfl | assumption | (simp only [List.length_map]; omega)) | refine Runs.ret (ends_ro hm rfl rfl ?_) | exact Runs.ret (ends_cellR hm rfl rfl rfl (Nat.le_of_ble_eq_true rfl) rfl rfl))
 | refine op_box rfl (tl hn rfl) ?_
 | (refine RunsL.pe hn rfl rfl rfl ?_; first
 | refine ⟨_, pu_indexAddr_map rfl rfl (by omega) (by assumption), ?_⟩
 | refine ⟨_, pu_sub rfl rfl (by omega), ?_⟩
          )
 | ((first | refine RunsL.guard_dec rfl rfl rfl ?_ ?_ | refine RunsL.guard_ndec rfl rfl rfl ?_ ?_ | refine RunsL.guard_nb rfl rfl rfl ?_ ?_ | refine RunsL.guard_b rfl rfl rfl ?_ ?_) <;> intro h <;> try (exfalso; first | omega | contradiction | (simp only [List.length_map] at h; omega))))
      all_goals exact rr_int rfl
  · rw [lim_out hx]
    repeat' (first
 | refine RunsL.step tabOk hn rfl ?_
 | refine RunsL.nil ?_
 | refine Runs.toRegion 30 rfl ?_
 | (refine RunsL.pe hn rfl rfl rfl ?_; first
 | refine ⟨_, pu_callR (l1In_ac _ _ _) rfl, ?_⟩)
 | (refine Runs.ctls 30 rfl ?_; first | refine Runs.cond_t rfl ?_ | ((first | refine Runs.cond_yes rfl ?_ ?_ | refine Runs.cond_nno rfl ?_ ?_); · first | omega | rfl | assumption | (simp only [List.length_map]; omega)) | ((first | refine Runs.cond_no rfl ?_ ?_ | refine Runs.cond_nyes rfl ?_ ?_); · first | omega | rfl | assumption | (simp only [List.length_map]; omega)) | refine Runs.ret (ends_ro hm rfl rfl ?_) | exact Runs.ret (ends_cellR hm rfl rfl rfl (Nat.le_of_ble_eq_true rfl) rfl rfl))
 | refine op_box rfl (tl hn rfl) ?_
 | (refine RunsL.pe hn rfl rfl rfl ?_; first
 | refine ⟨_, pu_indexAddr_map rfl rfl (by omega) (by assumption), ?_⟩
 | refine ⟨_, pu_sub rfl rfl (by omega), ?_⟩
        )
 | ((first | refine RunsL.guard_dec rfl rfl rfl ?_ ?_ | refine RunsL.guard_ndec rfl rfl rfl ?_ ?_ | refine RunsL.guard_nb rfl rfl rfl ?_ ?_ | refine RunsL.guard_b rfl rfl rfl ?_ ?_) <;> intro h <;> try (exfalso; first | omega | contradiction | (simp only [List.length_map] at h; omega))))
    all_goals exact rr_int rfl
end Go.Proofs.YtkmoffefhlmgeaaGreatDoor
/- Shapes of rules: both sides, for each use of the flags. -/
namespace Go.Proofs.YtkmoffefhlmgeaaGreatDoor
set_option linter.unusedSimpArgs false
set_option linter.unusedVariables false
set_option linter.unusedSectionVars false
set_option maxRecDepth 100000
open Go.RowKit
def Plain (r : Rul) (a b c d : Bool) (k : Int) : Prop := (a = true ∨ r.size = 0) ∧ (b = true ∨ r.bytes.length = 0) ∧ (c = true ∨ r.names.length = 0) ∧ (d = true ∨ r.tags.length = 0) ∧ (k < 0 ∨ (r.kids.length : Int) = k)
def Shape (r : Rul) (a b c d : Bool) (k : Int) : Prop := Plain r a b c d k ∧ (r.little = false ∨ r.kind = 1)
noncomputable instance (r : Rul) (a b c d : Bool) (k : Int) : Decidable (Plain r a b c d k) := Classical.propDecidable _
noncomputable instance (r : Rul) (a b c d : Bool) (k : Int) : Decidable (Shape r a b c d k) := Classical.propDecidable _
set_option maxHeartbeats 4000000 in
theorem plainRule0_ac (r : Rul) (k : Int) : ACv Tryz.prog 91 [.agg (rulR r), .bool true, .bool false, .bool false, .bool false, .int k] (.bool (decide (Plain r true false false false k))) := by
  refine ac_enter Tryz.func91 rfl _ Tryz.ntmps91 (by simp) fun C hn hm => ?_
  repeat' (first
 | refine RunsL.step tabOk hn rfl ?_
 | refine RunsL.nil ?_
 | refine Runs.toRegion 30 rfl ?_
 | (refine Runs.ctls 30 rfl ?_; first | ((first | refine Runs.cond_yes rfl ?_ ?_ | refine Runs.cond_nno rfl ?_ ?_); · first | omega | rfl | assumption | (simp only [List.length_map]; omega)) | ((first | refine Runs.cond_no rfl ?_ ?_ | refine Runs.cond_nyes rfl ?_ ?_); · first | omega | rfl | assumption | (simp only [List.length_map]; omega)) | refine Runs.ret (ends_ro hm rfl rfl ?_) | exact Runs.ret (ends_cellR hm rfl rfl rfl (Nat.le_of_ble_eq_true rfl) rfl rfl))
 | refine op_box rfl (tl hn rfl) ?_
 | ((first | refine RunsL.guard_dec rfl rfl rfl ?_ ?_ | refine RunsL.guard_ndec rfl rfl rfl ?_ ?_ | refine RunsL.guard_nb rfl rfl rfl ?_ ?_ | refine RunsL.guard_b rfl rfl rfl ?_ ?_) <;> intro h <;> try (exfalso; first | omega | contradiction | (simp only [List.length_map] at h; omega))))
  all_goals exact rr_bool (by rw [Bool.eq_iff_iff]; simp only [decide_eq_true_eq, Bool.not_eq_true', decide_eq_false_iff_not, Bool.false_eq_true, true_iff, false_iff, Bool.and_eq_true, Bool.or_eq_true, Bool.not_eq_eq_eq_not, Bool.not_true, Bool.not_false, reduceCtorEq, eq_self, iff_true, iff_false, ne_eq]; simp only [Plain, List.length_map, true_or, false_or, true_and, reduceCtorEq, Bool.false_eq_true, Bool.true_eq_false] at *; first | (simp [*]; done) | (simp [*]; omega) | omega)
set_option maxHeartbeats 4000000 in
theorem plainRule1_ac (r : Rul) (k : Int) : ACv Tryz.prog 91 [.agg (rulR r), .bool false, .bool true, .bool false, .bool false, .int k] (.bool (decide (Plain r false true false false k))) := by
  refine ac_enter Tryz.func91 rfl _ Tryz.ntmps91 (by simp) fun C hn hm => ?_
  repeat' (first
 | refine RunsL.step tabOk hn rfl ?_
 | refine RunsL.nil ?_
 | refine Runs.toRegion 30 rfl ?_
 | (refine Runs.ctls 30 rfl ?_; first | ((first | refine Runs.cond_yes rfl ?_ ?_ | refine Runs.cond_nno rfl ?_ ?_); · first | omega | rfl | assumption | (simp only [List.length_map]; omega)) | ((first | refine Runs.cond_no rfl ?_ ?_ | refine Runs.cond_nyes rfl ?_ ?_); · first | omega | rfl | assumption | (simp only [List.length_map]; omega)) | refine Runs.ret (ends_ro hm rfl rfl ?_) | exact Runs.ret (ends_cellR hm rfl rfl rfl (Nat.le_of_ble_eq_true rfl) rfl rfl))
 | refine op_box rfl (tl hn rfl) ?_
 | ((first | refine RunsL.guard_dec rfl rfl rfl ?_ ?_ | refine RunsL.guard_ndec rfl rfl rfl ?_ ?_ | refine RunsL.guard_nb rfl rfl rfl ?_ ?_ | refine RunsL.guard_b rfl rfl rfl ?_ ?_) <;> intro h <;> try (exfalso; first | omega | contradiction | (simp only [List.length_map] at h; omega))))
  all_goals exact rr_bool (by rw [Bool.eq_iff_iff]; simp only [decide_eq_true_eq, Bool.not_eq_true', decide_eq_false_iff_not, Bool.false_eq_true, true_iff, false_iff, Bool.and_eq_true, Bool.or_eq_true, Bool.not_eq_eq_eq_not, Bool.not_true, Bool.not_false, reduceCtorEq, eq_self, iff_true, iff_false, ne_eq]; simp only [Plain, List.length_map, true_or, false_or, true_and, reduceCtorEq, Bool.false_eq_true, Bool.true_eq_false] at *; first | (simp [*]; done) | (simp [*]; omega) | omega)
set_option maxHeartbeats 4000000 in
theorem plainRule2_ac (r : Rul) (k : Int) : ACv Tryz.prog 91 [.agg (rulR r), .bool false, .bool false, .bool true, .bool false, .int k] (.bool (decide (Plain r false false true false k))) := by
  refine ac_enter Tryz.func91 rfl _ Tryz.ntmps91 (by simp) fun C hn hm => ?_
  repeat' (first
 | refine RunsL.step tabOk hn rfl ?_
 | refine RunsL.nil ?_
 | refine Runs.toRegion 30 rfl ?_
 | (refine Runs.ctls 30 rfl ?_; first | ((first | refine Runs.cond_yes rfl ?_ ?_ | refine Runs.cond_nno rfl ?_ ?_); · first | omega | rfl | assumption | (simp only [List.length_map]; omega)) | ((first | refine Runs.cond_no rfl ?_ ?_ | refine Runs.cond_nyes rfl ?_ ?_); · first | omega | rfl | assumption | (simp only [List.length_map]; omega)) | refine Runs.ret (ends_ro hm rfl rfl ?_) | exact Runs.ret (ends_cellR hm rfl rfl rfl (Nat.le_of_ble_eq_true rfl) rfl rfl))
 | refine op_box rfl (tl hn rfl) ?_
 | ((first | refine RunsL.guard_dec rfl rfl rfl ?_ ?_ | refine RunsL.guard_ndec rfl rfl rfl ?_ ?_ | refine RunsL.guard_nb rfl rfl rfl ?_ ?_ | refine RunsL.guard_b rfl rfl rfl ?_ ?_) <;> intro h <;> try (exfalso; first | omega | contradiction | (simp only [List.length_map] at h; omega))))
  all_goals exact rr_bool (by rw [Bool.eq_iff_iff]; simp only [decide_eq_true_eq, Bool.not_eq_true', decide_eq_false_iff_not, Bool.false_eq_true, true_iff, false_iff, Bool.and_eq_true, Bool.or_eq_true, Bool.not_eq_eq_eq_not, Bool.not_true, Bool.not_false, reduceCtorEq, eq_self, iff_true, iff_false, ne_eq]; simp only [Plain, List.length_map, true_or, false_or, true_and, reduceCtorEq, Bool.false_eq_true, Bool.true_eq_false] at *; first | (simp [*]; done) | (simp [*]; omega) | omega)
set_option maxHeartbeats 4000000 in
theorem plainRule3_ac (r : Rul) (k : Int) : ACv Tryz.prog 91 [.agg (rulR r), .bool false, .bool false, .bool false, .bool true, .int k] (.bool (decide (Plain r false false false true k))) := by
  refine ac_enter Tryz.func91 rfl _ Tryz.ntmps91 (by simp) fun C hn hm => ?_
  repeat' (first
 | refine RunsL.step tabOk hn rfl ?_
 | refine RunsL.nil ?_
 | refine Runs.toRegion 30 rfl ?_
 | (refine Runs.ctls 30 rfl ?_; first | ((first | refine Runs.cond_yes rfl ?_ ?_ | refine Runs.cond_nno rfl ?_ ?_); · first | omega | rfl | assumption | (simp only [List.length_map]; omega)) | ((first | refine Runs.cond_no rfl ?_ ?_ | refine Runs.cond_nyes rfl ?_ ?_); · first | omega | rfl | assumption | (simp only [List.length_map]; omega)) | refine Runs.ret (ends_ro hm rfl rfl ?_) | exact Runs.ret (ends_cellR hm rfl rfl rfl (Nat.le_of_ble_eq_true rfl) rfl rfl))
 | refine op_box rfl (tl hn rfl) ?_
 | ((first | refine RunsL.guard_dec rfl rfl rfl ?_ ?_ | refine RunsL.guard_ndec rfl rfl rfl ?_ ?_ | refine RunsL.guard_nb rfl rfl rfl ?_ ?_ | refine RunsL.guard_b rfl rfl rfl ?_ ?_) <;> intro h <;> try (exfalso; first | omega | contradiction | (simp only [List.length_map] at h; omega))))
  all_goals exact rr_bool (by rw [Bool.eq_iff_iff]; simp only [decide_eq_true_eq, Bool.not_eq_true', decide_eq_false_iff_not, Bool.false_eq_true, true_iff, false_iff, Bool.and_eq_true, Bool.or_eq_true, Bool.not_eq_eq_eq_not, Bool.not_true, Bool.not_false, reduceCtorEq, eq_self, iff_true, iff_false, ne_eq]; simp only [Plain, List.length_map, true_or, false_or, true_and, reduceCtorEq, Bool.false_eq_true, Bool.true_eq_false] at *; first | (simp [*]; done) | (simp [*]; omega) | omega)
set_option maxHeartbeats 4000000 in
theorem plainRule4_ac (r : Rul) (k : Int) : ACv Tryz.prog 91 [.agg (rulR r), .bool false, .bool false, .bool false, .bool false, .int k] (.bool (decide (Plain r false false false false k))) := by
  refine ac_enter Tryz.func91 rfl _ Tryz.ntmps91 (by simp) fun C hn hm => ?_
  repeat' (first
 | refine RunsL.step tabOk hn rfl ?_
 | refine RunsL.nil ?_
 | refine Runs.toRegion 30 rfl ?_
 | (refine Runs.ctls 30 rfl ?_; first | ((first | refine Runs.cond_yes rfl ?_ ?_ | refine Runs.cond_nno rfl ?_ ?_); · first | omega | rfl | assumption | (simp only [List.length_map]; omega)) | ((first | refine Runs.cond_no rfl ?_ ?_ | refine Runs.cond_nyes rfl ?_ ?_); · first | omega | rfl | assumption | (simp only [List.length_map]; omega)) | refine Runs.ret (ends_ro hm rfl rfl ?_) | exact Runs.ret (ends_cellR hm rfl rfl rfl (Nat.le_of_ble_eq_true rfl) rfl rfl))
 | refine op_box rfl (tl hn rfl) ?_
 | ((first | refine RunsL.guard_dec rfl rfl rfl ?_ ?_ | refine RunsL.guard_ndec rfl rfl rfl ?_ ?_ | refine RunsL.guard_nb rfl rfl rfl ?_ ?_ | refine RunsL.guard_b rfl rfl rfl ?_ ?_) <;> intro h <;> try (exfalso; first | omega | contradiction | (simp only [List.length_map] at h; omega))))
  all_goals exact rr_bool (by rw [Bool.eq_iff_iff]; simp only [decide_eq_true_eq, Bool.not_eq_true', decide_eq_false_iff_not, Bool.false_eq_true, true_iff, false_iff, Bool.and_eq_true, Bool.or_eq_true, Bool.not_eq_eq_eq_not, Bool.not_true, Bool.not_false, reduceCtorEq, eq_self, iff_true, iff_false, ne_eq]; simp only [Plain, List.length_map, true_or, false_or, true_and, reduceCtorEq, Bool.false_eq_true, Bool.true_eq_false] at *; first | (simp [*]; done) | (simp [*]; omega) | omega)
set_option maxHeartbeats 4000000 in
theorem l4Shape0_ac (r : Rul) (k : Int) : ACv Tryz.prog 88 [.agg (rulR r), .bool true, .bool false, .bool false, .bool false, .int k] (.bool (decide (Shape r true false false false k))) := by
  obtain ⟨nm, kd, sz, li, bs, ns, tg, ki⟩ := r
  cases li
  all_goals
    refine ac_enter Tryz.func88 rfl _ Tryz.ntmps88 (by simp) fun C hn hm => ?_
    repeat' (first
 | refine RunsL.step tabOk hn rfl ?_
 | refine RunsL.nil ?_
 | refine Runs.toRegion 30 rfl ?_
 | (refine Runs.ctls 30 rfl ?_; first | ((first | refine Runs.cond_yes rfl ?_ ?_ | refine Runs.cond_nno rfl ?_ ?_); · first | omega | rfl | assumption | (simp only [List.length_map]; omega)) | ((first | refine Runs.cond_no rfl ?_ ?_ | refine Runs.cond_nyes rfl ?_ ?_); · first | omega | rfl | assumption | (simp only [List.length_map]; omega)) | refine Runs.ret (ends_ro hm rfl rfl ?_) | exact Runs.ret (ends_cellR hm rfl rfl rfl (Nat.le_of_ble_eq_true rfl) rfl rfl))
 | refine op_box rfl (tl hn rfl) ?_
 | ((first | refine RunsL.guard_dec rfl rfl rfl ?_ ?_ | refine RunsL.guard_ndec rfl rfl rfl ?_ ?_ | refine RunsL.guard_nb rfl rfl rfl ?_ ?_ | refine RunsL.guard_b rfl rfl rfl ?_ ?_) <;> intro h <;> try (exfalso; first | omega | contradiction | (simp only [List.length_map] at h; omega))))
  all_goals exact rr_bool (by rw [Bool.eq_iff_iff]; simp only [decide_eq_true_eq, Bool.not_eq_true', decide_eq_false_iff_not, Bool.false_eq_true, true_iff, false_iff, Bool.and_eq_true, Bool.or_eq_true, Bool.not_eq_eq_eq_not, Bool.not_true, Bool.not_false, reduceCtorEq, eq_self, iff_true, iff_false, ne_eq]; simp only [Shape, Plain, List.length_map, true_or, false_or, true_and, reduceCtorEq, Bool.false_eq_true, Bool.true_eq_false, true_and, and_true, or_true] at *; first | (simp [*]; done) | (simp [*]; omega) | omega)
set_option maxHeartbeats 4000000 in
theorem l4Shape1_ac (r : Rul) (k : Int) : ACv Tryz.prog 88 [.agg (rulR r), .bool false, .bool true, .bool false, .bool false, .int k] (.bool (decide (Shape r false true false false k))) := by
  obtain ⟨nm, kd, sz, li, bs, ns, tg, ki⟩ := r
  cases li
  all_goals
    refine ac_enter Tryz.func88 rfl _ Tryz.ntmps88 (by simp) fun C hn hm => ?_
    repeat' (first
 | refine RunsL.step tabOk hn rfl ?_
 | refine RunsL.nil ?_
 | refine Runs.toRegion 30 rfl ?_
 | (refine Runs.ctls 30 rfl ?_; first | ((first | refine Runs.cond_yes rfl ?_ ?_ | refine Runs.cond_nno rfl ?_ ?_); · first | omega | rfl | assumption | (simp only [List.length_map]; omega)) | ((first | refine Runs.cond_no rfl ?_ ?_ | refine Runs.cond_nyes rfl ?_ ?_); · first | omega | rfl | assumption | (simp only [List.length_map]; omega)) | refine Runs.ret (ends_ro hm rfl rfl ?_) | exact Runs.ret (ends_cellR hm rfl rfl rfl (Nat.le_of_ble_eq_true rfl) rfl rfl))
 | refine op_box rfl (tl hn rfl) ?_
 | ((first | refine RunsL.guard_dec rfl rfl rfl ?_ ?_ | refine RunsL.guard_ndec rfl rfl rfl ?_ ?_ | refine RunsL.guard_nb rfl rfl rfl ?_ ?_ | refine RunsL.guard_b rfl rfl rfl ?_ ?_) <;> intro h <;> try (exfalso; first | omega | contradiction | (simp only [List.length_map] at h; omega))))
  all_goals exact rr_bool (by rw [Bool.eq_iff_iff]; simp only [decide_eq_true_eq, Bool.not_eq_true', decide_eq_false_iff_not, Bool.false_eq_true, true_iff, false_iff, Bool.and_eq_true, Bool.or_eq_true, Bool.not_eq_eq_eq_not, Bool.not_true, Bool.not_false, reduceCtorEq, eq_self, iff_true, iff_false, ne_eq]; simp only [Shape, Plain, List.length_map, true_or, false_or, true_and, reduceCtorEq, Bool.false_eq_true, Bool.true_eq_false, true_and, and_true, or_true] at *; first | (simp [*]; done) | (simp [*]; omega) | omega)
set_option maxHeartbeats 4000000 in
theorem l4Shape2_ac (r : Rul) (k : Int) : ACv Tryz.prog 88 [.agg (rulR r), .bool false, .bool false, .bool true, .bool false, .int k] (.bool (decide (Shape r false false true false k))) := by
  obtain ⟨nm, kd, sz, li, bs, ns, tg, ki⟩ := r
  cases li
  all_goals
    refine ac_enter Tryz.func88 rfl _ Tryz.ntmps88 (by simp) fun C hn hm => ?_
    repeat' (first
 | refine RunsL.step tabOk hn rfl ?_
 | refine RunsL.nil ?_
 | refine Runs.toRegion 30 rfl ?_
 | (refine Runs.ctls 30 rfl ?_; first | ((first | refine Runs.cond_yes rfl ?_ ?_ | refine Runs.cond_nno rfl ?_ ?_); · first | omega | rfl | assumption | (simp only [List.length_map]; omega)) | ((first | refine Runs.cond_no rfl ?_ ?_ | refine Runs.cond_nyes rfl ?_ ?_); · first | omega | rfl | assumption | (simp only [List.length_map]; omega)) | refine Runs.ret (ends_ro hm rfl rfl ?_) | exact Runs.ret (ends_cellR hm rfl rfl rfl (Nat.le_of_ble_eq_true rfl) rfl rfl))
 | refine op_box rfl (tl hn rfl) ?_
 | ((first | refine RunsL.guard_dec rfl rfl rfl ?_ ?_ | refine RunsL.guard_ndec rfl rfl rfl ?_ ?_ | refine RunsL.guard_nb rfl rfl rfl ?_ ?_ | refine RunsL.guard_b rfl rfl rfl ?_ ?_) <;> intro h <;> try (exfalso; first | omega | contradiction | (simp only [List.length_map] at h; omega))))
  all_goals exact rr_bool (by rw [Bool.eq_iff_iff]; simp only [decide_eq_true_eq, Bool.not_eq_true', decide_eq_false_iff_not, Bool.false_eq_true, true_iff, false_iff, Bool.and_eq_true, Bool.or_eq_true, Bool.not_eq_eq_eq_not, Bool.not_true, Bool.not_false, reduceCtorEq, eq_self, iff_true, iff_false, ne_eq]; simp only [Shape, Plain, List.length_map, true_or, false_or, true_and, reduceCtorEq, Bool.false_eq_true, Bool.true_eq_false, true_and, and_true, or_true] at *; first | (simp [*]; done) | (simp [*]; omega) | omega)
set_option maxHeartbeats 4000000 in
theorem l4Shape3_ac (r : Rul) (k : Int) : ACv Tryz.prog 88 [.agg (rulR r), .bool false, .bool false, .bool false, .bool true, .int k] (.bool (decide (Shape r false false false true k))) := by
  obtain ⟨nm, kd, sz, li, bs, ns, tg, ki⟩ := r
  cases li
  all_goals
    refine ac_enter Tryz.func88 rfl _ Tryz.ntmps88 (by simp) fun C hn hm => ?_
    repeat' (first
 | refine RunsL.step tabOk hn rfl ?_
 | refine RunsL.nil ?_
 | refine Runs.toRegion 30 rfl ?_
 | (refine Runs.ctls 30 rfl ?_; first | ((first | refine Runs.cond_yes rfl ?_ ?_ | refine Runs.cond_nno rfl ?_ ?_); · first | omega | rfl | assumption | (simp only [List.length_map]; omega)) | ((first | refine Runs.cond_no rfl ?_ ?_ | refine Runs.cond_nyes rfl ?_ ?_); · first | omega | rfl | assumption | (simp only [List.length_map]; omega)) | refine Runs.ret (ends_ro hm rfl rfl ?_) | exact Runs.ret (ends_cellR hm rfl rfl rfl (Nat.le_of_ble_eq_true rfl) rfl rfl))
 | refine op_box rfl (tl hn rfl) ?_
 | ((first | refine RunsL.guard_dec rfl rfl rfl ?_ ?_ | refine RunsL.guard_ndec rfl rfl rfl ?_ ?_ | refine RunsL.guard_nb rfl rfl rfl ?_ ?_ | refine RunsL.guard_b rfl rfl rfl ?_ ?_) <;> intro h <;> try (exfalso; first | omega | contradiction | (simp only [List.length_map] at h; omega))))
  all_goals exact rr_bool (by rw [Bool.eq_iff_iff]; simp only [decide_eq_true_eq, Bool.not_eq_true', decide_eq_false_iff_not, Bool.false_eq_true, true_iff, false_iff, Bool.and_eq_true, Bool.or_eq_true, Bool.not_eq_eq_eq_not, Bool.not_true, Bool.not_false, reduceCtorEq, eq_self, iff_true, iff_false, ne_eq]; simp only [Shape, Plain, List.length_map, true_or, false_or, true_and, reduceCtorEq, Bool.false_eq_true, Bool.true_eq_false, true_and, and_true, or_true] at *; first | (simp [*]; done) | (simp [*]; omega) | omega)
set_option maxHeartbeats 4000000 in
theorem l4Shape4_ac (r : Rul) (k : Int) : ACv Tryz.prog 88 [.agg (rulR r), .bool false, .bool false, .bool false, .bool false, .int k] (.bool (decide (Shape r false false false false k))) := by
  obtain ⟨nm, kd, sz, li, bs, ns, tg, ki⟩ := r
  cases li
  all_goals
    refine ac_enter Tryz.func88 rfl _ Tryz.ntmps88 (by simp) fun C hn hm => ?_
    repeat' (first
 | refine RunsL.step tabOk hn rfl ?_
 | refine RunsL.nil ?_
 | refine Runs.toRegion 30 rfl ?_
 | (refine Runs.ctls 30 rfl ?_; first | ((first | refine Runs.cond_yes rfl ?_ ?_ | refine Runs.cond_nno rfl ?_ ?_); · first | omega | rfl | assumption | (simp only [List.length_map]; omega)) | ((first | refine Runs.cond_no rfl ?_ ?_ | refine Runs.cond_nyes rfl ?_ ?_); · first | omega | rfl | assumption | (simp only [List.length_map]; omega)) | refine Runs.ret (ends_ro hm rfl rfl ?_) | exact Runs.ret (ends_cellR hm rfl rfl rfl (Nat.le_of_ble_eq_true rfl) rfl rfl))
 | refine op_box rfl (tl hn rfl) ?_
 | ((first | refine RunsL.guard_dec rfl rfl rfl ?_ ?_ | refine RunsL.guard_ndec rfl rfl rfl ?_ ?_ | refine RunsL.guard_nb rfl rfl rfl ?_ ?_ | refine RunsL.guard_b rfl rfl rfl ?_ ?_) <;> intro h <;> try (exfalso; first | omega | contradiction | (simp only [List.length_map] at h; omega))))
  all_goals exact rr_bool (by rw [Bool.eq_iff_iff]; simp only [decide_eq_true_eq, Bool.not_eq_true', decide_eq_false_iff_not, Bool.false_eq_true, true_iff, false_iff, Bool.and_eq_true, Bool.or_eq_true, Bool.not_eq_eq_eq_not, Bool.not_true, Bool.not_false, reduceCtorEq, eq_self, iff_true, iff_false, ne_eq]; simp only [Shape, Plain, List.length_map, true_or, false_or, true_and, reduceCtorEq, Bool.false_eq_true, Bool.true_eq_false, true_and, and_true, or_true] at *; first | (simp [*]; done) | (simp [*]; omega) | omega)
end Go.Proofs.YtkmoffefhlmgeaaGreatDoor
