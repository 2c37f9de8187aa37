/- Contracts of functions over values: what goes in is read-only data, what comes out is data or rows of its own. Over any program. -/
import Derived.Test.YtnbjncafoahclaaDoorOps
namespace Go.Proofs.YtnbjncafoahclaaDoor
set_option linter.unusedSimpArgs false
set_option linter.unusedVariables false
open Go.RowKit
open AV (Mem Keeps)

/-! ### What comes out. -/
inductive RR where
  | ro (r : RV)
  | row (e : TypeId) (sz : Nat) (cs : List RV)
  | agg (rs : List RR)
  | tup (rs : List RR)
namespace RR
mutual
/-- The value u is such a result; its rows lie in the blocks bs. -/
def rel (w : World) (ok : Nat → Prop) : RR → Value → List Nat → Prop
  | .ro r, u, bs => r.rel w ok u ∧ bs = []
  | .row e sz cs, u, bs => ∃ n xs, cs.length = n * sz ∧ 0 < sz ∧ RV.rels w ok cs xs ∧ (∀ x ∈ xs, x.oneCell' = true) ∧ w.ownsRow 0 e sz u n xs ∧ bs = u.ownBlock.toList
  | .agg rs, u, bs => ∃ us : Array Value, u = .agg us ∧ rels w ok rs us.toList bs
  | .tup rs, u, bs => ∃ us : Array Value, u = .tuple us ∧ rels w ok rs us.toList bs
def rels (w : World) (ok : Nat → Prop) : List RR → List Value → List Nat → Prop
  | [], us, bs => us = [] ∧ bs = []
  | x :: xs, us, bs => ∃ u us' b bs', us = u :: us' ∧ bs = b ++ bs' ∧ rel w ok x u b ∧ rels w ok xs us' bs'
end
end RR
/-- The contract of a function: with these arguments it returns a result of R; what was there stays; the result's rows are new, and differ. -/
def AC (P : Program) (f : FuncId) (args : List RV) (R : RR → Prop) : Prop :=
  ∀ (w : World) (ok : Nat → Prop) (us : Array Value), (∀ b, w.heap.size ≤ b → ok b) → RV.rels w ok args us.toList →
    Calls P f us w fun e w' => ∃ u rr bs, e = .returned u ∧ R rr ∧ RR.rel w' (fun b => ok b ∧ b ∉ bs) rr u bs ∧ bs.Nodup ∧ (∀ b ∈ bs, w.heap.size ≤ b ∧ b < w'.heap.size) ∧ Below w.heap.size w w'
theorem AC.mono {P : Program} {f : FuncId} {args : List RV} {R R' : RR → Prop} (h : AC P f args R) (hr : ∀ rr, R rr → R' rr) : AC P f args R' :=
  fun w ok us h0 hu => (h w ok us h0 hu).mono fun _ _ ⟨u, rr, bs, e, h1, h2⟩ => ⟨u, rr, bs, e, hr rr h1, h2⟩
/-- .. it returns just this data. -/
abbrev ACv (P : Program) (f : FuncId) (args : List RV) (r : RV) : Prop := AC P f args fun rr => rr = .ro r

/-! ### Harvest: a result out of a frame. -/
mutual
def Harv (σ : List Ob) : RR → AV → List Nat → Prop
  | .ro r, v, is => v = .ro r ∧ is = []
  | .row e sz cs, v, is => ∃ i, v = .own i ∧ σ[i]? = some ⟨e, sz, cs.map .ro⟩ ∧ is = [i]
  | .agg rs, v, is => ∃ vs, v = .agg vs ∧ Harvs σ rs vs is
  | .tup rs, v, is => ∃ vs, v = .tup vs ∧ Harvs σ rs vs is
def Harvs (σ : List Ob) : List RR → List AV → List Nat → Prop
  | [], vs, is => vs = [] ∧ is = []
  | x :: xs, vs, is => ∃ v vs' i is', vs = v :: vs' ∧ is = i ++ is' ∧ Harv σ x v i ∧ Harvs σ xs vs' is'
end
def blocks (φ : Nat → Option Nat) (is : List Nat) : List Nat := is.flatMap fun i => (φ i).toList
theorem blocks_append (φ : Nat → Option Nat) (a b : List Nat) : blocks φ (a ++ b) = blocks φ a ++ blocks φ b := by simp [blocks]
section
variable {C : Ctx} {m : Mem}
theorem rels_ro_inv {m : Mem} : ∀ (rs : List RV) (us : List Value), AV.rels m (rs.map .ro) us → RV.rels m.w m.ok rs us
  | [], us, h => by simpa [AV.rels, RV.rels] using h
  | x :: xs, us, h => by
    simp only [List.map_cons, AV.rels] at h
    obtain ⟨u, us', rfl, h1, h2⟩ := h
    simp only [RV.rels]
    exact ⟨u, us', rfl, by simpa only [AV.rel] using h1, rels_ro_inv xs us' h2⟩
/-- The cells of an object of read-only values. -/
theorem row_own (hG : Good C m) {i : Nat} {e : TypeId} {sz : Nat} {cs : List RV} (hi : m.σ[i]? = some ⟨e, sz, cs.map .ro⟩) {u : Value} (hu : AV.rel m (.own i) u) :
    ∃ n xs, cs.length = n * sz ∧ 0 < sz ∧ RV.rels m.w m.ok cs xs ∧ (∀ x ∈ xs, x.oneCell' = true) ∧ m.w.ownsRow 0 e sz u n xs ∧ u.ownBlock.toList = (m.φ i).toList := by
  simp only [AV.rel] at hu
  obtain ⟨ob, n, h1, h2, h3, h4⟩ := hu
  rw [hi] at h1; injection h1 with h1; subst h1
  simp only [List.length_map] at h2 h3 h4
  rcases h4 with ⟨rfl, rfl, hφ⟩ | ⟨g, cap, us, hφ, rfl, hh, c1, c2, c3⟩
  · have : cs = [] := List.eq_nil_of_length_eq_zero (by omega)
    subst this
    exact ⟨0, [], by simp, h3, by simp [RV.rels], by simp, World.ownsRow_nil _ _ _ _, by simp [Value.ownBlock, hφ]⟩
  · have hob := hG.ob i _ hi
    rw [hφ] at hob
    obtain ⟨us', q1, q2, q3⟩ := hob
    simp only at q1
    rw [hh] at q1; injection q1 with q1; injection q1 with q1; subst q1
    simp only [List.length_map] at q2 q3
    have hl : (us.toList.take (n * sz)).length = n * sz := by rw [List.length_take, Array.length_toList, c3]; exact Nat.min_eq_left (Nat.mul_le_mul_right _ c1)
    refine ⟨n, us.toList.take (n * sz), h2, h3, RV.rels_of cs _ (by omega) fun j r x e1 e2 => ?_, fun x hx => ?_, ⟨hl, .inr ⟨g, cap, us, rfl, Nat.zero_le _, hh, c1, c2, c3, rfl⟩⟩, by simp [Value.ownBlock, hφ]⟩
    · obtain ⟨y, k1, _, k3⟩ := q3 j (.ro r) (by simp [e1])
      rw [List.getElem?_take] at e2
      split at e2
      · have : x = y := by simpa [k1] using e2.symm
        subst this
        simpa only [AV.rel] using k3
      · cases e2
    · obtain ⟨j, hj, rfl⟩ := List.getElem_of_mem hx
      have hj' : j < cs.length := by omega
      obtain ⟨y, k1, k2, _⟩ := q3 j (.ro cs[j]) (by simp [hj'])
      have : (us.toList.take (n * sz))[j] = y := by
        have := Array.getElem?_eq_some_iff.1 k1
        simp [← this.2]
      rw [this]; exact k2
mutual
theorem harv_rel (hG : Good C m) : ∀ (rr : RR) (v : AV) (u : Value) (is : List Nat), Harv m.σ rr v is → AV.rel m v u → rr.rel m.w m.ok u (blocks m.φ is)
  | .ro r, v, u, is, hh, hu => by
    simp only [Harv] at hh
    obtain ⟨rfl, rfl⟩ := hh
    simp only [RR.rel]
    exact ⟨by simpa only [AV.rel] using hu, rfl⟩
  | .row e sz cs, v, u, is, hh, hu => by
    simp only [Harv] at hh
    obtain ⟨i, rfl, hi, rfl⟩ := hh
    obtain ⟨n, xs, h1, h2, h3, h4, h5, h6⟩ := row_own hG hi hu
    simp only [RR.rel]
    exact ⟨n, xs, h1, h2, h3, h4, h5, by simp [blocks, h6]⟩
  | .agg rs, v, u, is, hh, hu => by
    simp only [Harv] at hh
    obtain ⟨vs, rfl, hh⟩ := hh
    simp only [AV.rel] at hu
    obtain ⟨us, rfl, hu⟩ := hu
    simp only [RR.rel]
    exact ⟨us, rfl, harvs_rel hG rs vs _ is hh hu⟩
  | .tup rs, v, u, is, hh, hu => by
    simp only [Harv] at hh
    obtain ⟨vs, rfl, hh⟩ := hh
    simp only [AV.rel] at hu
    obtain ⟨us, rfl, hu⟩ := hu
    simp only [RR.rel]
    exact ⟨us, rfl, harvs_rel hG rs vs _ is hh hu⟩
theorem harvs_rel (hG : Good C m) : ∀ (rs : List RR) (vs : List AV) (us : List Value) (is : List Nat), Harvs m.σ rs vs is → AV.rels m vs us → RR.rels m.w m.ok rs us (blocks m.φ is)
  | [], vs, us, is, hh, hu => by
    simp only [Harvs] at hh
    obtain ⟨rfl, rfl⟩ := hh
    simp only [AV.rels] at hu
    simp [RR.rels, hu, blocks]
  | x :: xs, vs, us, is, hh, hu => by
    simp only [Harvs] at hh
    obtain ⟨v, vs', i, is', rfl, rfl, h1, h2⟩ := hh
    simp only [AV.rels] at hu
    obtain ⟨u, us', rfl, k1, k2⟩ := hu
    simp only [RR.rels]
    exact ⟨u, us', _, _, rfl, blocks_append _ _ _, harv_rel hG x v u i h1 k1, harvs_rel hG xs vs' us' is' h2 k2⟩
end
mutual
theorem harv_lt (σ : List Ob) : ∀ (rr : RR) (v : AV) (is : List Nat), Harv σ rr v is → ∀ i ∈ is, i < σ.length
  | .ro r, v, is, hh => by simp only [Harv] at hh; simp [hh.2]
  | .row e sz cs, v, is, hh => by
    simp only [Harv] at hh
    obtain ⟨i, rfl, hi, rfl⟩ := hh
    simpa using (List.getElem?_eq_some_iff.1 hi).1
  | .agg rs, v, is, hh => by simp only [Harv] at hh; obtain ⟨vs, _, hh⟩ := hh; exact harvs_lt σ rs vs is hh
  | .tup rs, v, is, hh => by simp only [Harv] at hh; obtain ⟨vs, _, hh⟩ := hh; exact harvs_lt σ rs vs is hh
theorem harvs_lt (σ : List Ob) : ∀ (rs : List RR) (vs : List AV) (is : List Nat), Harvs σ rs vs is → ∀ i ∈ is, i < σ.length
  | [], vs, is, hh => by simp only [Harvs] at hh; simp [hh.2]
  | x :: xs, vs, is, hh => by
    simp only [Harvs] at hh
    obtain ⟨v, vs', i, is', rfl, rfl, h1, h2⟩ := hh
    intro j hj
    rcases List.mem_append.1 hj with h | h
    · exact harv_lt σ x v i h1 j h
    · exact harvs_lt σ xs vs' is' h2 j h
end
mutual
theorem RR.rel_mono {w : World} {ok ok' : Nat → Prop} (h : ∀ b, ok b → ok' b) : ∀ (rr : RR) (u : Value) (bs : List Nat), rr.rel w ok u bs → rr.rel w ok' u bs
  | .ro r, u, bs, hr => by simp only [RR.rel] at hr ⊢; exact ⟨RV.rel_mono ⟨Nat.le_refl _, fun b _ hb => ⟨h b hb, rfl⟩⟩ r u hr.1, hr.2⟩
  | .row e sz cs, u, bs, hr => by
    simp only [RR.rel] at hr ⊢
    obtain ⟨n, xs, h1, h2, h3, h4⟩ := hr
    exact ⟨n, xs, h1, h2, RV.rels_mono ⟨Nat.le_refl _, fun b _ hb => ⟨h b hb, rfl⟩⟩ _ _ h3, h4⟩
  | .agg rs, u, bs, hr => by simp only [RR.rel] at hr ⊢; obtain ⟨us, e, hr⟩ := hr; exact ⟨us, e, RR.rels_mono h rs _ _ hr⟩
  | .tup rs, u, bs, hr => by simp only [RR.rel] at hr ⊢; obtain ⟨us, e, hr⟩ := hr; exact ⟨us, e, RR.rels_mono h rs _ _ hr⟩
theorem RR.rels_mono {w : World} {ok ok' : Nat → Prop} (h : ∀ b, ok b → ok' b) : ∀ (rs : List RR) (us : List Value) (bs : List Nat), RR.rels w ok rs us bs → RR.rels w ok' rs us bs
  | [], us, bs, hr => by simpa [RR.rels] using hr
  | x :: xs, us, bs, hr => by
    simp only [RR.rels] at hr ⊢
    obtain ⟨u, us', b, bs', e1, e2, h1, h2⟩ := hr
    exact ⟨u, us', b, bs', e1, e2, RR.rel_mono h x u b h1, RR.rels_mono h xs us' bs' h2⟩
end
theorem mem_blocks {φ : Nat → Option Nat} {is : List Nat} {b : Nat} : b ∈ blocks φ is ↔ ∃ i ∈ is, φ i = some b := by
  simp [blocks, Option.mem_toList]
theorem blocks_nodup (hG : Good C m) : ∀ (is : List Nat), is.Nodup → (∀ i ∈ is, i < m.σ.length) → (blocks m.φ is).Nodup
  | [], _, _ => by simp [blocks]
  | i :: is, hn, hl => by
    have e : blocks m.φ (i :: is) = (m.φ i).toList ++ blocks m.φ is := by simp [blocks]
    rw [e, List.nodup_append]
    rw [List.nodup_cons] at hn
    refine ⟨by cases m.φ i <;> simp, blocks_nodup hG is hn.2 (fun j hj => hl j (by simp [hj])), fun a ha b hb => ?_⟩
    rintro rfl
    obtain ⟨j, hj, hjb⟩ := mem_blocks.1 hb
    have hi : m.φ i = some a := by simpa [Option.mem_toList] using ha
    have := hG.inj i j a (hl i (by simp)) (hl j (by simp [hj])) hi hjb
    subst this
    exact hn.1 hj
end

/-! ### Entering and leaving. -/
/-- The end of a function: the results, out of the frame. -/
def Ends (P : Program) (C : Ctx) (fn : Func) (R : RR → Prop) (a : Act) (w : World) : Prop :=
  a.defers = [] ∧ ∃ v, (results fn a.tmps).run P w = .ok v w ∧ ∃ rr bs, R rr ∧ RR.rel w (fun b => C.ok b ∧ b ∉ bs) rr v bs ∧ bs.Nodup ∧ (∀ b ∈ bs, C.w0.heap.size ≤ b ∧ b < w.heap.size) ∧ Below C.w0.heap.size C.w0 w
def startEnv : Nat → List RV → Env
  | _, [] => []
  | t, r :: rs => (t, .ro r) :: startEnv (t + 1) rs
theorem start_look : ∀ (rs : List RV) (t k : Nat), look (startEnv t rs) k = if t ≤ k then (match rs[k - t]? with | some r => .ro r | none => .junk) else .junk
  | [], t, k => by simp [startEnv, look]
  | r :: rs, t, k => by
    rw [startEnv, look_put, start_look rs (t + 1) k]
    by_cases h : t = k
    · subst h; simp
    · rw [if_neg h]
      by_cases h2 : t + 1 ≤ k
      · have e : k - t = (k - (t + 1)) + 1 := by omega
        rw [if_pos h2, if_pos (by omega : t ≤ k), e, List.getElem?_cons_succ]
      · rw [if_neg h2]
        split
        · omega
        · rfl
theorem ac_enter {P : Program} {f : FuncId} {fn : Func} {c : Code} {args : List RV} {R : RR → Prop} (hf : P.funcs[f]? = some fn) (hb : fn.body = some c) (n : Nat) (hn : fn.ntmps = n) (hl : args.length ≤ n)
    (h : ∀ C : Ctx, C.n = n → (∀ b, ¬ C.mu b) → Runs P C [.code c] (Ends P C fn R) ⟨startEnv 0 args, []⟩) : AC P f args R := by
  intro w ok us h0 hu
  have hlen := RV.rels_len args _ hu
  refine calls_of_fin hf hb ?_
  have hs : Sim ⟨w, ok, fun _ => False, n⟩ ⟨startEnv 0 args, []⟩ { tmps := us ++ Array.replicate (fn.ntmps - us.size) undef, defers := [] } w := by
    refine ⟨rfl, by simp at hlen ⊢; omega, fun _ => none, ⟨rfl, fun i j g hi => by simp at hi, fun i o hi => by simp at hi, fun i g hi => by simp at hi, ⟨rfl, rfl, rfl, Nat.le_refl _, fun _ _ _ => rfl, h0⟩⟩, fun t => ?_⟩
    rw [start_look]
    simp only [Nat.zero_le, if_true, Nat.sub_zero]
    cases hr : args[t]? with
    | none => simp [AV.rel]
    | some r =>
      obtain ⟨u, e1, e2⟩ := RV.rels_at args _ hu t r hr
      have ht : t < us.size := by have := (List.getElem?_eq_some_iff.1 e1).1; simpa using this
      simp only [AV.rel]
      have : (us ++ Array.replicate (fn.ntmps - us.size) undef).getD t undef = u := by
        rw [Array.getD_eq_getD_getElem?, Array.getElem?_append_left ht]
        have : us[t]? = some u := by simpa using e1
        simp [this]
      rw [this]
      exact RV.rel_mono ⟨Nat.le_refl _, fun b _ hb => ⟨⟨hb, fun i hi => by simp at hi⟩, rfl⟩⟩ r u e2
  have hr := (h ⟨w, ok, fun _ => False, n⟩ rfl (fun _ h => h)).run _ w hs
  intro b cs
  obtain ⟨a', w', todo, ⟨hd, v, hv, rr, bs, h1, h2, h3, h4, h5⟩, hst⟩ := hr b cs
  exact ⟨a', w', todo, ⟨hd, v, hv, v, rr, bs, rfl, h1, h2, h3, h4, h5⟩, hst⟩
section
variable {P : Program} {C : Ctx} {fn : Func} {R : RR → Prop} {S : St} {a : Act} {w : World}
theorem Frm.below0 {C : Ctx} {w : World} (h : Frm C w) (hm : ∀ b, ¬ C.mu b) : Below C.w0.heap.size C.w0 w := ⟨h.os, h.tape, h.output, h.size, fun b hb => h.block b hb (hm b)⟩
/-- What a result variable holds at the end. -/
def ResV (P : Program) (S : St) : ResultVar → AV → Prop
  | .tmp t, v => v = look S.env t
  | .cell p ty, v => ∃ i off o, look S.env p = .obj i off ∧ S.σ[i]? = some o ∧ ((T1 P ty ∧ o.cs[off]? = some v) ∨ ∃ n, TN P ty n ∧ off + n ≤ o.cs.length ∧ v = .agg ((o.cs.drop off).take n))
def ResVs (P : Program) (S : St) : List ResultVar → List AV → Prop
  | [], vs => vs = []
  | x :: xs, vs => ∃ v vs', vs = v :: vs' ∧ ResV P S x v ∧ ResVs P S xs vs'
def resRun (tmps : Array Value) : ResultVar → Sem Value
  | .tmp t => pure (tmps.getD t undef)
  | .cell a t => do loadVar t (← asAddr (tmps.getD a undef))
theorem results_eq (fn : Func) (tmps : Array Value) : results fn tmps = (do let vs ← fn.results.mapM (resRun tmps); pure (if h : vs.size = 1 then vs[0] else .tuple vs)) := by
  unfold results
  congr 1
theorem resV_run {φ : Nat → Option Nat} (hG : Good C ⟨w, φ, S.σ, C.ok⟩) (hH : Holds ⟨w, φ, S.σ, C.ok⟩ S.env a) : ∀ (x : ResultVar) (v : AV), ResV P S x v → ∃ u, (resRun a.tmps x).run P w = .ok u w ∧ AV.rel ⟨w, φ, S.σ, C.ok⟩ v u
  | .tmp t, v, h => by
    simp only [ResV] at h
    subst h
    exact ⟨_, by simp [resRun], hH t⟩
  | .cell p ty, v, h => by
    simp only [ResV] at h
    obtain ⟨i, off, o, h1, h2, h3⟩ := h
    have hp := hH p
    rw [h1] at hp
    simp only [AV.rel] at hp
    obtain ⟨hi, g, hg, e⟩ := hp
    have hob := hG.ob i o h2
    rw [show (⟨w, φ, S.σ, C.ok⟩ : Mem).φ i = some g from hg] at hob
    obtain ⟨us, q1, q2, q3⟩ := hob
    have e' : (a.tmps[p]?).getD undef = Value.pointer (some ⟨g, off, none⟩) := by rw [← Array.getD_eq_getD_getElem?]; exact e
    rcases h3 with ⟨ht, hv⟩ | ⟨n, ht, hn, rfl⟩
    · obtain ⟨u, k1, k2, k3⟩ := q3 off v hv
      have hc : w.cell? ⟨g, off, none⟩ = some u := by rw [cell_of_row _ g off us _ _ q1]; exact k1
      exact ⟨u, by simp [resRun, e', asAddr, loadVar, run_isAgg1, run_load, hc], k3⟩
    · let vs : List Value := (us.toList.drop off).take n
      have hl : vs.length = n := by simp [vs]; omega
      have hu : ∀ (j : Nat) v, vs[j]? = some v → w.cell? ⟨g, off + j, none⟩ = some v := by
        intro j v hj
        rw [cell_of_row _ g (off + j) us _ _ q1]
        simp only [vs, List.getElem?_take, List.getElem?_drop] at hj
        split at hj
        · simpa using hj
        · cases hj
      have hld := run_loadCells_list (P := P) w ⟨g, off, none⟩ vs (fun j v hj => by rw [Addr.add_lit]; exact hu j v hj)
      rw [hl] at hld
      refine ⟨.agg vs.toArray, by simp [resRun, e', asAddr, loadVar, run_isAggN (P := P) (t := ty) (n := n), run_sizeN (P := P) (t := ty) (n := n), hld], ?_⟩
      simp only [AV.rel]
      refine ⟨_, rfl, AV.rels_of _ _ (by simp [vs]; omega) fun j r u k1 k2 => ?_⟩
      simp only [List.getElem?_take, List.getElem?_drop] at k1
      simp only [vs, List.getElem?_take, List.getElem?_drop] at k2
      split at k1
      · rename_i hj
        rw [if_pos hj] at k2
        obtain ⟨u', e1, _, e3⟩ := q3 _ r k1
        have : u' = u := by simpa [e1] using k2
        subst this; exact e3
      · cases k1
theorem resVs_run {φ : Nat → Option Nat} (hG : Good C ⟨w, φ, S.σ, C.ok⟩) (hH : Holds ⟨w, φ, S.σ, C.ok⟩ S.env a) : ∀ (xs : List ResultVar) (vs : List AV), ResVs P S xs vs → ∃ us, (xs.mapM (resRun a.tmps)).run P w = .ok us w ∧ AV.rels ⟨w, φ, S.σ, C.ok⟩ vs us
  | [], vs, h => by
    simp only [ResVs] at h
    subst h
    exact ⟨[], by simp, by simp [AV.rels]⟩
  | x :: xs, vs, h => by
    simp only [ResVs] at h
    obtain ⟨v, vs', rfl, h1, h2⟩ := h
    obtain ⟨u, k1, k2⟩ := resV_run hG hH x v h1
    obtain ⟨us, q1, q2⟩ := resVs_run hG hH xs vs' h2
    refine ⟨u :: us, by simp [List.mapM_cons, k1, q1], ?_⟩
    simp only [AV.rels]
    exact ⟨u, us, rfl, k2, q2⟩
theorem ends_of {φ : Nat → Option Nat} (hm : ∀ b, ¬ C.mu b) (hd : a.defers = []) (hG : Good C ⟨w, φ, S.σ, C.ok⟩) {v : AV} {u : Value} (hu : (results fn a.tmps).run P w = .ok u w) (hv : AV.rel ⟨w, φ, S.σ, C.ok⟩ v u)
    (rr : RR) (is : List Nat) (hh : Harv S.σ rr v is) (hn : is.Nodup) (hR : R rr) : Ends P C fn R a w := by
  refine ⟨hd, u, hu, rr, blocks φ is, hR, ?_, blocks_nodup hG is hn (harv_lt _ _ _ _ hh), fun b hb => ?_, hG.frm.below0 hm⟩
  · have := harv_rel hG rr _ _ is hh hv
    refine RR.rel_mono (fun b hb => ⟨hb.1, fun hm => ?_⟩) _ _ _ this
    obtain ⟨i, hi, e⟩ := mem_blocks.1 hm
    exact hb.2 i (harv_lt _ _ _ _ hh i hi) e
  · obtain ⟨i, hi, e⟩ := mem_blocks.1 hb
    have hil := harv_lt _ _ _ _ hh i hi
    refine ⟨?_, hG.lt hil e⟩
    rcases hG.mine i b hil e with h | h
    · exact absurd h (hm b)
    · exact h
/-- One result. -/
theorem ends1 {x : ResultVar} (hm : ∀ b, ¬ C.mu b) (hr : fn.results = #[x]) (v : AV) (hx : ResV P S x v) (rr : RR) (is : List Nat) (hh : Harv S.σ rr v is) (hn : is.Nodup) (hR : R rr) : ∀ a w, Sim C S a w → Ends P C fn R a w := by
  intro a w ⟨h1, h2, φ, hG, hH⟩
  obtain ⟨u, k1, k2⟩ := resV_run (P := P) hG hH x v hx
  exact ends_of hm h1 hG (by rw [results_eq, hr]; simp [k1]) k2 rr is hh hn hR
/-- One result of data. -/
theorem ends_ro {t : Nat} {r : RV} (hm : ∀ b, ¬ C.mu b) (hr : fn.results = #[.tmp t]) (hx : look S.env t = .ro r) (hR : R (.ro r)) : ∀ a w, Sim C S a w → Ends P C fn R a w :=
  ends1 hm hr _ rfl (.ro r) [] (by simp only [Harv]; exact ⟨hx, trivial⟩) List.nodup_nil hR
/-- Several. -/
theorem endsN {xs : List ResultVar} (hm : ∀ b, ¬ C.mu b) (hr : fn.results = xs.toArray) (hl : xs.length ≠ 1) (vs : List AV) (hx : ResVs P S xs vs) (rs : List RR) (is : List Nat) (hh : Harvs S.σ rs vs is) (hn : is.Nodup) (hR : R (.tup rs)) : ∀ a w, Sim C S a w → Ends P C fn R a w := by
  intro a w ⟨h1, h2, φ, hG, hH⟩
  obtain ⟨us, k1, k2⟩ := resVs_run (P := P) hG hH xs vs hx
  have hlen : ∀ (xs : List ResultVar) (vs : List AV), ResVs P S xs vs → vs.length = xs.length := by
    intro xs
    induction xs with
    | nil => intro vs h; simp only [ResVs] at h; simp [h]
    | cons x xs ih => intro vs h; simp only [ResVs] at h; obtain ⟨v, vs', rfl, _, h⟩ := h; simp [ih vs' h]
  have hul : us.length ≠ 1 := by rw [AV.rels_len vs us k2, hlen xs vs hx]; exact hl
  refine ends_of (v := .tup vs) hm h1 hG (u := .tuple us.toArray) (by rw [results_eq, hr]; simp [List.mapM_toArray, k1, hul]) (by simp only [AV.rel]; exact ⟨_, rfl, k2⟩) (.tup rs) is (by simp only [Harv]; exact ⟨vs, rfl, hh⟩) hn hR
end

/-! ### Calls. -/
/-- A value of the frame serves as this data. -/
def Fits (v : AV) (r : RV) : Prop := ∀ (m : Mem) (u : Value), AV.rel m v u → RV.rel m.w m.ok r u
inductive FitsL : List AV → List RV → Prop
  | nil : FitsL [] []
  | cons {v : AV} {r : RV} {vs : List AV} {rs : List RV} : Fits v r → FitsL vs rs → FitsL (v :: vs) (r :: rs)
theorem Fits.ro (r : RV) : Fits (.ro r) r := fun m u h => by simpa only [AV.rel] using h
theorem Fits.nil (sz : Nat) : Fits (.ro .nil) (.seq sz []) := fun m u h => by
  simp only [AV.rel, RV.rel] at h ⊢
  subst h
  exact ⟨none, 0, 0, rfl, rfl, Nat.le_refl _, Nat.zero_le _, fun h => absurd h (by omega)⟩
theorem FitsL.rels {m : Mem} {vs : List AV} {rs : List RV} (h : FitsL vs rs) : ∀ us, AV.rels m vs us → RV.rels m.w m.ok rs us := by
  induction h with
  | nil => intro us hu; simpa [AV.rels, RV.rels] using hu
  | cons h1 _ ih =>
    intro us hu
    simp only [AV.rels] at hu
    obtain ⟨u, us', rfl, k1, k2⟩ := hu
    simp only [RV.rels]
    exact ⟨u, us', rfl, h1 m u k1, ih us' k2⟩
theorem FitsL.ros : ∀ rs : List RV, FitsL (rs.map .ro) rs
  | [] => .nil
  | r :: rs => .cons (Fits.ro r) (FitsL.ros rs)
theorem Fits.agg {vs : List AV} {rs : List RV} (h : FitsL vs rs) : Fits (.agg vs) (.agg rs) := fun m u hu => by
  simp only [AV.rel, RV.rel] at hu ⊢
  obtain ⟨us, e, hr⟩ := hu
  exact ⟨us, e, FitsL.rels h _ hr⟩
section
variable {P : Program} {C : Ctx} {ops : Array Oper} {rest : List Oper} {k : List Item} {R : Act → World → Prop} {env : Env} {σ : List Ob} {t : Nat} {ty : TypeId} {pos : String} {after : Array Edge} {gd : Option (Nat × Bool)}
theorem run_call {f : FuncId} {fn : Func} (h : FN P f fn) (args : Array Value) (w : World) : (callFunc f args).run P w = .ok (.enter f args) w := by
  have hn : ¬ fn.name = "runtime.NumGoroutine" := by simpa using h.name
  have hb := h.body
  cases hbb : fn.body with
  | none => simp [hbb] at hb
  | some c => simp [callFunc, h.h, hn, hbb]
theorem rels_eval {m : Mem} {a : Act} : ∀ (xs : List Operand), (∀ x ∈ xs, AV.rel m (ev env x) (a.eval x)) → AV.rels m (xs.map (ev env)) (xs.map a.eval)
  | [], _ => by simp [AV.rels]
  | x :: xs, h => by
    simp only [List.map_cons, AV.rels]
    exact ⟨_, _, rfl, h x (by simp), rels_eval xs fun y hy => h y (by simp [hy])⟩
/-- A call that returns data. -/
theorem pu_call {f : FuncId} {fn : Func} {xs : Array Operand} {ats : Array TypeId} {args : List RV} {r : RV} [hfn : FN P f fn] (hf : ACv P f args r) (ha : FitsL (xs.toList.map (ev env)) args) :
    Pur P C ⟨some t, .call { callee := .value (.func f), args := xs, argTypes := ats }, ty, pos, after, gd⟩ env σ (.ro r) := by
  refine ⟨fun a m hG hσ hH K Q hK => ?_⟩
  have hr := FitsL.rels ha _ (rels_eval (a := a) (m := m) xs.toList fun x hx => hH x (by simp [Op.operands, Call.operands]; exact .inr (by simpa using hx)))
  unfold Oper.wp
  rw [execOp_call_go, run_call hfn]
  simp only [Oper.upon]
  refine (hf m.w m.ok _ (fun b hb => ⟨by rw [hG.ok0]; exact hG.frm.new b (Nat.le_trans hG.frm.size hb), fun i hi e => ?_⟩) (by simpa using hr)).mono ?_
  · have := hG.lt hi e; omega
  · rintro e w' ⟨u, rr, bs, rfl, rfl, h1, _, _, h4⟩
    simp only [RR.rel] at h1
    obtain ⟨h1, rfl⟩ := h1
    refine hK u w' h4 ?_
    simp only [AV.rel]
    exact RV.rel_mono ⟨Nat.le_refl _, fun b _ hb => ⟨hb.1, rfl⟩⟩ r u h1
/-- .. all of whose arguments are data. -/
theorem pu_callR {f : FuncId} {fn : Func} {xs : Array Operand} {ats : Array TypeId} {args : List RV} {r : RV} [hfn : FN P f fn] (hf : ACv P f args r) (ha : xs.toList.map (ev env) = args.map .ro) :
    Pur P C ⟨some t, .call { callee := .value (.func f), args := xs, argTypes := ats }, ty, pos, after, gd⟩ env σ (.ro r) := pu_call hf (ha ▸ FitsL.ros args)
end
end Go.Proofs.YtnbjncafoahclaaDoor
