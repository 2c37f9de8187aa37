/- Rows of the frame's own: make, append, literals of slices, cuts; calls that make memory; function values. Over any program. -/
import Derived.Test.YtnbjncafoahclaaDoorOrd
namespace Go.Proofs.YtnbjncafoahclaaDoor
set_option linter.unusedSimpArgs false
set_option linter.unusedVariables false
open Go.RowKit
open AV (Mem Keeps)

def killEnv (i : Nat) : Env → Env
  | [] => []
  | (t, v) :: e => (t, v.kill i) :: killEnv i e
theorem look_killEnv (i : Nat) : ∀ (e : Env) (t : Nat), look (killEnv i e) t = (look e t).kill i
  | [], t => by simp [killEnv, look, AV.kill]
  | (s, v) :: e, t => by
    rw [killEnv, look_put, look_put]
    split
    · rfl
    · exact look_killEnv i e t
theorem onlys_ro (p : Nat → Prop) : ∀ rs : List RV, AV.onlys p (rs.map .ro)
  | [] => by simp [AV.onlys]
  | r :: rs => by simp only [List.map_cons, AV.onlys, AV.only]; exact ⟨trivial, onlys_ro p rs⟩
theorem onlys_at {p : Nat → Prop} : ∀ {vs : List AV}, (∀ (j : Nat) v, vs[j]? = some v → v.only p) → AV.onlys p vs
  | [], _ => by simp [AV.onlys]
  | v :: vs, h => by
    simp only [AV.onlys]
    exact ⟨h 0 v (by simp), onlys_at fun j x hj => h (j + 1) x (by simpa using hj)⟩
section
variable {P : Program} {C : Ctx} {w : World} {φ : Nat → Option Nat} {σ : List Ob}
/-- The cells of a read-only slice. -/
theorem seq_rd {ok : Nat → Prop} {sz : Nat} {els : List (List RV)} {A : Option Addr} {n c : Nat} (h : RV.rel w ok (.seq sz els) (.slice A n c)) :
    n = els.length ∧ ∃ xs, Rd w sz A n xs ∧ (∀ x ∈ xs, x.oneCell' = true) ∧ xs.length = els.flatten.length ∧ ∀ (j : Nat) r, els.flatten[j]? = some r → ∃ u, xs[j]? = some u ∧ RV.rel w ok r u := by
  simp only [RV.rel] at h
  obtain ⟨A', n', c', e, hn, h1, h2, h3⟩ := h
  injection e with e1 e2 e3; subst e1; subst e2; subst e3
  refine ⟨hn, ?_⟩
  have hflat : ∀ (es : List (List RV)) (b o : Nat), RV.relE w ok b o sz es → es.flatten.length = es.length * sz ∧ RV.relAt w ok b o es.flatten := by
    intro es
    induction es with
    | nil => intro b o _; simp [RV.relAt]
    | cons x xs ih =>
      intro b o hE
      simp only [RV.relE] at hE
      obtain ⟨l1, l2⟩ := ih b (o + sz) hE.2.2
      refine ⟨by simp [l1, hE.1, Nat.add_mul]; omega, ?_⟩
      rw [List.flatten_cons]
      refine RV.relAt_of _ _ fun j r hj => ?_
      rcases Nat.lt_or_ge j x.length with hlt | hge
      · rw [List.getElem?_append_left hlt] at hj
        exact RV.relAt_at x o hE.2.1 j r hj
      · rw [List.getElem?_append_right hge] at hj
        have := RV.relAt_at _ _ l2 (j - x.length) r hj
        rwa [hE.1, show o + sz + (j - sz) = o + j by rw [hE.1] at hge; omega] at this
  rcases Nat.eq_zero_or_pos n with h0 | h0
  · have he : els = [] := List.eq_nil_of_length_eq_zero (by omega)
    subst h0; subst he
    exact ⟨[], Rd.nil _ _ _, by simp, by simp, by simp⟩
  · obtain ⟨b, o, rfl, hb, hok, hE⟩ := h3 h0
    obtain ⟨l1, l2⟩ := hflat els b o hE
    have hat := RV.relAt_at _ _ l2
    refine ⟨(List.range els.flatten.length).map fun j => (w.cell? ⟨b, o + j, none⟩).getD undef, ⟨by simp only [List.length_map, List.length_range, l1, hn], fun _ => ⟨b, o, rfl, fun j u hj => ?_⟩⟩, fun x hx => ?_, by simp, fun j r hj => ?_⟩
    · have hjl : j < els.flatten.length := by have := (List.getElem?_eq_some_iff.1 hj).1; simpa using this
      obtain ⟨v, e1, _⟩ := hat j _ (List.getElem?_eq_getElem hjl)
      rw [List.getElem?_map, List.getElem?_range hjl] at hj
      simp [e1] at hj
      rw [e1, hj]
    · obtain ⟨j, hj, rfl⟩ := List.mem_map.1 hx
      obtain ⟨v, e1, e2, _⟩ := hat j _ (List.getElem?_eq_getElem (List.mem_range.1 hj))
      simp [e1, e2]
    · have hjl := (List.getElem?_eq_some_iff.1 hj).1
      obtain ⟨v, e1, _, e3⟩ := hat j r hj
      exact ⟨v, by rw [List.getElem?_map, List.getElem?_range hjl]; simp [e1], e3⟩
/-- An own row, as the library has it. -/
theorem own_row (hG : Good C ⟨w, φ, σ, C.ok⟩) {i : Nat} {o : Ob} (hi : σ[i]? = some o) {u : Value} (hu : AV.rel ⟨w, φ, σ, C.ok⟩ (.own i) u) :
    ∃ A n c xs, u = .slice A n c ∧ o.cs.length = n * o.sz ∧ 0 < o.sz ∧ w.ownsRow 0 o.t o.sz u n xs ∧ u.ownBlock = φ i ∧ ∀ (j : Nat) v, o.cs[j]? = some v → ∃ x, xs[j]? = some x ∧ x.oneCell' = true ∧ AV.rel ⟨w, φ, σ, C.ok⟩ v x := by
  simp only [AV.rel] at hu
  obtain ⟨ob, n, h1, h2, h3, h4⟩ := hu
  rw [hi] at h1; injection h1 with h1; subst h1
  rcases h4 with ⟨rfl, rfl, hφ⟩ | ⟨g, cap, us, hφ, rfl, hh, c1, c2, c3⟩
  · have : o.cs = [] := List.eq_nil_of_length_eq_zero (by omega)
    exact ⟨none, 0, 0, [], rfl, h2, h3, World.ownsRow_nil _ _ _ _, by simp [Value.ownBlock, hφ], by simp [this]⟩
  · have hob := hG.ob i _ hi
    rw [show (⟨w, φ, σ, C.ok⟩ : Mem).φ i = some g from hφ] at hob
    obtain ⟨us', q1, q2, q3⟩ := hob
    simp only at q1
    rw [hh] at q1; injection q1 with q1; injection q1 with q1; subst q1
    have hl : (us.toList.take (n * o.sz)).length = n * o.sz := by rw [List.length_take, Array.length_toList, c3]; exact Nat.min_eq_left (Nat.mul_le_mul_right _ c1)
    refine ⟨some ⟨g, 0, none⟩, n, cap, us.toList.take (n * o.sz), rfl, h2, h3, ⟨hl, .inr ⟨g, cap, us, rfl, Nat.zero_le _, hh, c1, c2, c3, rfl⟩⟩, by simp [Value.ownBlock, hφ], fun j v hj => ?_⟩
    obtain ⟨y, k1, k2, k3⟩ := q3 j v hj
    have hjl := (List.getElem?_eq_some_iff.1 hj).1
    exact ⟨y, by rw [List.getElem?_take, if_pos (by omega)]; simpa using k1, k2, k3⟩
/-- One row has grown, or moved. -/
theorem good_append (hG : Good C ⟨w, φ, σ, C.ok⟩) {i : Nat} {o : Ob} {rs : List RV} (hi : σ[i]? = some o) (hcs : o.cs = rs.map .ro) (hfree : ∀ (j : Nat) ob, σ[j]? = some ob → AV.onlys (fun k => k ≠ i) ob.cs)
    {w' : World} {v' : Value} {n' : Nat} {xs' : List Value} {news : List RV} (hsz : 0 < o.sz) (hlen : (rs ++ news).length = n' * o.sz) (hown : w'.ownsRow 0 o.t o.sz v' n' xs') (hg : w.grownBy w' (φ i)) (hl : v'.ownBlock = φ i ∨ ∃ g, v'.ownBlock = some g ∧ w.heap.size ≤ g)
    (hx : ∀ (j : Nat) r, (rs ++ news)[j]? = some r → ∃ x, xs'[j]? = some x ∧ x.oneCell' = true ∧ RV.rel w (AV.Mem.ok ⟨w, φ, σ, C.ok⟩) r x) :
    Good C ⟨w', upd φ i v'.ownBlock, σ.set i ⟨o.t, o.sz, (rs ++ news).map .ro⟩, C.ok⟩ ∧ Keeps (fun k => k ≠ i) ⟨w, φ, σ, C.ok⟩ ⟨w', upd φ i v'.ownBlock, σ.set i ⟨o.t, o.sz, (rs ++ news).map .ro⟩, C.ok⟩ ∧
      AV.rel ⟨w', upd φ i v'.ownBlock, σ.set i ⟨o.t, o.sz, (rs ++ news).map .ro⟩, C.ok⟩ (.own i) v' := by
  have hil : i < σ.length := (List.getElem?_eq_some_iff.1 hi).1
  have hro : RV.Kept w (AV.Mem.ok ⟨w, φ, σ, C.ok⟩) w' (AV.Mem.ok ⟨w', upd φ i v'.ownBlock, σ.set i ⟨o.t, o.sz, (rs ++ news).map .ro⟩, C.ok⟩) := by
    refine ⟨hg.size, fun b hb hok => ⟨⟨hok.1, fun j hj he => ?_⟩, hg.block b hb fun e => hok.2 i hil e.symm⟩⟩
    simp only [List.length_set] at hj
    by_cases hji : j = i
    · subst hji
      simp only [upd_eq] at he
      rcases hl with h | ⟨g, h, hge⟩
      · exact hok.2 j hj (h.symm.trans he)
      · rw [h] at he; injection he with he; omega
    · simp only [upd_ne hji] at he
      exact hok.2 j hj he
  have hK : Keeps (fun k => k ≠ i) ⟨w, φ, σ, C.ok⟩ ⟨w', upd φ i v'.ownBlock, σ.set i ⟨o.t, o.sz, (rs ++ news).map .ro⟩, C.ok⟩ := by
    refine ⟨hro, fun j hj hjl => ⟨by simpa using hjl, upd_ne hj⟩, fun j ob hj ho => ⟨ob.cs, by simp only [List.getElem?_set_ne (Ne.symm hj)]; exact ho, rfl⟩, fun j g us t hj hjl hφ hh => ⟨us, (hg.block g (hG.lt hjl hφ) fun e => hj (hG.inj j i g hjl hil hφ e.symm)).trans hh, rfl⟩⟩
  refine ⟨⟨rfl, fun a b g ha hb e1 e2 => ?_, fun j ob hj => ?_, fun j g hj hjg => ?_, ⟨hg.os.trans hG.frm.os, hg.tape.trans hG.frm.tape, hg.output.trans hG.frm.output, Nat.le_trans hG.frm.size hg.size, fun b hb hm => ?_, hG.frm.new⟩⟩, hK, ?_⟩
  · simp only [List.length_set] at ha hb
    have key : ∀ c, c < σ.length → c ≠ i → φ c = some g → v'.ownBlock ≠ some g := by
      intro c hc hci hcg he
      rcases hl with h | ⟨g', h, hge⟩
      · exact hci (hG.inj c i g hc hil hcg (h.symm.trans he))
      · rw [h] at he; injection he with he; subst he
        have := hG.lt hc hcg; simp only at this; omega
    by_cases ha' : a = i <;> by_cases hb' : b = i
    · omega
    · subst ha'; simp only [upd_eq] at e1; simp only [upd_ne hb'] at e2; exact absurd e1 (key b hb hb' e2)
    · subst hb'; simp only [upd_eq] at e2; simp only [upd_ne ha'] at e1; exact absurd e2 (key a ha ha' e1)
    · simp only [upd_ne ha'] at e1; simp only [upd_ne hb'] at e2; exact hG.inj a b g ha hb e1 e2
  · by_cases hji : j = i
    · subst hji
      simp only [List.getElem?_set_self hil, Option.some.injEq] at hj
      subst hj
      simp only [upd_eq]
      rcases hown.2 with ⟨rfl, rfl⟩ | ⟨g, cap, cur, rfl, _, hh, c1, c2, c3, htake⟩
      · simp only [Value.ownBlock, ObRel]
        have : rs ++ news = [] := List.eq_nil_of_length_eq_zero (by omega)
        simp [this]
      · simp only [Value.ownBlock, ObRel]
        have hxl : xs'.length = n' * o.sz := hown.1
        refine ⟨cur, hh, by rw [List.length_map, hlen, c3]; exact Nat.mul_le_mul_right _ c1, fun x v hv => ?_⟩
        rw [List.getElem?_map, Option.map_eq_some_iff] at hv
        obtain ⟨r, hr, rfl⟩ := hv
        obtain ⟨y, e1, e2, e3⟩ := hx x r hr
        refine ⟨y, ?_, e2, by simp only [AV.rel]; exact RV.rel_mono hro r y e3⟩
        rw [← htake, List.getElem?_take] at e1
        split at e1
        · simpa using e1
        · cases e1
    · simp only [List.getElem?_set_ne (Ne.symm hji)] at hj
      have h := hG.ob j ob hj
      have hjl := (List.getElem?_eq_some_iff.1 hj).1
      simp only [upd_ne hji]
      simp only at h
      cases hφ : φ j with
      | none => rw [hφ] at h; exact h
      | some g =>
        rw [hφ] at h
        obtain ⟨us, q1, q2, q3⟩ := h
        refine ⟨us, (hg.block g (hG.lt hjl hφ) fun e => hji (hG.inj j i g hjl hil hφ e.symm)).trans q1, q2, fun x v hv => ?_⟩
        obtain ⟨y, e1, e2, e3⟩ := q3 x v hv
        exact ⟨y, e1, e2, AV.rel_keeps hK _ _ (onlys_mem (hfree j ob hj) x v hv) e3⟩
  · simp only [List.length_set] at hj
    by_cases hji : j = i
    · subst hji
      simp only [upd_eq] at hjg
      rcases hl with h | ⟨g', h, hge⟩
      · exact hG.mine j g hj (h.symm.trans hjg)
      · rw [h] at hjg; injection hjg with hjg; subst hjg
        exact .inr (Nat.le_trans hG.frm.size hge)
    · simp only [upd_ne hji] at hjg
      exact hG.mine j g hj hjg
  · refine (hg.block b (Nat.lt_of_lt_of_le hb hG.frm.size) fun e => ?_).trans (hG.frm.block b hb hm)
    rcases hG.mine i b hil e.symm with h | h
    · exact hm h
    · omega
  · simp only [AV.rel]
    refine ⟨_, n', List.getElem?_set_self hil, by simpa using hlen, hsz, ?_⟩
    rcases hown.2 with ⟨rfl, rfl⟩ | ⟨g, cap, cur, rfl, _, hh, c1, c2, c3, _⟩
    · exact .inl ⟨rfl, rfl, by simp [upd_eq, Value.ownBlock]⟩
    · exact .inr ⟨g, cap, cur, by simp [upd_eq, Value.ownBlock], rfl, hh, c1, c2, c3⟩
end
section
variable {P : Program} {C : Ctx} {ops : Array Oper} {rest : List Oper} {k : List Item} {R : Act → World → Prop} {env : Env} {σ : List Ob} {t : Nat} {ty : TypeId} {pos : String} {after : Array Edge} {gd : Option (Nat × Bool)}
/-- append(s, xs...): s the frame's own row, xs data. -/
theorem op_append {tt e : TypeId} {z : Value} {sz bytes i n : Nat} {o : Ob} {rs : List RV} {els : List (List RV)} {x y : Operand} [hs : SL P tt e z sz bytes] (hx : ev env x = .own i) (ho : σ[i]? = some o) (hc : o.cs = rs.map .ro) (hy : ev env y = .ro (.seq sz els)) (het : o.t = e) (hes : o.sz = sz) (hn : rs.length = n * sz)
    (hfree : ∀ (j : Nat) ob, σ[j]? = some ob → AV.onlys (fun k => k ≠ i) ob.cs) (b1 : n + els.length ≤ 140737488355328) (b2 : (n + els.length) * bytes ≤ 140737488355328) (ht : t < C.n)
    (hk : RunsL P C ops rest k R ⟨(t, .own i) :: killEnv i env, σ.set i ⟨e, sz, (rs ++ els.flatten).map .ro⟩⟩) :
    RunsL P C ops (⟨some t, .call { callee := .builtin .append, args := #[x, y], argTypes := #[tt, tt] }, ty, pos, after, none⟩ :: rest) k R ⟨env, σ⟩ := by
  refine ⟨fun a w ⟨h1, h2, φ, hG, hH⟩ => ?_⟩
  refine wpList_plain rfl fun K hK' => ?_
  have h := ev_rel hH x
  rw [hx] at h
  obtain ⟨A, n0, c, xs, hu, hl, hsz, hrow, hblk, hcell⟩ := own_row hG ho h
  rw [hc, List.length_map] at hl
  subst het; subst hes
  have hn0 : n0 = n := Nat.eq_of_mul_eq_mul_right hsz (hl.symm.trans hn)
  subst hn0
  have hyr := ev_rel hH y
  rw [hy] at hyr
  simp only [AV.rel] at hyr
  obtain ⟨B, m, d, hv⟩ : ∃ B m d, a.eval y = .slice B m d := by simp only [RV.rel] at hyr; obtain ⟨B, m, d, e, _⟩ := hyr; exact ⟨B, m, d, e⟩
  rw [hv] at hyr
  obtain ⟨hm, ys, hRd, hy1, hyl, hyr'⟩ := seq_rd hyr
  subst hm
  rw [hu] at hrow
  obtain ⟨A', c', w', hrun, happ⟩ := run_app (P := P) hs.el ty 0 A n0 c xs hrow B els.length d ys hRd hy1 (by unfold maxLen; omega) (by omega) (Nat.zero_le _)
  have hflat : els.flatten.length = els.length * o.sz := by rw [← hyl]; exact hRd.1
  have hxl : xs.length = rs.length := by rw [hrow.1, hn]
  rw [hu] at hblk
  have happg := happ.grown
  have hapl := happ.lies
  rw [hblk] at happg hapl
  obtain ⟨g1, g2, g3⟩ := good_append (news := els.flatten) (n' := n0 + els.length) hG ho hc hfree hsz (by rw [List.length_append, hn, hflat, Nat.add_mul]) happ.own happg hapl (fun j r hj => by
    rcases Nat.lt_or_ge j rs.length with hlt | hge
    · rw [List.getElem?_append_left hlt] at hj
      obtain ⟨x', e1, e2, e3⟩ := hcell j (.ro r) (by rw [hc, List.getElem?_map, hj]; rfl)
      exact ⟨x', by rw [List.getElem?_append_left (by omega)]; exact e1, e2, by simpa only [AV.rel] using e3⟩
    · rw [List.getElem?_append_right hge] at hj
      obtain ⟨x', e1, e3⟩ := hyr' _ r hj
      exact ⟨x', by rw [List.getElem?_append_right (by omega), hxl]; exact e1, hy1 x' (List.mem_of_getElem? e1), e3⟩)
  unfold Oper.wp execOp
  simp only [resolve, invoke, builtin, Sem.run_bind, Sem.run_pure, Result.andThen_ok, List.map_toArray, List.map_cons, List.map_nil, hu, hv, hrun, Oper.upon]
  refine hK' _ _ (hk.run _ _ ⟨h1, by simp [Act.put, h2], _, g1, Holds.put (fun s => ?_) (by rw [h2]; exact ht) g3⟩)
  rw [look_killEnv]
  exact AV.rel_keeps g2 _ _ (AV.kill_only i _) (AV.kill_rel i _ _ (hH s))
/-- A nil slice is a row of the frame's own, with nothing in it. -/
theorem RunsL.nilOwn {l : List Oper} {e : TypeId} {sz : Nat} (hs : 0 < sz) (h : look env t = .nil) (hk : RunsL P C ops l k R ⟨(t, .own σ.length) :: env, σ ++ [⟨e, sz, []⟩]⟩) : RunsL P C ops l k R ⟨env, σ⟩ := by
  refine ⟨fun a w ⟨h1, h2, φ, hG, hH⟩ => ?_⟩
  obtain ⟨g1, g2⟩ := good_grow (φ' := upd φ σ.length none) (new := [⟨e, sz, []⟩]) hG (Below.refl _ _) (fun i hi => upd_ne (show i ≠ σ.length from Nat.ne_of_lt hi)) (fun j hj g hg => by
      simp at hj; subst hj; simp [upd_eq] at hg) (fun i j g hi hj _ _ => by simp at hi hj; omega) (fun j o hj => by
      cases j with
      | zero => simp at hj; subst hj; simp [upd_eq, ObRel]
      | succ j => simp at hj)
  refine hk.run a w ⟨h1, h2, _, g1, fun s => ?_⟩
  rw [look_put]
  split
  · rename_i e'; subst e'
    have hh := hH t
    rw [show look (⟨env, σ⟩ : St).env t = _ from h] at hh
    simp only [AV.rel, RV.rel] at hh
    simp only [AV.rel]
    exact ⟨⟨e, sz, []⟩, 0, by simp, by simp, hs, .inl ⟨hh, rfl, upd_eq⟩⟩
  · exact AV.rel_keeps g2 _ _ (AV.only_true _) (hH s)
/-- make([]T, n), T of one cell. -/
theorem op_make1 {tt e : TypeId} {z : Value} {bytes n : Nat} {x y : Operand} {kd kd' : IntKind} [hs : SL P tt e z 1 bytes] (hx : ev env x = .ro (.c (.int kd (n : Int)))) (hy : ev env y = .ro (.c (.int kd' (n : Int)))) (hz : z.cells = #[z]) (hz1 : z.oneCell' = true)
    (b2 : bytes * n ≤ 281474976710656) (b3 : n ≤ maxLen) (ht : t < C.n) (hk : RunsL P C ops rest k R ⟨(t, .own σ.length) :: env, σ ++ [⟨e, 1, (List.replicate n (RV.c z)).map .ro⟩]⟩) :
    RunsL P C ops (⟨some t, .makeSlice tt x y, ty, pos, after, none⟩ :: rest) k R ⟨env, σ⟩ :=
  RunsL.val rfl rfl ht (fun a w φ hG hH => by
    obtain ⟨i, hi, hz0, hsz, hb⟩ := hs.el.hi
    have hbb : (i.bytes : Int) * (n : Int) ≤ 281474976710656 := by
      rw [hb]
      have h : ((bytes * n : Nat) : Int) ≤ 281474976710656 := by omega
      rwa [Int.natCast_mul] at h
    have hr := run_make (P := P) w tt e i z hs.el.ht hi hz0 kd kd' n n (by omega) (Int.le_refl _) hbb (by simp [maxLen] at b3; omega)
    simp only [Int.toNat_natCast, hsz] at hr
    have hm : (madeCells z.cells (n * 1)).toList = List.replicate n z := made_one z n hz
    have hg := good_alloc hG (madeCells z.cells (n * 1)) e 1 ((List.replicate n (RV.c z)).map .ro) (by simp [size_madeCells]) (fun j v hj => by
      rw [List.getElem?_map, Option.map_eq_some_iff] at hj
      obtain ⟨r, hr', rfl⟩ := hj
      have hjn : j < n := by have := (List.getElem?_eq_some_iff.1 hr').1; simpa using this
      rw [List.getElem?_replicate, if_pos hjn] at hr'; injection hr' with hr'; subst hr'
      refine ⟨z, ?_, hz1, by simp [AV.rel, RV.rel]⟩
      rw [← Array.getElem?_toList, hm, List.getElem?_replicate, if_pos hjn])
    refine ⟨slv w.heap.size n n, _, _, by simp only [execOp, ev_c (ev_rel hH x) hx, ev_c (ev_rel hH y) hy, Sem.run_bind, hr, Result.andThen]; rfl, hg.1, hg.2, ?_⟩
    simp only [AV.rel]
    exact ⟨_, n, by simp; rfl, by simp, by simp, .inr ⟨w.heap.size, n, _, upd_eq, rfl, heap_alloc_new w _, Nat.le_refl _, b3, by simp [size_madeCells]⟩⟩) hk
/-- A slice literal of read-only parts, each of one cell: data. -/
def litParts (env : Env) : Nat → List (Nat × Operand) → Option (List RV)
  | _, [] => some []
  | n, (i, x) :: l => match Nat.beq i n with
    | true => match ev env x with
      | .ro r => match r.one with
        | true => match litParts env (n + 1) l with
          | some rs => some (r :: rs)
          | none => none
        | false => none
      | _ => none
    | false => none
end
end Go.Proofs.YtnbjncafoahclaaDoor
