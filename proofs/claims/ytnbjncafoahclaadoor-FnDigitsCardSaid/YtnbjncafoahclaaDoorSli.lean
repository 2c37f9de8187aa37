/- Slice expressions on data. Over any program. -/
import Derived.Test.YtnbjncafoahclaaDoorOwn
import Derived.Laws.Slices
namespace Go.Proofs.YtnbjncafoahclaaDoor
set_option linter.unusedSimpArgs false
set_option linter.unusedVariables false
open Go.RowKit
open AV (Mem Keeps)
theorem rel_sliced {w : World} {ok : Nat → Prop} {A : Option Addr} {n c sz l h : Nat} {els : List (List RV)} (hr : RV.rel w ok (.seq sz els) (.slice A n c)) (hl : l ≤ h) (hh : h ≤ els.length) : RV.rel w ok (.seq sz ((els.take h).drop l)) (sliced A l h c sz) := by
  simp only [RV.rel] at hr ⊢
  obtain ⟨A', n', c', e, hn, h1, h2, h3⟩ := hr
  injection e with e1 e2 e3; subst e1; subst e2; subst e3
  refine ⟨_, h - l, c - l, rfl, by rw [List.length_drop, List.length_take]; omega, by omega, by omega, fun h0 => ?_⟩
  obtain ⟨b, o, rfl, hb, hok, hE⟩ := h3 (by omega)
  rw [if_neg (by omega)]
  refine ⟨b, o + l * sz, by simp [Addr.add_lit], hb, hok, RV.relE_of _ _ _ fun k e hk => ?_⟩
  rw [List.getElem?_drop, List.getElem?_take] at hk
  split at hk
  · have := RV.relE_at _ o sz hE (l + k) e hk
    rwa [Nat.add_mul, ← Nat.add_assoc] at this
  · cases hk
section
variable {P : Program} {C : Ctx} {env : Env} {σ : List Ob} {t : Nat} {ty : TypeId} {pos : String} {after : Array Edge} {gd : Option (Nat × Bool)}
variable {tt e : TypeId} {z : Value} {sz bytes : Nat} {x y y' : Operand} {kd kd' : IntKind} {p q : Int} {els : List (List RV)} {α : Type} {l : List α} {f : α → List RV}
theorem SL.under [hs : SL P tt e z sz bytes] : P.underlying tt = some (.slice (P.elem tt)) := by
  have h := hs.el.ht
  have : P.elem tt = e := by simp [Program.elem, h]
  rw [this]; exact h
theorem SL.size [hs : SL P tt e z sz bytes] (w : World) : (sizeOf (P.elem tt)).run P w = .ok sz w := by
  have h := hs.el.ht
  have he : P.elem tt = e := by simp [Program.elem, h]
  obtain ⟨i, i1, i2, i3, i4⟩ := hs.el.hi
  simp [he, sizeOf, typeInfo, i1, i3]
theorem pu_slice_h [hs : SL P tt e z sz bytes] (hx : ev env x = .ro (.seq sz els)) (hy : ev env y = .ro (.c (.int kd p))) (h0 : 0 ≤ p) (h1 : p ≤ els.length) : Pur P C ⟨some t, .slice tt x none (some y) none, ty, pos, after, gd⟩ env σ (.ro (.seq sz (els.take p.toNat))) :=
  Pur.of (fun a m hG hσ hH => by
    have h := hH x (by simp [Op.operands])
    rw [hx] at h
    simp only [AV.rel] at h
    have h' := h
    simp only [RV.rel] at h'
    obtain ⟨A, n, c, ea, hn, k1, k2, _⟩ := h'
    rw [ea] at h
    have hr := rel_sliced h (Nat.zero_le p.toNat) (by omega)
    refine ⟨sliced A 0 p.toNat c sz, ?_, by simpa only [AV.rel, List.drop_zero] using hr⟩
    simp only [execOp, Option.map_some, Option.map_none, ev_c (hH _ (by simp [Op.operands])) hy, ea, Sem.run_bind, run_sliceAt_slice m.w tt _ _ _ _ SL.under, run_slice_h m.w tt A n c SL.under kd p h0 (by omega), SL.size, Result.andThen_ok]
    rfl)
theorem pu_slice_l [hs : SL P tt e z sz bytes] (hx : ev env x = .ro (.seq sz els)) (hy : ev env y = .ro (.c (.int kd p))) (h0 : 0 ≤ p) (h1 : p ≤ els.length) : Pur P C ⟨some t, .slice tt x (some y) none none, ty, pos, after, gd⟩ env σ (.ro (.seq sz (els.drop p.toNat))) :=
  Pur.of (fun a m hG hσ hH => by
    have h := hH x (by simp [Op.operands])
    rw [hx] at h
    simp only [AV.rel] at h
    have h' := h
    simp only [RV.rel] at h'
    obtain ⟨A, n, c, ea, hn, k1, k2, _⟩ := h'
    rw [ea] at h
    have hr := rel_sliced h (show p.toNat ≤ n by omega) (by omega)
    rw [hn, List.take_length, ← hn] at hr
    refine ⟨sliced A p.toNat n c sz, ?_, by simpa only [AV.rel] using hr⟩
    simp only [execOp, Option.map_some, Option.map_none, ev_c (hH _ (by simp [Op.operands])) hy, ea, Sem.run_bind, run_sliceAt_slice m.w tt _ _ _ _ SL.under, run_slice_l m.w tt A n c SL.under kd p h0 (by omega), SL.size, Result.andThen_ok]
    rfl)
theorem pu_slice_lh [hs : SL P tt e z sz bytes] (hx : ev env x = .ro (.seq sz els)) (hy : ev env y = .ro (.c (.int kd p))) (hy' : ev env y' = .ro (.c (.int kd' q))) (h0 : 0 ≤ p) (h1 : p ≤ q) (h2 : q ≤ els.length) : Pur P C ⟨some t, .slice tt x (some y) (some y') none, ty, pos, after, gd⟩ env σ (.ro (.seq sz ((els.take q.toNat).drop p.toNat))) :=
  Pur.of (fun a m hG hσ hH => by
    have h := hH x (by simp [Op.operands])
    rw [hx] at h
    simp only [AV.rel] at h
    have h' := h
    simp only [RV.rel] at h'
    obtain ⟨A, n, c, ea, hn, k1, k2, _⟩ := h'
    rw [ea] at h
    have hr := rel_sliced h (show p.toNat ≤ q.toNat by omega) (by omega)
    refine ⟨sliced A p.toNat q.toNat c sz, ?_, by simpa only [AV.rel] using hr⟩
    simp only [execOp, Option.map_some, Option.map_none, ev_c (hH _ (by simp [Op.operands])) hy, ev_c (hH _ (by simp [Op.operands])) hy', ea, Sem.run_bind, run_sliceAt_slice m.w tt _ _ _ _ SL.under, run_slice_lh m.w tt A n c SL.under kd kd' p q h0 h1 (by omega), SL.size, Result.andThen_ok]
    rfl)
theorem pu_slice_hM [hs : SL P tt e z sz bytes] (hx : ev env x = .ro (.seq sz (l.map f))) (hy : ev env y = .ro (.c (.int kd p))) (h0 : 0 ≤ p) (h1 : p ≤ l.length) : Pur P C ⟨some t, .slice tt x none (some y) none, ty, pos, after, gd⟩ env σ (.ro (.seq sz ((l.take p.toNat).map f))) := by
  have h := pu_slice_h (P := P) (tt := tt) (C := C) (σ := σ) (t := t) (ty := ty) (pos := pos) (after := after) (gd := gd) hx hy h0 (by simpa using h1)
  rwa [← List.map_take] at h
theorem pu_slice_lM [hs : SL P tt e z sz bytes] (hx : ev env x = .ro (.seq sz (l.map f))) (hy : ev env y = .ro (.c (.int kd p))) (h0 : 0 ≤ p) (h1 : p ≤ l.length) : Pur P C ⟨some t, .slice tt x (some y) none none, ty, pos, after, gd⟩ env σ (.ro (.seq sz ((l.drop p.toNat).map f))) := by
  have h := pu_slice_l (P := P) (tt := tt) (C := C) (σ := σ) (t := t) (ty := ty) (pos := pos) (after := after) (gd := gd) hx hy h0 (by simpa using h1)
  rwa [← List.map_drop] at h
end
end Go.Proofs.YtnbjncafoahclaaDoor
