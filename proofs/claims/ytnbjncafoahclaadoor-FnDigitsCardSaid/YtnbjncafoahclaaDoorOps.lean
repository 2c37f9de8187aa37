/- The operations, over a frame's values and objects. Over any program. -/
import Derived.Test.YtnbjncafoahclaaDoorSim
namespace Go.Proofs.YtnbjncafoahclaaDoor
set_option linter.unusedSimpArgs false
set_option linter.unusedVariables false
open Go.RowKit
open AV (Mem Keeps)

/-! ### What the tables say, as classes: found by their type's number. -/
/-- Field f of struct type s lies off cells from its start. -/
class FA (P : Program) (s : TypeId) (f : Nat) (off : outParam Nat) : Prop where
  h : (match P.underlying s with
    | some (.struct fs) => match fs[f]? with
      | some d => decide (d.offset = off) && (match P.info? d.type with | some i => decide (i.size ≠ 0) | none => false)
      | none => false
    | _ => false) = true
/-- A type of one cell that is no struct and no array. -/
class T1 (P : Program) (t : TypeId) : Prop where
  h : (match P.underlying t with
    | some (.struct _) | some (.array _ _) | none => false
    | _ => match P.info? t with | some i => decide (i.size = 1) | none => false) = true
/-- A struct or array of n cells, whose zero is z. -/
class TN (P : Program) (t : TypeId) (n : outParam Nat) : Prop where
  h : (match P.underlying t with
    | some (.struct _) | some (.array _ _) => match P.info? t with | some i => decide (i.size = n) | none => false
    | _ => false) = true
/-- A slice type. -/
class SL (P : Program) (t : TypeId) (e : outParam TypeId) (z : outParam Value) (sz bytes : outParam Nat) : Prop where
  el : Elem P t e z sz bytes
/-- An array type: n elements of sz cells. -/
class AR (P : Program) (t : TypeId) (n sz : outParam Nat) : Prop where
  h : (match P.underlying t with
    | some (.array m e) => decide (m = n) && (match P.info? e with | some i => decide (i.size = sz) | none => false)
    | _ => false) = true
/-- A string type. -/
class TS (P : Program) (t : TypeId) : Prop where
  h : P.underlying t = some .string
/-- An integer type. -/
class TI (P : Program) (t : TypeId) (k : outParam IntKind) : Prop where
  h : P.underlying t = some (.int k)
/-- A function with a body. -/
class FN (P : Program) (f : FuncId) (fn : outParam Func) : Prop where
  h : P.funcs[f]? = some fn
  name : (fn.name == "runtime.NumGoroutine") = false
  body : fn.body.isSome = true
section
variable {P : Program} {w : World}
theorem run_fieldAt {s : TypeId} {f off : Nat} [FA P s f off] (b o : Nat) : (Instr.fieldAt s (.pointer (some ⟨b, o, none⟩)) f).run P w = .ok (.pointer (some ⟨b, o + off, none⟩)) w := by
  have h := FA.h (P := P) (s := s) (f := f) (off := off)
  cases hu : P.underlying s with
  | none => simp [hu] at h
  | some d =>
    cases d <;> simp [hu] at h
    rename_i fs
    cases hf : fs[f]? with
    | none => simp [hf] at h
    | some d =>
      simp only [hf, Bool.and_eq_true, decide_eq_true_eq] at h
      cases hi : P.info? d.type with
      | none => simp [hi] at h
      | some i =>
        simp only [hi] at h
        have h2 : ¬ i.size = 0 := by simpa using h.2
        simp [Instr.fieldAt, run_underlying hu, hf, Instr.sureAddr, fieldPlace, sizeOf, typeInfo, hi, h2, Addr.add_lit, h.1]
theorem run_isAgg1 {t : TypeId} [T1 P t] : (isAgg t).run P w = .ok false w := by
  have h := T1.h (P := P) (t := t)
  cases hu : P.underlying t with
  | none => simp [hu] at h
  | some d => cases d <;> first | (simp [hu] at h; done) | simp [isAgg, run_underlying hu]
theorem run_size1 {t : TypeId} [T1 P t] : (sizeOf t).run P w = .ok 1 w := by
  have h := T1.h (P := P) (t := t)
  cases hi : P.info? t with
  | none =>
    cases hu : P.underlying t with
    | none => simp [hu] at h
    | some d => cases d <;> simp [hu, hi] at h
  | some i =>
    have h1 : i.size = 1 := by
      cases hu : P.underlying t with
      | none => simp [hu] at h
      | some d => cases d <;> simp [hu, hi] at h <;> exact h
    simp [sizeOf, typeInfo, hi, h1]
theorem run_isAggN {t : TypeId} {n : Nat} [TN P t n] : (isAgg t).run P w = .ok true w := by
  have h := TN.h (P := P) (t := t) (n := n)
  cases hu : P.underlying t with
  | none => simp [hu] at h
  | some d => cases d <;> first | (simp [hu] at h; done) | simp [isAgg, run_underlying hu]
theorem run_sizeN {t : TypeId} {n : Nat} [TN P t n] : (sizeOf t).run P w = .ok n w := by
  have h := TN.h (P := P) (t := t) (n := n)
  cases hi : P.info? t with
  | none =>
    cases hu : P.underlying t with
    | none => simp [hu] at h
    | some d => cases d <;> simp [hu, hi] at h
  | some i =>
    have h1 : i.size = n := by
      cases hu : P.underlying t with
      | none => simp [hu] at h
      | some d => cases d <;> simp [hu, hi] at h <;> exact h
    simp [sizeOf, typeInfo, hi, h1]
end

/-- An operation that yields v, whatever else is in the frame; the world may but grow. -/
structure Pur (P : Program) (C : Ctx) (o : Oper) (env : Env) (σ : List Ob) (v : AV) : Prop where
  run : ∀ (a : Act) (m : Mem), Good C m → m.σ = σ → (∀ x, x ∈ o.op.operands → AV.rel m (ev env x) (a.eval x)) → ∀ (K : Act → World → Prop) (Q : Exit → Act → World → Prop),
    (∀ u w', Below m.w.heap.size m.w w' → AV.rel { m with w := w' } v u → K (a.put o.dst u) w') → o.wp P a m.w K Q
section
variable {P : Program} {C : Ctx} {ops : Array Oper} {rest : List Oper} {k : List Item} {R : Act → World → Prop} {env : Env} {σ : List Ob} {t : Nat} {ty : TypeId} {pos : String} {after : Array Edge} {gd : Option (Nat × Bool)}
theorem Pur.of {o : Oper} {v : AV} (h : ∀ (a : Act) (m : Mem), Good C m → m.σ = σ → (∀ x, x ∈ o.op.operands → AV.rel m (ev env x) (a.eval x)) → ∃ u, (execOp a.eval o).run P m.w = .ok (.value u) m.w ∧ AV.rel m v u) : Pur P C o env σ v := by
  refine ⟨fun a m hG hσ hH K Q hK => ?_⟩
  obtain ⟨u, hr, hv⟩ := h a m hG hσ hH
  unfold Oper.wp
  rw [hr]
  simp only [Oper.upon]
  exact hK u m.w (Below.refl _ _) hv
theorem RunsL.pur {o : Oper} {v : AV} (h : Pur P C o env σ v) (hg : o.guard = none) (hd : o.dst = some t) (ht : t < C.n) (hk : RunsL P C ops rest k R ⟨(t, v) :: env, σ⟩) : RunsL P C ops (o :: rest) k R ⟨env, σ⟩ := by
  refine ⟨fun a w ⟨h1, h2, φ, h3, h4⟩ => ?_⟩
  refine wpList_plain hg fun K hK' => h.run a ⟨w, φ, σ, C.ok⟩ h3 rfl (fun x _ => ev_rel h4 x) _ _ fun u w' hb hv => ?_
  obtain ⟨g1, g2⟩ := good_below h3 hb
  rw [hd]
  exact hK' _ _ (hk.run _ _ ⟨h1, by simp [Act.put, h2], φ, g1, (h4.keeps g2).put (by rw [h2]; exact ht) hv⟩)
theorem ev_c {m : Mem} {a : Act} {x : Operand} {v : Value} (h : AV.rel m (ev env x) (a.eval x)) (hx : ev env x = .ro (.c v)) : a.eval x = v := by
  rw [hx] at h
  simpa only [AV.rel, RV.rel] using h
theorem pu_move {x : Operand} {v : AV} (hx : ev env x = v) : Pur P C ⟨some t, .move x, ty, pos, after, gd⟩ env σ v :=
  Pur.of (fun a m hG hσ hH => ⟨a.eval x, rfl, hx ▸ hH x (by simp [Op.operands])⟩)
theorem pu_assign {x : Operand} {v : AV} (hx : ev env x = v) : Pur P C ⟨some t, .assign x, ty, pos, after, gd⟩ env σ v :=
  Pur.of (fun a m hG hσ hH => ⟨a.eval x, rfl, hx ▸ hH x (by simp [Op.operands])⟩)
theorem pu_pick_t {c x y : Operand} {v : AV} (hc : ev env c = .bool true) (hx : ev env x = v) : Pur P C ⟨some t, .pick c x y, ty, pos, after, gd⟩ env σ v :=
  Pur.of (fun a m hG hσ hH => ⟨a.eval x, by simp [execOp, ev_c (hH c (by simp [Op.operands])) hc, asBool], hx ▸ hH x (by simp [Op.operands])⟩)
theorem pu_pick_f {c x y : Operand} {v : AV} (hc : ev env c = .bool false) (hy : ev env y = v) : Pur P C ⟨some t, .pick c x y, ty, pos, after, gd⟩ env σ v :=
  Pur.of (fun a m hG hσ hH => ⟨a.eval y, by simp [execOp, ev_c (hH c (by simp [Op.operands])) hc, asBool], hy ▸ hH y (by simp [Op.operands])⟩)
theorem pu_pick_b {c x y : Operand} {b p q : Bool} (hc : ev env c = .bool b) (hx : ev env x = .bool p) (hy : ev env y = .bool q) : Pur P C ⟨some t, .pick c x y, ty, pos, after, gd⟩ env σ (.bool (bif b then p else q)) :=
  Pur.of (fun a m hG hσ hH => by
    have h := ev_c (hH c (by simp [Op.operands])) hc
    have h1 := ev_c (hH x (by simp [Op.operands])) hx
    have h2 := ev_c (hH y (by simp [Op.operands])) hy
    refine ⟨.bool (bif b then p else q), ?_, by simp [AV.rel, RV.rel]⟩
    cases b <;> simp [execOp, h, h1, h2, asBool])
/-- Any operation on two values of no memory. -/
theorem pu_bin {op : BinOp} {xt yt : TypeId} {x y : Operand} {vx vy vz : Value} (hx : ev env x = .ro (.c vx)) (hy : ev env y = .ro (.c vy))
    (hr : ∀ w, ((do eqGuard op xt x y vx vy; binOp op xt vx vy : Sem Value)).run P w = .ok vz w) : Pur P C ⟨some t, .binOp op xt x y yt, ty, pos, after, gd⟩ env σ (.ro (.c vz)) :=
  Pur.of (fun a m hG hσ hH => by
    refine ⟨vz, ?_, by simp [AV.rel, RV.rel]⟩
    have h := hr m.w
    simp only [Sem.run_bind] at h
    simp only [execOp, ev_c (hH _ (by simp [Op.operands, Call.operands])) hx, ev_c (hH _ (by simp [Op.operands, Call.operands])) hy, Sem.run_bind, Sem.run_pure]
    generalize Sem.run P (eqGuard op xt x y vx vy) m.w = r at h ⊢
    cases r with
    | ok a' w' => simp only [Result.andThen] at h ⊢; rw [h]
    | halt h' w' => simp [Result.andThen] at h)
section
variable {xt yt : TypeId} {x y : Operand} {kd : IntKind} {p q : Int}
theorem pu_lss (hx : ev env x = .ro (.c (.int kd p))) (hy : ev env y = .ro (.c (.int kd q))) : Pur P C ⟨some t, .binOp .lss xt x y yt, ty, pos, after, gd⟩ env σ (.bool (decide (p < q))) := pu_bin hx hy (fun w => by simp [go_sem])
theorem pu_leq (hx : ev env x = .ro (.c (.int kd p))) (hy : ev env y = .ro (.c (.int kd q))) : Pur P C ⟨some t, .binOp .leq xt x y yt, ty, pos, after, gd⟩ env σ (.bool (decide (p ≤ q))) := pu_bin hx hy (fun w => by simp [go_sem])
theorem pu_gtr (hx : ev env x = .ro (.c (.int kd p))) (hy : ev env y = .ro (.c (.int kd q))) : Pur P C ⟨some t, .binOp .gtr xt x y yt, ty, pos, after, gd⟩ env σ (.bool (decide (q < p))) := pu_bin hx hy (fun w => by simp [go_sem])
theorem pu_geq (hx : ev env x = .ro (.c (.int kd p))) (hy : ev env y = .ro (.c (.int kd q))) : Pur P C ⟨some t, .binOp .geq xt x y yt, ty, pos, after, gd⟩ env σ (.bool (decide (q ≤ p))) := pu_bin hx hy (fun w => by simp [go_sem])
theorem pu_eql (hx : ev env x = .ro (.c (.int kd p))) (hy : ev env y = .ro (.c (.int kd q))) : Pur P C ⟨some t, .binOp .eql xt x y yt, ty, pos, after, gd⟩ env σ (.bool (decide (p = q))) := pu_bin hx hy (fun w => by simp [go_sem]; rfl)
theorem pu_neq (hx : ev env x = .ro (.c (.int kd p))) (hy : ev env y = .ro (.c (.int kd q))) : Pur P C ⟨some t, .binOp .neq xt x y yt, ty, pos, after, gd⟩ env σ (.bool (!decide (p = q))) := pu_bin hx hy (fun w => by simp [go_sem]; rfl)
theorem pu_add (hx : ev env x = .ro (.c (.int .i64 p))) (hy : ev env y = .ro (.c (.int .i64 q))) (hb : -9223372036854775808 ≤ p + q ∧ p + q ≤ 9223372036854775807) : Pur P C ⟨some t, .binOp .add xt x y yt, ty, pos, after, gd⟩ env σ (.int (p + q)) :=
  pu_bin hx hy (fun w => by simp [go_sem, IntWalk.i64_in _ hb])
theorem pu_sub (hx : ev env x = .ro (.c (.int .i64 p))) (hy : ev env y = .ro (.c (.int .i64 q))) (hb : -9223372036854775808 ≤ p - q ∧ p - q ≤ 9223372036854775807) : Pur P C ⟨some t, .binOp .sub xt x y yt, ty, pos, after, gd⟩ env σ (.int (p - q)) :=
  pu_bin hx hy (fun w => by simp [go_sem, IntWalk.i64_in _ hb])
theorem pu_mul (hx : ev env x = .ro (.c (.int .i64 p))) (hy : ev env y = .ro (.c (.int .i64 q))) (hb : -9223372036854775808 ≤ p * q ∧ p * q ≤ 9223372036854775807) : Pur P C ⟨some t, .binOp .mul xt x y yt, ty, pos, after, gd⟩ env σ (.int (p * q)) :=
  pu_bin hx hy (fun w => by simp [go_sem, IntWalk.i64_in _ hb])
/-- Sums that may wrap, of whatever kind. -/
theorem pu_addW (hx : ev env x = .ro (.c (.int kd p))) (hy : ev env y = .ro (.c (.int kd q))) : Pur P C ⟨some t, .binOp .add xt x y yt, ty, pos, after, gd⟩ env σ (.ro (.c (.int kd (kd.wrap (p + q))))) :=
  pu_bin hx hy (fun w => by simp [go_sem])
theorem pu_subW (hx : ev env x = .ro (.c (.int kd p))) (hy : ev env y = .ro (.c (.int kd q))) : Pur P C ⟨some t, .binOp .sub xt x y yt, ty, pos, after, gd⟩ env σ (.ro (.c (.int kd (kd.wrap (p - q))))) :=
  pu_bin hx hy (fun w => by simp [go_sem])
theorem pu_mulW (hx : ev env x = .ro (.c (.int kd p))) (hy : ev env y = .ro (.c (.int kd q))) : Pur P C ⟨some t, .binOp .mul xt x y yt, ty, pos, after, gd⟩ env σ (.ro (.c (.int kd (kd.wrap (p * q))))) :=
  pu_bin hx hy (fun w => by simp [go_sem])
end
theorem pu_eqlS {xt yt : TypeId} {x y : Operand} {p q : ByteArray} (hx : ev env x = .str p) (hy : ev env y = .str q) : Pur P C ⟨some t, .binOp .eql xt x y yt, ty, pos, after, gd⟩ env σ (.bool (p.toList == q.toList)) := pu_bin hx hy (fun w => by simp [go_sem, binOp, Op.stringOp])
theorem pu_neqS {xt yt : TypeId} {x y : Operand} {p q : ByteArray} (hx : ev env x = .str p) (hy : ev env y = .str q) : Pur P C ⟨some t, .binOp .neq xt x y yt, ty, pos, after, gd⟩ env σ (.bool (!(p.toList == q.toList))) := pu_bin hx hy (fun w => by simp [go_sem, binOp, Op.stringOp])
theorem pu_not {xt : TypeId} {x : Operand} {b : Bool} (hx : ev env x = .bool b) : Pur P C ⟨some t, .unOp .not xt x, ty, pos, after, gd⟩ env σ (.bool (!b)) :=
  Pur.of (fun a m hG hσ hH => ⟨.bool (!b), by simp [execOp, ev_c (hH _ (by simp [Op.operands, Call.operands])) hx, Op.unary], by simp [AV.rel, RV.rel]⟩)
theorem pu_convert {src dst : TypeId} {x : Operand} {kd kd' k0 : IntKind} {p : Int} (hs : TI P src k0) (hd : TI P dst kd') (hx : ev env x = .ro (.c (.int kd p))) : Pur P C ⟨some t, .convert src dst x, ty, pos, after, gd⟩ env σ (.ro (.c (.int kd' (kd'.wrap p)))) :=
  Pur.of (fun a m hG hσ hH => ⟨.int kd' (kd'.wrap p), by simp [execOp, ev_c (hH _ (by simp [Op.operands, Call.operands])) hx, convert, run_underlying hs.h, run_underlying hd.h, Conv.intToInt], by simp [AV.rel, RV.rel]⟩)
theorem pu_fieldAddr_ro {s : TypeId} {x : Operand} {f off : Nat} {cs : List RV} [FA P s f off] (hx : ev env x = .ro (.rp cs)) : Pur P C ⟨some t, .fieldAddr s x f, ty, pos, after, gd⟩ env σ (.ro (.rp (cs.drop off))) :=
  Pur.of (fun a m hG hσ hH => by
    have h := hH x (by simp [Op.operands, Call.operands])
    rw [hx] at h
    simp only [AV.rel, RV.rel] at h
    obtain ⟨b, o, e, hb, hok, hc⟩ := h
    refine ⟨.pointer (some ⟨b, o + off, none⟩), by simp [execOp, e, run_fieldAt], ?_⟩
    simp only [AV.rel, RV.rel]
    exact ⟨b, o + off, rfl, hb, hok, RV.relAt_drop cs o off hc⟩)
theorem pu_fieldAddr_obj {s : TypeId} {x : Operand} {f off i o : Nat} [FA P s f off] (hx : ev env x = .obj i o) : Pur P C ⟨some t, .fieldAddr s x f, ty, pos, after, gd⟩ env σ (.obj i (o + off)) :=
  Pur.of (fun a m hG hσ hH => by
    have h := hH x (by simp [Op.operands, Call.operands])
    rw [hx] at h
    simp only [AV.rel] at h
    obtain ⟨hi, g, hg, e⟩ := h
    refine ⟨.pointer (some ⟨g, o + off, none⟩), by simp [execOp, e, run_fieldAt], ?_⟩
    simp only [AV.rel]
    exact ⟨hi, g, hg, rfl⟩)
theorem pu_fieldAddr_pin {s : TypeId} {x : Operand} {f off i o g : Nat} [FA P s f off] (hx : ev env x = .pin i o g) : Pur P C ⟨some t, .fieldAddr s x f, ty, pos, after, gd⟩ env σ (.obj i (o + off)) :=
  Pur.of (fun a m hG hσ hH => by
    have h := hH x (by simp [Op.operands, Call.operands])
    rw [hx] at h
    simp only [AV.rel] at h
    obtain ⟨hi, hg, e⟩ := h
    refine ⟨.pointer (some ⟨g, o + off, none⟩), by simp [execOp, e, run_fieldAt], ?_⟩
    simp only [AV.rel]
    exact ⟨hi, g, hg, rfl⟩)
theorem pu_load_ro {tt : TypeId} {x : Operand} {r : RV} {cs : List RV} [T1 P tt] (hx : ev env x = .ro (.rp (r :: cs))) : Pur P C ⟨some t, .load tt x, ty, pos, after, gd⟩ env σ (.ro r) :=
  Pur.of (fun a m hG hσ hH => by
    have h := hH x (by simp [Op.operands, Call.operands])
    rw [hx] at h
    simp only [AV.rel, RV.rel, RV.relAt] at h
    obtain ⟨b, o, e, hb, hok, ⟨u, hc, h1, hr⟩, _⟩ := h
    exact ⟨u, by simp [execOp, e, Instr.loadAt, Instr.sureAddr, loadVar, run_isAgg1, run_load, hc], by simpa only [AV.rel] using hr⟩)
theorem pu_load_obj {tt : TypeId} {x : Operand} {i off : Nat} {o : Ob} {v : AV} [T1 P tt] (hx : ev env x = .obj i off) (ho : σ[i]? = some o) (hv : o.cs[off]? = some v) : Pur P C ⟨some t, .load tt x, ty, pos, after, gd⟩ env σ (v) :=
  Pur.of (fun a m hG hσ hH => by
    have h := hH x (by simp [Op.operands, Call.operands])
    rw [hx] at h
    simp only [AV.rel] at h
    obtain ⟨hi, g, hg, e⟩ := h
    have hob := hG.ob i o (by rw [hσ]; exact ho)
    rw [hg] at hob
    obtain ⟨us, h1, h2, h3⟩ := hob
    obtain ⟨u, k1, k2, k3⟩ := h3 off v hv
    have hc : m.w.cell? ⟨g, off, none⟩ = some u := by rw [cell_of_row _ g off us _ _ h1]; exact k1
    exact ⟨u, by simp [execOp, e, Instr.loadAt, Instr.sureAddr, loadVar, run_isAgg1, run_load, hc], k3⟩)
/-- A whole struct (or array) out of read-only memory. -/
theorem pu_loadN_ro {tt : TypeId} {x : Operand} {cs : List RV} {n : Nat} [TN P tt n] (hx : ev env x = .ro (.rp cs)) (hn : cs.length = n) : Pur P C ⟨some t, .load tt x, ty, pos, after, gd⟩ env σ (.ro (.agg cs)) :=
  Pur.of (fun a m hG hσ hH => by
    have h := hH x (by simp [Op.operands, Call.operands])
    rw [hx] at h
    simp only [AV.rel, RV.rel] at h
    obtain ⟨b, o, e, hb, hok, hc⟩ := h
    have hat := RV.relAt_at cs o hc
    let us : List Value := (List.range n).map fun j => (m.w.cell? ⟨b, o + j, none⟩).getD undef
    have hl : us.length = n := by simp [us]
    have hu : ∀ (j : Nat) v, us[j]? = some v → m.w.cell? ⟨b, o + j, none⟩ = some v := by
      intro j v hj
      have hjn : j < n := by have := (List.getElem?_eq_some_iff.1 hj).1; rwa [hl] at this
      obtain ⟨u, e1, _, _⟩ := hat j cs[j] (List.getElem?_eq_getElem (by omega))
      simp [us, hjn, e1] at hj
      rw [e1, hj]
    have hld := run_loadCells_list (P := P) m.w ⟨b, o, none⟩ us (fun j v hj => by rw [Addr.add_lit]; exact hu j v hj)
    rw [hl] at hld
    refine ⟨.agg us.toArray, by simp [execOp, e, Instr.loadAt, Instr.sureAddr, loadVar, run_isAggN (P := P) (t := tt) (n := n), run_sizeN (P := P) (t := tt) (n := n), hld], ?_⟩
    simp only [AV.rel, RV.rel]
    refine ⟨_, rfl, RV.rels_of cs _ (by simp [hl, hn]) fun j r u h1 h2 => ?_⟩
    obtain ⟨u', e1, _, e3⟩ := hat j r h1
    have := hu j u (by simpa using h2)
    rw [e1] at this; injection this with this; subst this
    exact e3)
theorem pu_loadN_obj {tt : TypeId} {x : Operand} {i off n : Nat} {o : Ob} [TN P tt n] (hx : ev env x = .obj i off) (ho : σ[i]? = some o) (hn : off + n ≤ o.cs.length) : Pur P C ⟨some t, .load tt x, ty, pos, after, gd⟩ env σ (.agg ((o.cs.drop off).take n)) :=
  Pur.of (fun a m hG hσ hH => by
    have h := hH x (by simp [Op.operands, Call.operands])
    rw [hx] at h
    simp only [AV.rel] at h
    obtain ⟨hi, g, hg, e⟩ := h
    have hob := hG.ob i o (by rw [hσ]; exact ho)
    rw [hg] at hob
    obtain ⟨us, h1, h2, h3⟩ := hob
    let vs : List Value := (us.toList.drop off).take n
    have hl : vs.length = n := by simp [vs]; omega
    have hu : ∀ (j : Nat) v, vs[j]? = some v → m.w.cell? ⟨g, off + j, none⟩ = some v := by
      intro j v hj
      rw [cell_of_row _ g (off + j) us _ _ h1]
      simp only [vs, List.getElem?_take, List.getElem?_drop] at hj
      split at hj
      · simpa using hj
      · cases hj
    have hld := run_loadCells_list (P := P) m.w ⟨g, off, none⟩ vs (fun j v hj => by rw [Addr.add_lit]; exact hu j v hj)
    rw [hl] at hld
    refine ⟨.agg vs.toArray, by simp [execOp, e, Instr.loadAt, Instr.sureAddr, loadVar, run_isAggN (P := P) (t := tt) (n := n), run_sizeN (P := P) (t := tt) (n := n), hld], ?_⟩
    simp only [AV.rel]
    refine ⟨_, rfl, AV.rels_of _ _ (by simp [vs]; omega) fun j r u q1 q2 => ?_⟩
    simp only [List.getElem?_take, List.getElem?_drop] at q1
    simp only [vs, List.getElem?_take, List.getElem?_drop] at q2
    split at q1
    · rename_i hj
      rw [if_pos hj] at q2
      obtain ⟨u', e1, _, e3⟩ := h3 _ r q1
      have : u' = u := by simpa [e1] using q2
      subst this; exact e3
    · cases q1)
theorem pu_loadN_objR {tt : TypeId} {x : Operand} {i n : Nat} {o : Ob} {rs : List RV} [TN P tt n] (hx : ev env x = .obj i 0) (ho : σ[i]? = some o) (hc : o.cs = rs.map .ro) (hn : rs.length = n) : Pur P C ⟨some t, .load tt x, ty, pos, after, gd⟩ env σ (.ro (.agg rs)) := by
  have h := pu_loadN_obj (P := P) (C := C) (t := t) (ty := ty) (pos := pos) (after := after) (gd := gd) (tt := tt) (n := n) hx ho (by rw [hc]; simp [hn])
  refine ⟨fun a m hG hσ hH K Q hK => h.run a m hG hσ hH K Q fun u w' hb hv => hK u w' hb ?_⟩
  rw [hc, List.drop_zero, List.take_of_length_le (by simp [hn])] at hv
  simp only [AV.rel, RV.rel] at hv ⊢
  obtain ⟨us, e, hr⟩ := hv
  have key : ∀ (rs : List RV) (us : List Value), AV.rels { m with w := w' } (rs.map .ro) us → RV.rels w' (Mem.ok { m with w := w' }) rs us := by
    intro rs
    induction rs with
    | nil => intro us h; simpa [AV.rels, RV.rels] using h
    | cons r rs ih =>
      intro us h
      simp only [List.map_cons, AV.rels] at h
      obtain ⟨u, us', rfl, h1, h2⟩ := h
      simp only [RV.rels]
      exact ⟨u, us', rfl, by simpa only [AV.rel] using h1, ih us' h2⟩
  exact ⟨us, e, key rs _ hr⟩
theorem pu_indexAddr_seq {tt : TypeId} {e : TypeId} {z : Value} {sz bytes : Nat} {x ix : Operand} {kd : IntKind} {p : Int} {els : List (List RV)} {c : List RV} [hs : SL P tt e z sz bytes]
    (hx : ev env x = .ro (.seq sz els)) (hi : ev env ix = .ro (.c (.int kd p))) (h0 : 0 ≤ p) (hc : els[p.toNat]? = some c) : Pur P C ⟨some t, .indexAddr tt x ix, ty, pos, after, gd⟩ env σ (.ro (.rp c)) :=
  Pur.of (fun a m hG hσ hH => by
    have h := hH x (by simp [Op.operands, Call.operands])
    rw [hx] at h
    simp only [AV.rel, RV.rel] at h
    obtain ⟨A, n, cp, ea, hn, h1, h2, h3⟩ := h
    have hlt : p.toNat < els.length := (List.getElem?_eq_some_iff.1 hc).1
    obtain ⟨b, o, rfl, hb, hok, hE⟩ := h3 (by omega)
    obtain ⟨ii, i1, i2, i3, i4⟩ := hs.el.hi
    have hat := RV.relE_at els o sz hE p.toNat c hc
    refine ⟨.pointer (some ⟨b, o + p.toNat * sz, none⟩), ?_, ?_⟩
    · have : (0 ≤ p ∧ p < (n : Int)) := by omega
      simp [execOp, ea, ev_c (hH _ (by simp [Op.operands, Call.operands])) hi, Instr.indexAt, asIntOf, run_underlying hs.el.ht, this, sizeOf, typeInfo, i1, i3, Addr.add_lit]
    · simp only [AV.rel, RV.rel]
      exact ⟨b, _, rfl, hb, hok, hat.2⟩)
theorem pu_indexAddr_map {tt : TypeId} {e : TypeId} {z : Value} {sz bytes : Nat} {x ix : Operand} {kd : IntKind} {p : Int} {α : Type} {l : List α} {f : α → List RV} {c : α} [hs : SL P tt e z sz bytes]
    (hx : ev env x = .ro (.seq sz (l.map f))) (hi : ev env ix = .ro (.c (.int kd p))) (h0 : 0 ≤ p) (hc : l[p.toNat]? = some c) : Pur P C ⟨some t, .indexAddr tt x ix, ty, pos, after, gd⟩ env σ (.ro (.rp (f c))) :=
  pu_indexAddr_seq hx hi h0 (by rw [List.getElem?_map, hc]; rfl)
theorem pu_indexAddr_own {tt : TypeId} {e : TypeId} {z : Value} {sz bytes : Nat} {x ix : Operand} {kd : IntKind} {p : Int} {i n : Nat} {o : Ob} [hs : SL P tt e z sz bytes]
    (hx : ev env x = .own i) (hi : ev env ix = .ro (.c (.int kd p))) (ho : σ[i]? = some o) (hz : o.sz = sz) (hl : o.cs.length = n * sz) (h0 : 0 ≤ p) (hlt : p < n) : Pur P C ⟨some t, .indexAddr tt x ix, ty, pos, after, gd⟩ env σ (.obj i (p.toNat * sz)) :=
  Pur.of (fun a m hG hσ hH => by
    have h := hH x (by simp [Op.operands, Call.operands])
    rw [hx] at h
    simp only [AV.rel] at h
    obtain ⟨o', n', e1, e2, e3, e4⟩ := h
    rw [hσ, ho] at e1; injection e1 with e1; subst e1
    subst hz
    have hn : n' = n := Nat.eq_of_mul_eq_mul_right e3 (e2.symm.trans hl)
    subst hn
    rcases e4 with ⟨_, r2, _⟩ | ⟨g, cap, us, hφ, er, hh, q1, q2, q3⟩
    · omega
    · obtain ⟨ii, i1, i2, i3, i4⟩ := hs.el.hi
      refine ⟨.pointer (some ⟨g, 0 + p.toNat * o.sz, none⟩), ?_, ?_⟩
      · have : (0 ≤ p ∧ p < (n' : Int)) := by omega
        simp [execOp, er, ev_c (hH _ (by simp [Op.operands, Call.operands])) hi, Instr.indexAt, asIntOf, run_underlying hs.el.ht, this, sizeOf, typeInfo, i1, i3, Addr.add_lit]
      · simp only [AV.rel]
        exact ⟨by rw [hσ]; exact (List.getElem?_eq_some_iff.1 ho).1, g, hφ, by simp⟩)
theorem run_indexArr {tt : TypeId} {n sz : Nat} [AR P tt n sz] {w : World} (b o : Nat) (kd : IntKind) (p : Int) (h0 : 0 ≤ p) (hlt : p < n) :
    (Instr.indexAt tt (.pointer (some ⟨b, o, none⟩)) (.int kd p)).run P w = .ok (.pointer (some ⟨b, o + p.toNat * sz, none⟩)) w := by
  have h := AR.h (P := P) (t := tt) (n := n) (sz := sz)
  cases hu : P.underlying tt with
  | none => simp [hu] at h
  | some d =>
    cases d <;> simp [hu] at h
    rename_i m e
    obtain ⟨rfl, h⟩ := h
    cases hi : P.info? e with
    | none => simp [hi] at h
    | some i =>
      simp [hi] at h
      simp [Instr.indexAt, asIntOf, run_underlying hu, Instr.sureAddr, h0, hlt, sizeOf, typeInfo, hi, h, Addr.add_lit]
theorem pu_indexAddr_arr {tt : TypeId} {x ix : Operand} {kd : IntKind} {p : Int} {i off n sz : Nat} [AR P tt n sz]
    (hx : ev env x = .obj i off) (hi : ev env ix = .ro (.c (.int kd p))) (h0 : 0 ≤ p) (hlt : p < n) : Pur P C ⟨some t, .indexAddr tt x ix, ty, pos, after, gd⟩ env σ (.obj i (off + p.toNat * sz)) :=
  Pur.of (fun a m hG hσ hH => by
    have h := hH x (by simp [Op.operands, Call.operands])
    rw [hx] at h
    simp only [AV.rel] at h
    obtain ⟨hil, g, hg, e⟩ := h
    refine ⟨.pointer (some ⟨g, off + p.toNat * sz, none⟩), ?_, ?_⟩
    · simp [execOp, e, ev_c (hH _ (by simp [Op.operands, Call.operands])) hi, run_indexArr (P := P) (tt := tt) (n := n) (sz := sz) g off kd p h0 hlt]
    · simp only [AV.rel]
      exact ⟨hil, g, hg, rfl⟩)
theorem pu_indexS {xt : TypeId} {x ix : Operand} {kd : IntKind} {p : Int} {s : ByteArray} {c : UInt8} [hs : TS P xt] (hx : ev env x = .str s) (hi : ev env ix = .ro (.c (.int kd p))) (h0 : 0 ≤ p) (hc : s[p.toNat]? = some c) : Pur P C ⟨some t, .index xt x ix, ty, pos, after, gd⟩ env σ (.u8 (c.toNat : Int)) :=
  Pur.of (fun a m hG hσ hH => ⟨.int .u8 c.toNat, by simp [execOp, ev_c (hH _ (by simp [Op.operands, Call.operands])) hx, ev_c (hH _ (by simp [Op.operands, Call.operands])) hi, Instr.index, asIntOf, run_underlying hs.h, h0, hc], by simp [AV.rel, RV.rel]⟩)
theorem pu_len_seq {tt : TypeId} {e : TypeId} {z : Value} {sz bytes sz' : Nat} {x : Operand} {els : List (List RV)} [hs : SL P tt e z sz bytes] (hx : ev env x = .ro (.seq sz' els)) :
    Pur P C ⟨some t, .call { callee := .builtin .len, args := #[x], argTypes := #[tt] }, ty, pos, after, gd⟩ env σ (.int (els.length : Int)) :=
  Pur.of (fun a m hG hσ hH => by
    have h := hH x (by simp [Op.operands, Call.operands])
    rw [hx] at h
    simp only [AV.rel, RV.rel] at h
    obtain ⟨A, n, cp, ea, hn, h1, h2, h3⟩ := h
    refine ⟨.int .i64 (els.length : Int), ?_, by simp [AV.rel, RV.rel]⟩
    simp [execOp, resolve, invoke, builtin, ea, Builtin.len_, run_underlying hs.el.ht, goInt, hn])
theorem pu_len_own {tt : TypeId} {e : TypeId} {z : Value} {sz bytes i n : Nat} {o : Ob} {x : Operand} [hs : SL P tt e z sz bytes] (hx : ev env x = .own i) (ho : σ[i]? = some o) (hl : o.cs.length = n * o.sz) : Pur P C ⟨some t, .call { callee := .builtin .len, args := #[x], argTypes := #[tt] }, ty, pos, after, gd⟩ env σ (.int (n : Int)) :=
  Pur.of (fun a m hG hσ hH => by
    have h := hH x (by simp [Op.operands, Call.operands])
    rw [hx] at h
    simp only [AV.rel] at h
    obtain ⟨o', n', e1, e2, e3, e4⟩ := h
    rw [hσ, ho] at e1; injection e1 with e1; subst e1
    have hn : n' = n := Nat.eq_of_mul_eq_mul_right e3 (e2.symm.trans hl)
    subst hn
    refine ⟨.int .i64 (n' : Int), ?_, by simp [AV.rel, RV.rel]⟩
    rcases e4 with ⟨r1, r2, _⟩ | ⟨g, cap, us, hφ, er, _⟩
    · subst r2; simp [execOp, resolve, invoke, builtin, r1, Builtin.len_, run_underlying hs.el.ht, goInt]
    · simp [execOp, resolve, invoke, builtin, er, Builtin.len_, run_underlying hs.el.ht, goInt])
theorem pu_len_nil {tt : TypeId} {e : TypeId} {z : Value} {sz bytes : Nat} {x : Operand} [hs : SL P tt e z sz bytes] (hx : ev env x = .nil) : Pur P C ⟨some t, .call { callee := .builtin .len, args := #[x], argTypes := #[tt] }, ty, pos, after, gd⟩ env σ (.int 0) :=
  Pur.of (fun a m hG hσ hH => ⟨.int .i64 0, by simp [execOp, resolve, invoke, builtin, ev_c (hH _ (by simp [Op.operands, Call.operands])) hx, Builtin.len_, run_underlying hs.el.ht, goInt], by simp [AV.rel, RV.rel]⟩)
theorem pu_lenS {tt : TypeId} {x : Operand} {s : ByteArray} [hs : TS P tt] (hx : ev env x = .str s) : Pur P C ⟨some t, .call { callee := .builtin .len, args := #[x], argTypes := #[tt] }, ty, pos, after, gd⟩ env σ (.int (s.size : Int)) :=
  Pur.of (fun a m hG hσ hH => ⟨.int .i64 s.size, by simp [execOp, resolve, invoke, builtin, ev_c (hH _ (by simp [Op.operands, Call.operands])) hx, Builtin.len_, run_underlying hs.h, goInt], by simp [AV.rel, RV.rel]⟩)
theorem pu_extract_ro {x : Operand} {j : Nat} {vs : List RV} {r : RV} (hx : ev env x = .ro (.tup vs)) (hj : vs[j]? = some r) : Pur P C ⟨some t, .extract x j, ty, pos, after, gd⟩ env σ (.ro r) :=
  Pur.of (fun a m hG hσ hH => by
    have h := hH x (by simp [Op.operands, Call.operands])
    rw [hx] at h
    simp only [AV.rel, RV.rel] at h
    obtain ⟨us, e, hr⟩ := h
    obtain ⟨u, h1, h2⟩ := RV.rels_at vs _ hr j r hj
    exact ⟨u, by simp [execOp, e, Instr.extract, by simpa using h1], by simpa only [AV.rel] using h2⟩)
theorem pu_extract {x : Operand} {j : Nat} {vs : List AV} {r : AV} (hx : ev env x = .tup vs) (hj : vs[j]? = some r) : Pur P C ⟨some t, .extract x j, ty, pos, after, gd⟩ env σ (r) :=
  Pur.of (fun a m hG hσ hH => by
    have h := hH x (by simp [Op.operands, Call.operands])
    rw [hx] at h
    simp only [AV.rel] at h
    obtain ⟨us, e, hr⟩ := h
    obtain ⟨u, h1, h2⟩ := AV.rels_at vs _ hr j r hj
    exact ⟨u, by simp [execOp, e, Instr.extract, by simpa using h1], h2⟩)

/-! ### Memory of the frame's own. -/
/-- The cells of a value, if each fits into one. -/
def cells? : AV → Option (List AV)
  | .ro (.agg rs) => if rs.all RV.one then some (rs.map .ro) else none
  | .agg vs => if vs.all AV.one then some vs else none
  | v => if v.one then some [v] else none
theorem cells_rel {m : Mem} {v : AV} {u : Value} {cs : List AV} (hv : AV.rel m v u) (hc : cells? v = some cs) : u.cells.size = cs.length ∧ ∀ (j : Nat) x, cs[j]? = some x → ∃ y, u.cells[j]? = some y ∧ y.oneCell' = true ∧ AV.rel m x y := by
  have key : ∀ (vs : List AV) (us : Array Value), (∀ x ∈ vs, AV.one x = true) → AV.rels m vs us.toList → us.size = vs.length ∧ ∀ (j : Nat) x, vs[j]? = some x → ∃ y, us[j]? = some y ∧ y.oneCell' = true ∧ AV.rel m x y := by
    intro vs us h1 hr
    refine ⟨by simpa using AV.rels_len vs _ hr, fun j x hj => ?_⟩
    obtain ⟨y, e1, e2⟩ := AV.rels_at vs _ hr j x hj
    exact ⟨y, by simpa using e1, AV.rel_one x y (h1 x (List.mem_of_getElem? hj)) e2, e2⟩
  have single : ∀ (v : AV) (u : Value), v.one = true → AV.rel m v u → u.cells.size = [v].length ∧ ∀ (j : Nat) x, [v][j]? = some x → ∃ y, u.cells[j]? = some y ∧ y.oneCell' = true ∧ AV.rel m x y := by
    intro v u h1 hr
    have ho := AV.rel_one v u h1 hr
    have hcell : u.cells = #[u] := by cases u <;> simp_all [Value.cells, Value.oneCell']
    refine ⟨by simp [hcell], fun j x hj => ?_⟩
    cases j with
    | zero => simp at hj; subst hj; exact ⟨u, by simp [hcell], ho, hr⟩
    | succ j => simp at hj
  unfold cells? at hc
  split at hc
  · rename_i rs
    split at hc
    · rename_i hall
      injection hc with hc; subst hc
      simp only [AV.rel, RV.rel] at hv
      obtain ⟨us, rfl, hr⟩ := hv
      refine key _ us (fun x hx => ?_) (AV.rels_ro rs _ hr)
      obtain ⟨r, hr', rfl⟩ := List.mem_map.1 hx
      simpa [AV.one] using List.all_eq_true.1 hall r hr'
    · cases hc
  · rename_i vs
    split at hc
    · rename_i hall
      injection hc with hc; subst hc
      simp only [AV.rel] at hv
      obtain ⟨us, rfl, hr⟩ := hv
      exact key _ us (fun x hx => List.all_eq_true.1 hall x hx) hr
    · cases hc
  · split at hc
    · rename_i h1
      injection hc with hc; subst hc
      exact single _ u h1 hv
    · cases hc
theorem op_box {elem : TypeId} {x : Operand} {cs : List AV} (hx : cells? (ev env x) = some cs) (ht : t < C.n) (hk : RunsL P C ops rest k R ⟨(t, .obj σ.length 0) :: env, σ ++ [⟨elem, 0, cs⟩]⟩) :
    RunsL P C ops (⟨some t, .box elem x, ty, pos, after, none⟩ :: rest) k R ⟨env, σ⟩ :=
  RunsL.val rfl rfl ht (fun a w φ hG hH => by
    obtain ⟨h1, h2⟩ := cells_rel (ev_rel hH x) hx
    have hg := good_alloc hG (a.eval x).cells elem 0 cs (by omega) h2
    refine ⟨.pointer (some ⟨w.heap.size, 0, none⟩), w.alloc (.cells (a.eval x).cells elem), _, ?_, hg.1, hg.2, ?_⟩
    · simp [execOp, Instr.box, newVar, newRow, newObj]; rfl
    · simp only [AV.rel]
      exact ⟨by simp, w.heap.size, upd_eq, rfl⟩) hk
/-- The zero of a type, in cells. -/
class TZ (P : Program) (t : TypeId) (cs : outParam (List Value)) : Prop where
  h : ∃ i z, P.info? t = some i ∧ i.zero = some z ∧ z.cells = cs.toArray ∧ ∀ x ∈ cs, x.oneCell' = true
theorem op_alloc {elem : TypeId} {cs : List Value} [hz : TZ P elem cs] (ht : t < C.n) (hk : RunsL P C ops rest k R ⟨(t, .obj σ.length 0) :: env, σ ++ [⟨elem, 0, cs.map fun v => .ro (.c v)⟩]⟩) :
    RunsL P C ops (⟨some t, .alloc elem, ty, pos, after, none⟩ :: rest) k R ⟨env, σ⟩ :=
  RunsL.val rfl rfl ht (fun a w φ hG hH => by
    obtain ⟨i, z, h1, h2, h3, h4⟩ := hz.h
    have hg := good_alloc hG cs.toArray elem 0 (cs.map fun v => .ro (.c v)) (by simp) (fun j v hj => by
      rw [List.getElem?_map, Option.map_eq_some_iff] at hj
      obtain ⟨x, hx, rfl⟩ := hj
      exact ⟨x, by simpa using hx, h4 x (List.mem_of_getElem? hx), by simp [AV.rel, RV.rel]⟩)
    refine ⟨.pointer (some ⟨w.heap.size, 0, none⟩), w.alloc (.cells cs.toArray elem), _, ?_, hg.1, hg.2, ?_⟩
    · simp [execOp, Instr.alloc, zeroValue, typeInfo, h1, h2, newVar, newRow, newObj, h3]; rfl
    · simp only [AV.rel]
      exact ⟨by simp, w.heap.size, upd_eq, rfl⟩) hk
/-- Several cells into an object. -/
def setsAt (cs : List AV) (off : Nat) : List AV → List AV
  | [] => cs
  | v :: vs => setsAt (cs.set off v) (off + 1) vs
theorem setsAt_len : ∀ (vs cs : List AV) (off : Nat), (setsAt cs off vs).length = cs.length
  | [], cs, off => rfl
  | v :: vs, cs, off => by rw [setsAt, setsAt_len vs]; simp
theorem keeps_trans {m m' m'' : Mem} (h : Keeps (fun _ => True) m m') (k : Keeps (fun _ => True) m' m'') : Keeps (fun _ => True) m m'' := by
  refine ⟨⟨Nat.le_trans h.ro.1 k.ro.1, fun b hb ho => ?_⟩, fun i _ hi => ?_, fun i ob _ hi => ?_, fun i g us t _ hi hg hh => ?_⟩
  · obtain ⟨h1, h2⟩ := h.ro.2 b hb ho
    obtain ⟨k1, k2⟩ := k.ro.2 b (Nat.lt_of_lt_of_le hb h.ro.1) h1
    exact ⟨k1, k2.trans h2⟩
  · obtain ⟨h1, h2⟩ := h.obj i trivial hi
    obtain ⟨k1, k2⟩ := k.obj i trivial h1
    exact ⟨k1, k2.trans h2⟩
  · obtain ⟨cs', h1, h2⟩ := h.row i ob trivial hi
    obtain ⟨cs'', k1, k2⟩ := k.row i _ trivial h1
    exact ⟨cs'', k1, k2.trans h2⟩
  · obtain ⟨h1, h2⟩ := h.obj i trivial hi
    obtain ⟨us', q1, q2⟩ := h.blk i g us t trivial hi hg hh
    obtain ⟨us'', r1, r2⟩ := k.blk i g us' t trivial h1 (h2.trans hg) q1
    exact ⟨us'', r1, r2.trans q2⟩
theorem keeps_refl (m : Mem) : Keeps (fun _ => True) m m :=
  ⟨⟨Nat.le_refl _, fun b _ hb => ⟨hb, rfl⟩⟩, fun i _ hi => ⟨hi, rfl⟩, fun i ob _ hi => ⟨ob.cs, hi, rfl⟩, fun i g us t _ _ _ hh => ⟨us, hh, rfl⟩⟩
/-- A chain of stores into an object. -/
theorem good_stores {φ : Nat → Option Nat} {i g : Nat} (hg : φ i = some g) : ∀ (vs : List AV) (us : List Value) (w : World) (σ : List Ob) (o : Ob) (off : Nat), σ[i]? = some o → off + vs.length ≤ o.cs.length → us.length = vs.length →
    (∀ (j : Nat) v, vs[j]? = some v → ∃ u, us[j]? = some u ∧ u.oneCell' = true ∧ AV.rel ⟨w, φ, σ, C.ok⟩ v u) → Good C ⟨w, φ, σ, C.ok⟩ →
    ∃ w', (∀ s n, s + n = off → (storeCells ⟨g, s, none⟩ us n).run P w = .ok () w') ∧ Good C ⟨w', φ, σ.set i ⟨o.t, o.sz, setsAt o.cs off vs⟩, C.ok⟩ ∧ Keeps (fun _ => True) ⟨w, φ, σ, C.ok⟩ ⟨w', φ, σ.set i ⟨o.t, o.sz, setsAt o.cs off vs⟩, C.ok⟩
  | [], us, w, σ, o, off, hi, hl, hu, hr, hG => by
    have : us = [] := List.eq_nil_of_length_eq_zero (by simpa using hu)
    subst this
    have e : σ.set i ⟨o.t, o.sz, setsAt o.cs off []⟩ = σ := by
      obtain ⟨hlt, he⟩ := List.getElem?_eq_some_iff.1 hi
      have : (⟨o.t, o.sz, setsAt o.cs off []⟩ : Ob) = σ[i] := by rw [he]; rfl
      rw [this, List.set_getElem_self]
    rw [e]
    exact ⟨w, fun s n _ => by simp [storeCells], hG, keeps_refl _⟩
  | v :: vs, us, w, σ, o, off, hi, hl, hu, hr, hG => by
    cases us with
    | nil => simp at hu
    | cons u us =>
      simp only [List.length_cons] at hl hu
      have h0 := hr 0 v (by simp)
      simp only [List.getElem?_cons_zero, Option.some.injEq] at h0
      obtain ⟨_, rfl, ho1, hv⟩ := h0
      obtain ⟨g1, k1⟩ := good_store (off := off) hG hi hg v _ ho1 hv
      have hil : i < σ.length := (List.getElem?_eq_some_iff.1 hi).1
      obtain ⟨w', hw, g2, k2⟩ := good_stores hg vs us _ (σ.set i ⟨o.t, o.sz, o.cs.set off v⟩) ⟨o.t, o.sz, o.cs.set off v⟩ (off + 1) (by simp [hil]) (by simp; omega) (by omega)
        (fun j x hj => by
          obtain ⟨y, e1, e2, e3⟩ := hr (j + 1) x (by simpa using hj)
          exact ⟨y, by simpa using e1, e2, AV.rel_keeps k1 _ _ (AV.only_true _) e3⟩) g1
      have e : (σ.set i ⟨o.t, o.sz, o.cs.set off v⟩).set i ⟨o.t, o.sz, setsAt (o.cs.set off v) (off + 1) vs⟩ = σ.set i ⟨o.t, o.sz, setsAt o.cs off (v :: vs)⟩ := by rw [List.set_set]; rfl
      simp only [e] at g2 k2
      refine ⟨w', fun s n hsn => ?_, g2, keeps_trans k1 k2⟩
      have hob := hG.ob i o hi
      rw [show (⟨w, φ, σ, C.ok⟩ : Mem).φ i = some g from hg] at hob
      obtain ⟨cs, q1, q2, q3⟩ := hob
      have hc : w.cell? ⟨g, off, none⟩ = some cs[off] := by rw [cell_of_row _ g off cs _ _ q1]; exact Array.getElem?_eq_getElem (by omega)
      have hf : w.frozen? ⟨g, off, none⟩ = false := frozen_of_row w g off cs o.t q1
      have := hw s (n + 1) (by omega)
      simp [storeCells, Addr.add_lit, hsn, run_store P w ⟨g, off, none⟩ u .plain ho1, hc, hf, this]
theorem op_store {tt : TypeId} {x y : Operand} {i off : Nat} {o : Ob} {v : AV} [T1 P tt] (hx : ev env x = .obj i off) (hy : ev env y = v) (h1 : v.one = true) (ho : σ[i]? = some o) (hlt : off < o.cs.length)
    (hk : RunsL P C ops rest k R ⟨env, σ.set i ⟨o.t, o.sz, o.cs.set off v⟩⟩) : RunsL P C ops (⟨none, .store tt x y, ty, pos, after, none⟩ :: rest) k R ⟨env, σ⟩ :=
  RunsL.void rfl rfl (fun a w φ hG hH => by
    have h := ev_rel hH x
    rw [hx] at h
    simp only [AV.rel] at h
    obtain ⟨hi, g, hg, e⟩ := h
    have hv := ev_rel hH y
    rw [hy] at hv
    have ho1 := AV.rel_one v _ h1 hv
    obtain ⟨w', hw, g2, k2⟩ := good_stores (P := P) (C := C) hg [v] [a.eval y] w σ o off ho (by simp; omega) rfl (fun j x hj => by
      cases j with
      | zero => simp at hj; subst hj; exact ⟨_, by simp, ho1, hv⟩
      | succ j => simp at hj) hG
    have hcell : (a.eval y).cells = #[a.eval y] := by cases hh : a.eval y <;> simp_all [Value.cells, Value.oneCell']
    refine ⟨w', φ, ?_, g2, k2⟩
    simp [execOp, e, Instr.storeAt, Instr.sureAddr, storeVar, hcell, run_size1 (P := P) (t := tt), hw off 0 rfl]) hk
/-- A whole struct or array. -/
theorem op_storeN {tt : TypeId} {x y : Operand} {i off n : Nat} {o : Ob} {vs : List AV} [TN P tt n] (hx : ev env x = .obj i off) (hy : cells? (ev env y) = some vs) (hn : vs.length = n) (ho : σ[i]? = some o) (hlt : off + n ≤ o.cs.length)
    (hk : RunsL P C ops rest k R ⟨env, σ.set i ⟨o.t, o.sz, setsAt o.cs off vs⟩⟩) : RunsL P C ops (⟨none, .store tt x y, ty, pos, after, none⟩ :: rest) k R ⟨env, σ⟩ :=
  RunsL.void rfl rfl (fun a w φ hG hH => by
    have h := ev_rel hH x
    rw [hx] at h
    simp only [AV.rel] at h
    obtain ⟨hi, g, hg, e⟩ := h
    obtain ⟨c1, c2⟩ := cells_rel (ev_rel hH y) hy
    obtain ⟨w', hw, g2, k2⟩ := good_stores (P := P) (C := C) hg vs (a.eval y).cells.toList w σ o off ho (by omega) (by simpa using c1) (fun j x hj => by simpa using c2 j x hj) hG
    refine ⟨w', φ, ?_, g2, k2⟩
    simp [execOp, e, Instr.storeAt, Instr.sureAddr, storeVar, c1, hn, run_sizeN (P := P) (t := tt) (n := n), hw off 0 rfl]) hk
/-- A guard. -/
theorem RunsL.guard {dst : Nat} {op : Op} {j tj : Nat} {want b : Bool} {oj : Oper} (hj : ops[j]? = some oj) (hd : oj.dst = some tj) (hb : look env tj = .bool b) (ht : dst < C.n)
    (hy : b = want → RunsL P C ops (⟨some dst, op, ty, pos, after, none⟩ :: rest) k R ⟨env, σ⟩) (hn : b = (!want) → RunsL P C ops rest k R ⟨(dst, .ro (.c undef)) :: env, σ⟩) :
    RunsL P C ops (⟨some dst, op, ty, pos, after, some (j, want)⟩ :: rest) k R ⟨env, σ⟩ := by
  have key : ∀ (a : Act) (m : Mem), Holds m env a → yielded ops a.tmps j = some b := by
    intro a m hH
    have h := hH tj
    rw [hb] at h
    simp only [AV.rel, RV.rel, Array.getD_eq_getD_getElem?] at h
    cases he : a.tmps[tj]? with
    | none => simp [he, undef] at h
    | some v =>
      simp [he] at h
      subst h
      simp [yielded, hj, hd, he]
  by_cases hbw : b = want
  · refine RunsL.wanted (fun a m hH => ?_) (hy hbw)
    simp [Region.wanted, key a m hH, hbw]
  · refine RunsL.unwanted rfl ht (fun a m hH => ?_) (hn (by cases b <;> cases want <;> simp_all))
    simp [Region.wanted, key a m hH, hbw]
/-- What a frame that holds a slice knows of its length. -/
theorem Runs.len_le {t sz : Nat} {els : List (List RV)} (h : look env t = .ro (.seq sz els)) (hk : els.length ≤ maxLen → Runs P C k R ⟨env, σ⟩) : Runs P C k R ⟨env, σ⟩ := by
  refine ⟨fun a w hs => ?_⟩
  refine (hk ?_).run a w hs
  obtain ⟨_, _, φ, _, hH⟩ := hs
  have hh := hH t
  rw [show look (⟨env, σ⟩ : St).env t = _ from h] at hh
  simp only [AV.rel, RV.rel] at hh
  obtain ⟨A, n, c, _, h1, h2, h3, _⟩ := hh
  omega
end
end Go.Proofs.YtnbjncafoahclaaDoor
