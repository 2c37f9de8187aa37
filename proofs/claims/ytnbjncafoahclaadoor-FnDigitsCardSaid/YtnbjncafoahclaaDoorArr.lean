/- Arrays of truth values in a frame. Over any program. -/
import Derived.Test.YtnbjncafoahclaaDoorReb
namespace Go.Proofs.YtnbjncafoahclaaDoor
set_option linter.unusedSimpArgs false
set_option linter.unusedVariables false
open Go.RowKit
open AV (Mem Keeps)
def bools (n : Nat) (u : Nat → Bool) : List AV := (List.range n).map fun j => .bool (u j)
def boolsR (n : Nat) (u : Nat → Bool) : List RV := (List.range n).map fun j => .bool (u j)
def put1 (u : Nat → Bool) (k : Nat) (b : Bool) : Nat → Bool := fun j => if j = k then b else u j
theorem bools_len (n : Nat) (u : Nat → Bool) : (bools n u).length = n := by simp [bools]
theorem bools_len1 (n : Nat) (u : Nat → Bool) : (bools n u).length = n * 1 := by simp [bools]
theorem boolsR_len (n : Nat) (u : Nat → Bool) : (boolsR n u).length = n := by simp [boolsR]
theorem bools_at {n : Nat} {u : Nat → Bool} {k : Nat} (h : k < n) : (bools n u)[k]? = some (.bool (u k)) := by simp [bools, h]
theorem boolsR_at {n : Nat} {u : Nat → Bool} {k : Nat} (h : k < n) : (boolsR n u)[k]? = some (.bool (u k)) := by simp [boolsR, h]
theorem bools_map (n : Nat) (u : Nat → Bool) : bools n u = (boolsR n u).map .ro := by simp [bools, boolsR]
theorem bools_one (n : Nat) (u : Nat → Bool) : (boolsR n u).all RV.one = true := by
  rw [List.all_eq_true]
  intro x hx
  obtain ⟨j, _, rfl⟩ := List.mem_map.1 hx
  rfl
theorem bools_set {n : Nat} {u : Nat → Bool} {k : Nat} (b : Bool) : (bools n u).set k (.bool b) = bools n (put1 u k b) := by
  apply List.ext_getElem?
  intro j
  rw [List.getElem?_set]
  by_cases hj : j < n
  · rw [bools_at hj, bools_len]
    by_cases e : k = j
    · subst e; rw [if_pos rfl, if_pos hj, bools_at hj]; simp [put1]
    · rw [if_neg e, bools_at hj]
      have : ¬ j = k := fun h => e h.symm
      simp [put1, this]
  · have h1 : (bools n (put1 u k b))[j]? = none := by rw [List.getElem?_eq_none]; rw [bools_len]; omega
    have h2 : (bools n u)[j]? = none := by rw [List.getElem?_eq_none]; rw [bools_len]; omega
    rw [h1, h2]
    split
    · split
      · rename_i h; rw [bools_len] at h; omega
      · rfl
    · rfl
theorem bools_zero (n : Nat) : ((List.replicate n (Value.bool false)).map fun v => AV.ro (.c v)) = bools n fun _ => false := by
  apply List.ext_getElem?
  intro j
  by_cases hj : j < n
  · rw [bools_at hj]; simp [hj]
  · have h1 : (bools n fun _ => false)[j]? = none := by rw [List.getElem?_eq_none]; rw [bools_len]; omega
    rw [h1, List.getElem?_eq_none]; simp; omega
theorem setsAt_nil : ∀ (vs cs : List AV) (off : Nat), off + vs.length = cs.length → setsAt cs off vs = cs.take off ++ vs
  | [], cs, off, h => by simp [setsAt]; rw [List.take_of_length_le]; simp at h; omega
  | v :: vs, cs, off, h => by
    rw [setsAt, setsAt_nil vs _ (off + 1) (by simp at h ⊢; omega)]
    have hlt : off < cs.length := by simp at h; omega
    rw [List.take_succ_eq_append_getElem (by simpa using hlt), List.take_set_of_le (Nat.le_refl _)]
    simp
theorem setsAt_all {vs cs : List AV} (h : vs.length = cs.length) : setsAt cs 0 vs = vs := by
  rw [setsAt_nil vs cs 0 (by omega)]; simp
attribute [irreducible] bools boolsR
section
variable {P : Program} {C : Ctx} {ops : Array Oper} {rest : List Oper} {k : List Item} {R : Act → World → Prop} {env : Env} {σ : List Ob} {t : Nat} {ty : TypeId} {pos : String} {after : Array Edge} {gd : Option (Nat × Bool)}
theorem pu_loadA {tt : TypeId} {x : Operand} {i n : Nat} {o : Ob} {u : Nat → Bool} [TN P tt n] (hx : ev env x = .obj i 0) (ho : σ[i]? = some o) (hc : o.cs = bools n u) :
    Pur P C ⟨some t, .load tt x, ty, pos, after, gd⟩ env σ (.ro (.agg (boolsR n u))) :=
  pu_loadN_objR hx ho (hc.trans (bools_map n u)) (boolsR_len n u)
theorem pu_load_at {tt : TypeId} {x : Operand} {i off n : Nat} {o : Ob} {u : Nat → Bool} [T1 P tt] (hx : ev env x = .obj i off) (ho : σ[i]? = some o) (hc : o.cs = bools n u) (hlt : off < n) : Pur P C ⟨some t, .load tt x, ty, pos, after, gd⟩ env σ (.bool (u off)) :=
  pu_load_obj hx ho (by rw [hc]; exact bools_at hlt)
theorem op_storeA {tt : TypeId} {x y : Operand} {i n : Nat} {o : Ob} {u : Nat → Bool} [TN P tt n] (hx : ev env x = .obj i 0) (hy : ev env y = .ro (.agg (boolsR n u))) (ho : σ[i]? = some o) (hl : o.cs.length = n)
    (hk : RunsL P C ops rest k R ⟨env, σ.set i ⟨o.t, o.sz, bools n u⟩⟩) : RunsL P C ops (⟨none, .store tt x y, ty, pos, after, none⟩ :: rest) k R ⟨env, σ⟩ :=
  op_storeN (vs := (boolsR n u).map .ro) hx (by rw [hy]; simp only [cells?]; rw [if_pos (bools_one n u)]) (by simp [boolsR_len]) ho (by omega) (by
    rw [setsAt_all (by simp [boolsR_len, hl]), ← bools_map]; exact hk)
theorem op_store1 {tt : TypeId} {x y : Operand} {i off n : Nat} {o : Ob} {u : Nat → Bool} {b : Bool} [T1 P tt] (hx : ev env x = .obj i off) (hy : ev env y = .bool b) (ho : σ[i]? = some o) (hc : o.cs = bools n u) (hlt : off < n)
    (hk : RunsL P C ops rest k R ⟨env, σ.set i ⟨o.t, o.sz, bools n (put1 u off b)⟩⟩) : RunsL P C ops (⟨none, .store tt x y, ty, pos, after, none⟩ :: rest) k R ⟨env, σ⟩ :=
  op_store hx hy rfl ho (by rw [hc, bools_len]; exact hlt) (by rw [hc, bools_set]; exact hk)
theorem pu_indexA {tt e : TypeId} {x ix : Operand} {kd : IntKind} {p : Int} {n m : Nat} {u : Nat → Bool} [h1 : T1 P e] (hu : P.underlying tt = some (.array m e)) (hx : ev env x = .ro (.agg (boolsR n u))) (hi : ev env ix = .ro (.c (.int kd p))) (h0 : 0 ≤ p) (hlt : p < m) (hnm : m = n) :
    Pur P C ⟨some t, .index tt x ix, ty, pos, after, gd⟩ env σ (.bool (u p.toNat)) :=
  Pur.of fun a mm hG hσ hH => by
    have h := hH x (by simp [Op.operands])
    rw [hx] at h
    simp only [AV.rel, RV.rel] at h
    obtain ⟨us, e, hr⟩ := h
    obtain ⟨v, k1, k2⟩ := RV.rels_at _ _ hr p.toNat _ (boolsR_at (u := u) (by omega : p.toNat < n))
    simp only [RV.rel] at k2
    subst k2
    refine ⟨.bool (u p.toNat), ?_, by simp [AV.rel, RV.rel]⟩
    have k1' : us[p.toNat]? = some (.bool (u p.toNat)) := by simpa using k1
    simp [execOp, e, ev_c (hH _ (by simp [Op.operands])) hi, Instr.index, asIntOf, run_underlying hu, h0, hlt, run_size1 (P := P), part, run_isAgg1 (P := P), k1']
end
end Go.Proofs.YtnbjncafoahclaaDoor
