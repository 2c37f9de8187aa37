/- Marks: what the laws want. -/
import Derived.Test.YtcifgbmmnkilfaaMrr
namespace Go.Proofs.Ytcifgbmmnkilfaa
set_option linter.unusedSimpArgs false
set_option linter.unusedVariables false
open Go.RowKit
open AV (Mem Keeps)
theorem ends_sc {P : Program} {C0 C : Ctx} {fn : Func} {R : RR → Prop} {S : St} {t : Nat} {v : Value} (hsc : Sc C0 C) (hr : fn.results = #[.tmp t]) (hx : look S.env t = .ro (.c v)) (hR : R (.ro (.c v))) : ∀ a w, Sim C S a w → Ends P C0 fn R a w := by
  rintro a w ⟨s1, s2, φ, hG, hH⟩
  have h := hH t
  rw [hx] at h
  simp only [AV.rel, RV.rel] at h
  exact ⟨s1, v, by rw [results_eq, hr]; simp [resRun, h], .ro (.c v), [], hR, by simp [RR.rel, RV.rel], by simp, by simp, hsc.end_ hG⟩
theorem seals_cs : ∀ vs : List Value, OV.Seals (vs.map .c) (vs.map .c)
  | [] => by simp [OV.Seals]
  | v :: vs => by simp only [List.map_cons, OV.Seals]; exact ⟨_, _, rfl, by simp [OV.Seal], seals_cs vs⟩
theorem seal_row1 (e : TypeId) (vs : List Value) : OV.Seal (.row e 1 (vs.map .c)) (.seq 1 (vs.map fun v => [.c v])) := by
  simp only [OV.Seal]
  refine ⟨_, rfl, by simp, ?_⟩
  have : (vs.map fun v => [RV.c v]).flatten = vs.map .c := by
    induction vs with
    | nil => rfl
    | cons v vs ih => simp [ih]
  rw [this]
  exact seals_cs vs
theorem seals_app : ∀ {os os' : List OV} {rs rs' : List RV}, OV.Seals os rs → OV.Seals os' rs' → OV.Seals (os ++ os') (rs ++ rs')
  | [], os', rs, rs', h, h' => by simp only [OV.Seals] at h; subst h; simpa using h'
  | x :: os, os', rs, rs', h, h' => by
    simp only [OV.Seals] at h
    obtain ⟨r, rt, rfl, h1, h2⟩ := h
    simp only [List.cons_append, OV.Seals]
    exact ⟨r, rt ++ rs', rfl, h1, seals_app h2 h'⟩
theorem mx_apart {C1 C2 : Ctx} {ov : OV} {u : Value} {b1 b2 : List Nat} (h1 : Gh C1 ov u b1) (h2 : ∀ b ∈ b2, C1.w0.heap.size ≤ b) : ∀ b ∈ b2, b ∉ b1 := fun b hb hm => by
  have := (h1.fix b hm).1
  have := h2 b hb
  omega
theorem seals_bytes' (e : TypeId) (l : List UInt8) : Seals (.row e 1 (l.map RV.u8)) (bytesR l) := by
  have h := seals_row1 e (l.map RV.u8)
  rwa [List.map_map] at h
/-- The first of two results. -/
theorem tup2_gh {C : Ctx} {ov : OV} {v u : Value} {bs : List Nat} (h : Gh C (.tup [ov, .c v]) u bs) : ∃ u', u = .tuple #[u', v] ∧ Gh C ov u' bs := by
  have hr := h.rel
  simp only [OV.rel, OV.rels] at hr
  obtain ⟨us, rfl, u1, _, b1, _, e1, rfl, h1, v', _, b2, _, rfl, rfl, ⟨rfl, rfl⟩, rfl, rfl⟩ := hr
  obtain ⟨us⟩ := us
  simp only at e1
  subst e1
  simp only [List.append_nil] at h ⊢
  exact ⟨u1, rfl, h1, h.fix⟩
theorem seal_ints (l : List Int) : OV.Seal (intsO l) (intsR l) := by
  have h := seal_row1 3 (l.map fun z => Value.int .i64 z)
  rw [show ((l.map fun z => Value.int .i64 z).map fun v => [RV.c v]) = l.map fun z => [RV.int z] by rw [List.map_map]; rfl] at h
  exact h
theorem seal_bytes (l : List UInt8) : OV.Seal (bytesO l) (bytesR l) := by
  have h := seal_row1 5 (l.map fun z => Value.int .u8 (z.toNat : Int))
  rw [show ((l.map fun z => Value.int .u8 (z.toNat : Int)).map fun v => [RV.c v]) = l.map fun z => [RV.u8 z] by rw [List.map_map]; rfl] at h
  exact h
theorem seal_strs (l : List ByteArray) : OV.Seal (strsO l) (strsR l) := by
  have h := seal_row1 9 (l.map fun z => Value.string z)
  rw [show ((l.map fun z => Value.string z).map fun v => [RV.c v]) = l.map fun z => [RV.str z] by rw [List.map_map]; rfl] at h
  exact h
theorem seals_rul (r : Rul) : OV.Seals (rulO r) (rulR r) := by
  simp only [rulO, rulR, OV.Seals]
  exact ⟨_, _, rfl, by simp [OV.Seal], _, _, rfl, by simp [OV.Seal], _, _, rfl, by simp [OV.Seal], _, _, rfl, by simp [OV.Seal], _, _, rfl, seal_bytes _, _, _, rfl, seal_strs _, _, _, rfl, seal_ints _, _, _, rfl, seal_ints _, rfl⟩
theorem seal_ruls (d : Des) : OV.Seal (rulsO d) (rulsR d) := by
  simp only [rulsO, rulsR, OV.Seal]
  refine ⟨_, rfl, by simp [rulR], ?_⟩
  induction d with
  | nil => simp [OV.Seals]
  | cons x d ih =>
    rw [List.flatMap_cons, List.map_cons, List.flatten_cons]
    exact seals_app (seals_rul x) ih
theorem seal_des (d : Des) : OV.Seal (desO d) (desR d) := by
  simp only [desO, OV.Seal]
  exact ⟨_, rfl, by simp only [OV.Seals]; exact ⟨_, _, rfl, seal_ruls d, rfl⟩⟩
theorem des_val {w : World} {d : Des} {u : Value} {bs : List Nat} (h : OV.rel w (desO d) u bs) : ∃ A n c, u = .agg #[.slice A n c] := by
  simp only [desO, OV.rel, OV.rels] at h
  obtain ⟨us, rfl, v, _, b1, _, e1, rfl, h1, rfl, rfl⟩ := h
  obtain ⟨us⟩ := us
  simp only at e1
  subst e1
  have h1' : OV.rel w (rulsO d) v b1 := h1
  obtain ⟨A, n, c, rfl⟩ := row_slice h1'
  exact ⟨A, n, c, rfl⟩
end Go.Proofs.Ytcifgbmmnkilfaa
