/- Gathered texts. -/
import Derived.Test.YtnecoghfhcimeaaGat0
import Derived.Test.YtnecoghfhcimeaaGat1
import Derived.StillTail
import Derived.Laws.Tables
/- Integers as bytes: both sides. -/
namespace Go.Proofs.Ytnecoghfhcimeaa
set_option linter.unusedSimpArgs false
set_option linter.unusedVariables false
open Go.RowKit
open AV (Mem Keeps)
section
variable {P : Program} {C : Ctx} {k k' : List Item} {R : Act → World → Prop} {S : St} {c : Code}
end
def u8i (x : Int) : UInt8 := UInt8.ofNat (x % 256).toNat
section
variable {P : Program} {C : Ctx} {env : Env} {σ : List Ob} {t : Nat} {ty : TypeId} {pos : String} {after : Array Edge} {gd : Option (Nat × Bool)}
end
def be (n s : Int) : List UInt8 := if s = 1 then [u8i n] else if s = 2 then [u8i (n / 256), u8i n] else if s = 3 then [u8i (n / 256 / 256), u8i (n / 256), u8i n] else [u8i (n / 256 / 256 / 256), u8i (n / 256 / 256), u8i (n / 256), u8i n]
end Go.Proofs.Ytnecoghfhcimeaa
/- Marks on rows of texts. -/
namespace Go.Proofs.Ytnecoghfhcimeaa
set_option linter.unusedSimpArgs false
set_option linter.unusedVariables false
open Go.RowKit
open AV (Mem Keeps)
end Go.Proofs.Ytnecoghfhcimeaa
/- Marks: calls that write into values of the frame's. Over any program. -/
namespace Go.Proofs.Ytnecoghfhcimeaa
set_option linter.unusedSimpArgs false
set_option linter.unusedVariables false
open Go.RowKit
open AV (Mem Keeps)
section
variable {P : Program} {C : Ctx} {ops : Array Oper} {rest : List Oper} {k : List Item} {R : Act → World → Prop} {env : Env} {σ : List Ob} {t : Nat} {ty : TypeId} {pos : String} {after : Array Edge}
theorem op_callG {f : FuncId} {fn : Func} {xs : Array Operand} {ats : Array TypeId} {i i' : Int} {u : Value} {bs : List Nat} {ov : OV} [hfn : FN P f fn] (hf : MX P f ov i i') (gh : Gh C ov u bs) (nd : bs.Nodup)
    (hx : xs.toList.map (ev env) = [.ro (constRV u), .int i]) (ht : t < C.n) (hk : ∀ C', Nx C C' bs → RunsL P C' ops rest k R ⟨(t, .int i') :: env, σ⟩) :
    RunsL P C ops (⟨some t, .call { callee := .value (.func f), args := xs, argTypes := ats }, ty, pos, after, none⟩ :: rest) k R ⟨env, σ⟩ :=
  op_callX (X := fun _ => True) (fun w h1 h2 => (hf w u bs (OV.rel_keep ov u bs gh.rel h1) nd h2).mono fun _ _ h => ⟨h.1, trivial, h.2⟩) hx gh.fix ht fun C' nx _ _ => hk C' nx
theorem op_callK {f : FuncId} {fn : Func} {xs : Array Operand} {ats : Array TypeId} {i i' : Int} {u : Value} {bs : List Nat} {ov ov' : OV} [hfn : FN P f fn] (hf : MK P f ov i i' ov') (gh : Gh C ov u bs) (nd : bs.Nodup)
    (hx : xs.toList.map (ev env) = [.ro (constRV u), .int i]) (ht : t < C.n) (hk : ∀ C', Nx C C' bs → Gh C' ov' u bs → RunsL P C' ops rest k R ⟨(t, .int i') :: env, σ⟩) :
    RunsL P C ops (⟨some t, .call { callee := .value (.func f), args := xs, argTypes := ats }, ty, pos, after, none⟩ :: rest) k R ⟨env, σ⟩ :=
  op_callX (X := fun w => OV.rel w ov' u bs) (fun w h1 h2 => (hf w u bs (OV.rel_keep ov u bs gh.rel h1) nd h2)) hx gh.fix ht fun C' nx hX hfix => hk C' nx ⟨hX, fun b hb => ⟨Nat.lt_of_lt_of_le (gh.fix b hb).1 nx.size, hfix b hb⟩⟩
end
theorem rels_split {w : World} : ∀ (os os' : List OV) (us : List Value) (bs : List Nat), OV.rels w (os ++ os') us bs → ∃ u1 u2 b1 b2, us = u1 ++ u2 ∧ bs = b1 ++ b2 ∧ OV.rels w os u1 b1 ∧ OV.rels w os' u2 b2
  | [], os', us, bs, h => ⟨[], us, [], bs, rfl, rfl, by simp [OV.rels], h⟩
  | x :: xs, os', us, bs, h => by
    simp only [List.cons_append, OV.rels] at h
    obtain ⟨u, us', b, bs', rfl, rfl, h1, h2⟩ := h
    obtain ⟨u1, u2, b1, b2, rfl, rfl, k1, k2⟩ := rels_split xs os' us' bs' h2
    exact ⟨u :: u1, u2, b ++ b1, b2, rfl, by rw [List.append_assoc], by simp only [OV.rels]; exact ⟨u, u1, b, b1, rfl, rfl, h1, k1⟩, k2⟩
theorem rowN_block {w : World} {e : TypeId} {sz : Nat} {cs : List OV} {u : Value} {bs : List Nat} (h : OV.rel w (.row e sz cs) u bs) :
    (u = .slice none 0 0 ∧ cs = [] ∧ bs = []) ∨ ∃ g n cap cur xs bs', u = .slice (some ⟨g, 0, none⟩) n cap ∧ cs.length = n * sz ∧ bs = g :: bs' ∧ OV.rels w cs xs bs' ∧ (∀ x ∈ xs, x.oneCell' = true) ∧ w.heap[g]? = some (.cells cur e (0, 0)) ∧ n ≤ cap ∧ cap ≤ maxLen ∧ cur.size = cap * sz ∧ cur.toList.take (n * sz) = xs := by
  simp only [OV.rel] at h
  obtain ⟨n, xs, bs', h1, h2, h3, h4, h5, rfl⟩ := h
  rcases h5.2 with ⟨rfl, h0⟩ | ⟨g, cap, cur, rfl, _, hh, c1, c2, c3, ht⟩
  · subst h0
    have : cs = [] := List.eq_nil_of_length_eq_zero (by omega)
    subst this
    simp only [OV.rels] at h3
    exact .inl ⟨rfl, rfl, by simp [Value.ownBlock, h3.2]⟩
  · exact .inr ⟨g, n, cap, cur, xs, bs', rfl, h1, rfl, h3, h4, hh, c1, c2, c3, ht⟩
theorem block_rowN {w : World} {e : TypeId} {sz n g cap : Nat} {cs : List OV} {xs : List Value} {bs' : List Nat} {cur : Array Value} (hs : 0 < sz) (hl : cs.length = n * sz) (hr : OV.rels w cs xs bs') (h1 : ∀ x ∈ xs, x.oneCell' = true) (hh : w.heap[g]? = some (.cells cur e (0, 0))) (c1 : n ≤ cap) (c2 : cap ≤ maxLen) (c3 : cur.size = cap * sz) (ht : cur.toList.take (n * sz) = xs) :
    OV.rel w (.row e sz cs) (.slice (some ⟨g, 0, none⟩) n cap) (g :: bs') := by
  simp only [OV.rel]
  exact ⟨n, xs, bs', hl, hs, hr, h1, ⟨by rw [OV.rels_len _ _ _ hr, hl], .inr ⟨g, cap, cur, rfl, Nat.zero_le _, hh, c1, c2, c3, ht⟩⟩, rfl⟩
theorem take_at {cur : Array Value} {m : Nat} {xs : List Value} (h : cur.toList.take m = xs) {i : Nat} {v : Value} (hv : xs[i]? = some v) : cur[i]? = some v := by
  rw [← h, List.getElem?_take] at hv
  split at hv
  · simpa using hv
  · cases hv
theorem Gh.aggs {C : Ctx} {os : List OV} {us : List Value} {bs : List Nat} (h : OV.rels C.w0 os us bs) (hf : ∀ b ∈ bs, b < C.w0.heap.size ∧ ¬ C.mu b ∧ ¬ C.ok b) : Gh C (.agg os) (.agg us.toArray) bs :=
  ⟨by simp only [OV.rel]; exact ⟨_, rfl, by simpa using h⟩, hf⟩
theorem Gh.rels {C : Ctx} {os : List OV} {us : List Value} {bs : List Nat} (h : Gh C (.agg os) (.agg us.toArray) bs) : OV.rels C.w0 os us bs := by
  have := h.rel
  simp only [OV.rel] at this
  obtain ⟨vs, e, h1⟩ := this
  injection e with e
  subst e
  simpa using h1
end Go.Proofs.Ytnecoghfhcimeaa
/- Marks on descriptions. -/
namespace Go.Proofs.Ytnecoghfhcimeaa
set_option linter.unusedSimpArgs false
set_option linter.unusedVariables false
open Go.RowKit
open AV (Mem Keeps)
end Go.Proofs.Ytnecoghfhcimeaa
/- Marks: what the laws want. -/
namespace Go.Proofs.Ytnecoghfhcimeaa
set_option linter.unusedSimpArgs false
set_option linter.unusedVariables false
open Go.RowKit
open AV (Mem Keeps)
theorem ends_sc {P : Program} {C0 C : Ctx} {fn : Func} {R : RR → Prop} {S : St} {t : Nat} {v : Value} (hsc : Sc C0 C) (hr : fn.results = #[.tmp t]) (hx : look S.env t = .ro (.c v)) (hR : R (.ro (.c v))) : ∀ a w, Sim C S a w → Ends P C0 fn R a w := by
  rintro a w ⟨s1, s2, φ, hG, hH⟩
  have h := hH t
  rw [hx] at h
  simp only [AV.rel, RV.rel] at h
  exact ⟨s1, v, by rw [results_eq, hr]; simp [resRun, h], .ro (.c v), [], hR, by simp [RR.rel, RV.rel], by simp, by simp, hsc.end_ hG⟩
theorem seals_cs : ∀ vs : List Value, OV.Seals (vs.map .c) (vs.map .c)
  | [] => by simp [OV.Seals]
  | v :: vs => by simp only [List.map_cons, OV.Seals]; exact ⟨_, _, rfl, by simp [OV.Seal], seals_cs vs⟩
theorem seal_row1 (e : TypeId) (vs : List Value) : OV.Seal (.row e 1 (vs.map .c)) (.seq 1 (vs.map fun v => [.c v])) := by
  simp only [OV.Seal]
  refine ⟨_, rfl, by simp, ?_⟩
  have : (vs.map fun v => [RV.c v]).flatten = vs.map .c := by
    induction vs with
    | nil => rfl
    | cons v vs ih => simp [ih]
  rw [this]
  exact seals_cs vs
theorem seals_app : ∀ {os os' : List OV} {rs rs' : List RV}, OV.Seals os rs → OV.Seals os' rs' → OV.Seals (os ++ os') (rs ++ rs')
  | [], os', rs, rs', h, h' => by simp only [OV.Seals] at h; subst h; simpa using h'
  | x :: os, os', rs, rs', h, h' => by
    simp only [OV.Seals] at h
    obtain ⟨r, rt, rfl, h1, h2⟩ := h
    simp only [List.cons_append, OV.Seals]
    exact ⟨r, rt ++ rs', rfl, h1, seals_app h2 h'⟩
theorem mx_apart {C1 C2 : Ctx} {ov : OV} {u : Value} {b1 b2 : List Nat} (h1 : Gh C1 ov u b1) (h2 : ∀ b ∈ b2, C1.w0.heap.size ≤ b) : ∀ b ∈ b2, b ∉ b1 := fun b hb hm => by
  have := (h1.fix b hm).1
  have := h2 b hb
  omega
theorem seal_bytes (l : List UInt8) : OV.Seal (bytesO l) (bytesR l) := by
  have h := seal_row1 5 (l.map fun z => Value.int .u8 (z.toNat : Int))
  rw [show ((l.map fun z => Value.int .u8 (z.toNat : Int)).map fun v => [RV.c v]) = l.map fun z => [RV.u8 z] by rw [List.map_map]; rfl] at h
  exact h
end Go.Proofs.Ytnecoghfhcimeaa
/- Values of the format in memory of their own: as the laws' helpers make them; read as data. -/
namespace Go.Proofs.Ytnecoghfhcimeaa
set_option linter.unusedSimpArgs false
set_option linter.unusedVariables false
open Go.RowKit
open AV (Mem Keeps)
mutual
def treOs : Tre → List OV
  | .mk n b l => [.c (.int .i64 n), bytesO b, .row 29 3 (tresOs l)]
def tresOs : List Tre → List OV
  | [] => []
  | v :: vs => treOs v ++ tresOs vs
end
theorem tresOs_eq : ∀ l, tresOs l = l.flatMap treOs
  | [] => by rw [tresOs]; rfl
  | v :: vs => by rw [tresOs, tresOs_eq vs, List.flatMap_cons]
def treO (v : Tre) : OV := .agg (treOs v)
def tresO (l : List Tre) : OV := .row 29 3 (l.flatMap treOs)
theorem treOs_eq (v : Tre) : treOs v = [.c (.int .i64 v.number), bytesO v.bytes, tresO v.items] := by
  cases v; rw [treOs, tresOs_eq]; rfl
theorem treOs_len (v : Tre) : (treOs v).length = 3 := by rw [treOs_eq]; rfl
theorem tresO_len (l : List Tre) : (l.flatMap treOs).length = l.length * 3 := by
  induction l with
  | nil => rfl
  | cons x l ih => rw [List.flatMap_cons, List.length_append, ih, List.length_cons, treOs_len]; omega
def treZ : List Value := [.int .i64 0, .slice none 0 0, .slice none 0 0]
theorem tre_open {w : World} {v : Tre} {us : List Value} {bs : List Nat} (h : OV.rels w (treOs v) us bs) : ∃ A1 n1 c1 A2 n2 c2 d1 d2, us = [.int .i64 v.number, .slice A1 n1 c1, .slice A2 n2 c2] ∧ bs = d1 ++ d2 ∧
    OV.rel w (bytesO v.bytes) (.slice A1 n1 c1) d1 ∧ OV.rel w (tresO v.items) (.slice A2 n2 c2) d2 := by
  rw [treOs_eq] at h
  simp only [OV.rels] at h
  obtain ⟨v0, _, b0, _, rfl, rfl, h0, v1, _, b1, _, rfl, rfl, h1, v2, _, b2, _, rfl, rfl, h2, rfl, rfl⟩ := h
  have h1' := h1
  have h2' := h2
  unfold bytesO at h1'
  unfold tresO at h2'
  obtain ⟨A1, n1, c1, rfl⟩ := row_slice h1'
  obtain ⟨A2, n2, c2, rfl⟩ := row_slice h2'
  simp only [OV.rel] at h0
  refine ⟨A1, n1, c1, A2, n2, c2, b1, b2, by rw [h0.1], by rw [h0.2]; simp, h1, h2⟩
theorem tre_shut {w : World} {v : Tre} {A1 A2 : Option Addr} {n1 c1 n2 c2 : Nat} {d1 d2 : List Nat} (h1 : OV.rel w (bytesO v.bytes) (.slice A1 n1 c1) d1) (h2 : OV.rel w (tresO v.items) (.slice A2 n2 c2) d2) :
    OV.rels w (treOs v) [.int .i64 v.number, .slice A1 n1 c1, .slice A2 n2 c2] (d1 ++ d2) := by
  rw [treOs_eq]
  simp only [OV.rels]
  exact ⟨_, _, [], _, rfl, rfl, by simp [OV.rel], _, _, d1, _, rfl, rfl, h1, _, _, d2, [], rfl, by simp, h2, rfl, rfl⟩
theorem seals_tre : ∀ v : Tre, OV.Seals (treOs v) v.cells := by
  refine Tre.ind fun v ih => ?_
  rw [treOs_eq, Tre.cells_eq]
  simp only [OV.Seals]
  refine ⟨_, _, rfl, by simp [OV.Seal], _, _, rfl, seal_bytes _, _, _, rfl, ?_, rfl⟩
  simp only [tresO, OV.Seal]
  refine ⟨_, rfl, by simp [Tre.cells_len], ?_⟩
  generalize v.items = l at ih
  induction l with
  | nil => simp [OV.Seals]
  | cons x l ihl =>
    rw [List.flatMap_cons, List.map_cons, List.flatten_cons]
    exact seals_app (ih x (by simp)) (ihl fun y hy => ih y (by simp [hy]))
theorem seal_tre (v : Tre) : OV.Seal (treO v) (treR v) := by
  simp only [treO, OV.Seal]
  exact ⟨v.cells, (treC v).symm, seals_tre v⟩
theorem tre_val {w : World} {v : Tre} {u : Value} {bs : List Nat} (h : OV.rel w (treO v) u bs) : ∃ A1 n1 c1 A2 n2 c2, u = .agg #[.int .i64 v.number, .slice A1 n1 c1, .slice A2 n2 c2] := by
  simp only [treO, OV.rel] at h
  obtain ⟨us, rfl, h⟩ := h
  obtain ⟨us⟩ := us
  obtain ⟨A1, n1, c1, A2, n2, c2, _, _, e, _⟩ := tre_open h
  simp only at e
  subst e
  exact ⟨A1, n1, c1, A2, n2, c2, rfl⟩
set_option maxHeartbeats 8000000 in
theorem toTresO_ac (l : List Tre) (ih : ∀ x ∈ l, x.total ≤ 1048576 → ACo Try.prog 12 [treR x] (treO x)) (hl : l.length ≤ 1048576) (ht : (l.map Tre.total).sum ≤ 1048576) : ACo Try.prog 57 [tresR l] (tresO l) := by
  have hl' : (l.map Tre.cells).length = l.length := List.length_map ..
  refine aco_enter Try.func57 rfl _ Try.ntmps57 (by simp) fun C0 hn hm => ?_
  have hn0 := hn
  repeat' (first
 | refine RunsL.step tabOk hn rfl ?_
 | refine RunsL.nil ?_
 | refine Runs.toRegion 30 rfl ?_
 | refine op_makeN (zs := treZ) rfl rfl rfl rfl (by decide) rfl (by omega) (by unfold maxLen; omega) (tl hn rfl) ?_
 | (refine Runs.ctls 30 rfl ?_; first | ((first | refine Runs.cond_yes rfl ?_ ?_ | refine Runs.cond_nno rfl ?_ ?_); · first | omega | rfl | assumption | (simp only [List.length_map]; omega)) | ((first | refine Runs.cond_no rfl ?_ ?_ | refine Runs.cond_nyes rfl ?_ ?_); · first | omega | rfl | assumption | (simp only [List.length_map]; omega)) | refine Runs.ret (ends_ro hm rfl rfl ?_) | exact Runs.ret (ends_cellR hm rfl rfl rfl (Nat.le_of_ble_eq_true rfl) rfl rfl))
 | refine op_storeN rfl rfl rfl rfl (Nat.le_of_ble_eq_true rfl) ?_
 | (refine RunsL.pe hn rfl rfl rfl ?_; first
 | refine ⟨_, pu_add rfl rfl (by omega), ?_⟩
 | refine ⟨_, pu_indexAddr_map rfl rfl (by omega) (by assumption), ?_⟩
      ))
  refine Runs.ctls 30 rfl (Runs.keep [(0, .ro (tresR l)), (3, .own 0), (4, .int 0)] ⟨rfl, rfl, rfl, trivial⟩ ?_)
  refine Runs.loopV (fun n C S => ∃ (j : Nat) (us : List Value) (bs : List Nat), j + n = l.length ∧ C.n = C0.n ∧ Sc C0 C ∧ OV.rels C.w0 ((l.take j).flatMap treOs) us bs ∧ (∀ b ∈ bs, b < C.w0.heap.size ∧ ¬ C.mu b ∧ ¬ C.ok b) ∧ bs.Nodup ∧ (∀ b ∈ bs, C0.w0.heap.size ≤ b) ∧ S = ⟨[(0, .ro (tresR l)), (3, .own 0), (4, .int (j : Int))], [⟨29, 3, (us ++ (List.replicate (l.length - j) treZ).flatten).map fun u => .ro (.c u)⟩]⟩) ?_ l.length C0 _ ⟨0, [], [], by omega, rfl, Sc.start hm, by simp [OV.rels], by simp, by simp, by simp, ?_⟩
  · rintro n C S ⟨j, us, bs, hj, hn, hsc, hov, hfix, hnd, hnew, rfl⟩ ih'
    have hn := hn.trans hn0
    have hul := OV.rels_len _ _ _ hov
    rw [tresO_len, List.length_take, Nat.min_eq_left (by omega)] at hul
    have hcl : (us ++ (List.replicate (l.length - j) treZ).flatten).length = l.length * 3 := by
      rw [List.length_append, rep_flatten_len, hul, show treZ.length = 3 from rfl]; omega
    by_cases hlt : j < l.length
    · obtain ⟨x, hx⟩ : ∃ x, l[(j : Int).toNat]? = some x := ⟨_, List.getElem?_eq_getElem hlt⟩
      have hx' : l[j]? = some x := hx
      have hm' := List.mem_of_getElem? hx'
      have hcall := ih x hm' (Nat.le_trans (sum_mem_le Tre.total hm') ht)
      repeat' (first
 | refine RunsL.step tabOk hn rfl ?_
 | refine RunsL.nil ?_
 | refine Runs.toRegion 30 rfl ?_
 | (refine RunsL.pe hn rfl rfl rfl ?_; first
 | refine ⟨_, pu_loadN_eq rfl (Tre.cells_eq _) rfl, ?_⟩)
 | (refine Runs.ctls 30 rfl ?_; first | ((first | refine Runs.cond_yes rfl ?_ ?_ | refine Runs.cond_nno rfl ?_ ?_); · first | omega | rfl | assumption | (simp only [List.length_map]; omega)) | ((first | refine Runs.cond_no rfl ?_ ?_ | refine Runs.cond_nyes rfl ?_ ?_); · first | omega | rfl | assumption | (simp only [List.length_map]; omega)) | refine Runs.ret (ends_ro hm rfl rfl ?_) | exact Runs.ret (ends_cellR hm rfl rfl rfl (Nat.le_of_ble_eq_true rfl) rfl rfl))
 | refine op_storeN rfl rfl rfl rfl (Nat.le_of_ble_eq_true rfl) ?_
 | (refine RunsL.pe hn rfl rfl rfl ?_; first
 | refine ⟨_, pu_add rfl rfl (by omega), ?_⟩
 | refine ⟨_, pu_indexAddr_map rfl rfl (by omega) (by assumption), ?_⟩
          ))
      refine op_callN hcall (.cons .ro .nil) (tl hn rfl) fun C1 u1 b1 nx1 gh1 nd1 new1 => ?_
      have hrel := gh1.rel
      simp only [treO, OV.rel] at hrel
      obtain ⟨vs, rfl, hvs⟩ := hrel
      obtain ⟨A1, n1, c1, A2, n2, c2, d1, d2, hE, _⟩ := tre_open hvs
      obtain ⟨vs⟩ := vs
      simp only at hE hvs
      subst hE
      have hn := nx1.n.trans hn
      repeat' (first
 | refine RunsL.step tabOk hn rfl ?_
 | refine RunsL.nil ?_
 | refine Runs.toRegion 30 rfl ?_
 | refine op_storeN rfl rfl rfl rfl (by simp only [List.length_map, List.length_cons, List.length_nil, Int.toNat_natCast]; omega) ?_
 | (refine RunsL.pe hn rfl rfl rfl ?_; first
 | refine ⟨_, pu_indexAddr_own (n := l.length) rfl rfl rfl rfl (by simp only [List.length_map]; omega) (by omega) (by omega), ?_⟩)
 | (refine Runs.ctls 30 rfl ?_; first | ((first | refine Runs.cond_yes rfl ?_ ?_ | refine Runs.cond_nno rfl ?_ ?_); · first | omega | rfl | assumption | (simp only [List.length_map]; omega)) | ((first | refine Runs.cond_no rfl ?_ ?_ | refine Runs.cond_nyes rfl ?_ ?_); · first | omega | rfl | assumption | (simp only [List.length_map]; omega)) | refine Runs.ret (ends_ro hm rfl rfl ?_) | exact Runs.ret (ends_cellR hm rfl rfl rfl (Nat.le_of_ble_eq_true rfl) rfl rfl))
 | refine op_storeN rfl rfl rfl rfl (Nat.le_of_ble_eq_true rfl) ?_
 | (refine RunsL.pe hn rfl rfl rfl ?_; first
 | refine ⟨_, pu_add rfl rfl (by omega), ?_⟩
 | refine ⟨_, pu_indexAddr_map rfl rfl (by omega) (by assumption), ?_⟩
          ))
      have hz1 := nx1.size
      refine Runs.ctls 30 rfl ?_
      refine Runs.keep [(0, .ro (tresR l)), (3, .own 0), (4, .int ((j + 1 : Nat) : Int))] ⟨rfl, rfl, rfl, trivial⟩ ?_
      refine ih' (n - 1) (by omega) C1 _ ⟨j + 1, us ++ [.int .i64 x.number, .slice A1 n1 c1, .slice A2 n2 c2], bs ++ b1, by omega, hn.trans hn0.symm, hsc.next nx1 (by simp), ?_, fun b hb => ?_, ?_, fun b hb => ?_, ?_⟩
      · have e : l.take (j + 1) = l.take j ++ [x] := by rw [List.take_add_one, hx']; rfl
        rw [e, List.flatMap_append]
        refine OV.rels_append _ _ _ _ _ _ (OV.rels_keep _ _ _ hov fun b hb => nx1.block b (hfix b hb).1 (hfix b hb).2.1 (by simp)) ?_
        simpa using hvs
      · rcases List.mem_append.1 hb with hb | hb
        · refine ⟨Nat.lt_of_lt_of_le (hfix b hb).1 hz1, fun hm => ?_, fun ho => (hfix b hb).2.2 (nx1.ok b ho)⟩
          rcases nx1.mu b hm with h1 | h1
          · exact (hfix b hb).2.1 h1
          · have := (hfix b hb).1; omega
        · exact gh1.fix b hb
      · exact nodup_two C.w0.heap.size hnd nd1 (fun y hy => (hfix y hy).1) new1
      · rcases List.mem_append.1 hb with hb | hb
        · exact hnew b hb
        · have := new1 b hb; have := hsc.below.size; omega
      · congr 1
        simp only [List.set_cons_zero, Int.toNat_natCast, List.cons.injEq, Ob.mk.injEq, true_and, and_true]
        rw [List.map_append, sets_app _ _ _ _ (by rw [List.length_map, hul]) (by simp only [List.length_map, rep_flatten_len, show treZ.length = 3 from rfl, List.length_cons, List.length_nil]; omega)]
        rw [show l.length - j = (l.length - (j + 1)) + 1 by omega, List.replicate_succ, List.flatten_cons]
        simp only [List.map_append, List.append_assoc]
        rfl
    · obtain rfl : j = l.length := by omega
      repeat' (first
 | refine RunsL.step tabOk hn rfl ?_
 | refine RunsL.nil ?_
 | refine Runs.toRegion 30 rfl ?_
 | (refine Runs.ctls 30 rfl ?_; first | ((first | refine Runs.cond_yes rfl ?_ ?_ | refine Runs.cond_nno rfl ?_ ?_); · first | omega | rfl | assumption | (simp only [List.length_map]; omega)) | ((first | refine Runs.cond_no rfl ?_ ?_ | refine Runs.cond_nyes rfl ?_ ?_); · first | omega | rfl | assumption | (simp only [List.length_map]; omega)) | refine Runs.ret (ends_ro hm rfl rfl ?_) | exact Runs.ret (ends_cellR hm rfl rfl rfl (Nat.le_of_ble_eq_true rfl) rfl rfl))
 | refine op_storeN rfl rfl rfl rfl (Nat.le_of_ble_eq_true rfl) ?_
 | (refine RunsL.pe hn rfl rfl rfl ?_; first
 | refine ⟨_, pu_add rfl rfl (by omega), ?_⟩
 | refine ⟨_, pu_indexAddr_map rfl rfl (by omega) (by assumption), ?_⟩
          ))
      rw [List.take_length] at hov
      exact Runs.ctls 30 rfl (Runs.ret (endsO_row hsc rfl rfl (by simp) hov (fun b hb => ⟨(hfix b hb).1, (hfix b hb).2.1⟩) hnd hnew))
  · simp
    exact ⟨rfl, rfl⟩
theorem toTreO_ac : ∀ v : Tre, v.total ≤ 1048576 → ACo Try.prog 12 [treR v] (treO v) := by
  refine Tre.ind fun v ih ht => ?_
  have he := v.total_eq
  have k1 := toBytesO_ac v.bytes (by omega)
  have k2 := toTresO_ac v.items ih (by omega) (by omega)
  refine aco_enter Try.func12 rfl _ Try.ntmps12 (by simp) fun C hn hm => ?_
  repeat' (first
 | refine RunsL.step tabOk hn rfl ?_
 | refine RunsL.nil ?_
 | refine Runs.toRegion 30 rfl ?_
 | (refine Runs.ctls 30 rfl ?_; first | ((first | refine Runs.cond_yes rfl ?_ ?_ | refine Runs.cond_nno rfl ?_ ?_); · first | omega | rfl | assumption | (simp only [List.length_map]; omega)) | ((first | refine Runs.cond_no rfl ?_ ?_ | refine Runs.cond_nyes rfl ?_ ?_); · first | omega | rfl | assumption | (simp only [List.length_map]; omega)) | refine Runs.ret (ends_ro hm rfl rfl ?_) | exact Runs.ret (ends_cellR hm rfl rfl rfl (Nat.le_of_ble_eq_true rfl) rfl rfl))
 | refine op_box rfl (tl hn rfl) ?_
 | refine op_storeF rfl rfl rfl rfl (Nat.le_of_ble_eq_true rfl) ?_
 | refine op_alloc (tl hn rfl) ?_
 | refine op_storeN rfl rfl rfl rfl (Nat.le_of_ble_eq_true rfl) ?_
    )
  refine op_callN k1 (.cons .ro .nil) (tl hn rfl) fun C1 u1 b1 nx1 gh1 nd1 new1 => ?_
  obtain ⟨A1, n1, c1, rfl⟩ := row_slice gh1.rel
  have hn := nx1.n.trans hn
  repeat' (first
 | refine RunsL.step tabOk hn rfl ?_
 | refine RunsL.nil ?_
 | refine Runs.toRegion 30 rfl ?_
 | (refine Runs.ctls 30 rfl ?_; first | ((first | refine Runs.cond_yes rfl ?_ ?_ | refine Runs.cond_nno rfl ?_ ?_); · first | omega | rfl | assumption | (simp only [List.length_map]; omega)) | ((first | refine Runs.cond_no rfl ?_ ?_ | refine Runs.cond_nyes rfl ?_ ?_); · first | omega | rfl | assumption | (simp only [List.length_map]; omega)) | refine Runs.ret (ends_ro hm rfl rfl ?_) | exact Runs.ret (ends_cellR hm rfl rfl rfl (Nat.le_of_ble_eq_true rfl) rfl rfl))
 | refine op_box rfl (tl hn rfl) ?_
 | refine op_storeF rfl rfl rfl rfl (Nat.le_of_ble_eq_true rfl) ?_
 | refine op_alloc (tl hn rfl) ?_
 | refine op_storeN rfl rfl rfl rfl (Nat.le_of_ble_eq_true rfl) ?_
    )
  refine op_callN k2 (.cons .ro .nil) (tl hn rfl) fun C2 u2 b2 nx2 gh2 nd2 new2 => ?_
  obtain ⟨A2, n2, c2, rfl⟩ := row_slice gh2.rel
  have hn := nx2.n.trans hn
  repeat' (first
 | refine RunsL.step tabOk hn rfl ?_
 | refine RunsL.nil ?_
 | refine Runs.toRegion 30 rfl ?_
 | (refine Runs.ctls 30 rfl ?_; first | ((first | refine Runs.cond_yes rfl ?_ ?_ | refine Runs.cond_nno rfl ?_ ?_); · first | omega | rfl | assumption | (simp only [List.length_map]; omega)) | ((first | refine Runs.cond_no rfl ?_ ?_ | refine Runs.cond_nyes rfl ?_ ?_); · first | omega | rfl | assumption | (simp only [List.length_map]; omega)) | refine Runs.ret (ends_ro hm rfl rfl ?_) | exact Runs.ret (ends_cellR hm rfl rfl rfl (Nat.le_of_ble_eq_true rfl) rfl rfl))
 | refine op_box rfl (tl hn rfl) ?_
 | refine op_storeF rfl rfl rfl rfl (Nat.le_of_ble_eq_true rfl) ?_
 | refine op_alloc (tl hn rfl) ?_
 | refine op_storeN rfl rfl rfl rfl (Nat.le_of_ble_eq_true rfl) ?_
    )
  have g1 := gh1.next nx2 (by simp)
  have s1 := (Sc.start hm).next nx1 (by simp)
  have s2 := s1.next nx2 (by simp)
  have z1 := nx1.size
  have z2 := nx2.size
  refine Runs.ctls 30 rfl (Runs.ret (endsO_cell (us := [.int .i64 v.number, .slice A1 n1 c1, .slice A2 n2 c2]) (ovs := treOs v) (bs := b1 ++ b2) s2 rfl rfl rfl rfl rfl (tre_shut g1.rel gh2.rel) (fun b hb => ?_) ?_ fun b hb => ?_))
  · rcases List.mem_append.1 hb with hb | hb
    · exact ⟨(g1.fix b hb).1, (g1.fix b hb).2.1⟩
    · exact ⟨(gh2.fix b hb).1, (gh2.fix b hb).2.1⟩
  · exact nodup_two C1.w0.heap.size nd1 nd2 (fun x hx => (gh1.fix x hx).1) new2
  · rcases List.mem_append.1 hb with hb | hb
    · exact new1 b hb
    · have := new2 b hb; omega
end Go.Proofs.Ytnecoghfhcimeaa
/- Regions that draw their order, whose operations ahead of some place leave the world alone, and whose rest stands in the text's order: walked as the text says. Over any program. -/
namespace Go.Proofs.Ytnecoghfhcimeaa
set_option linter.unusedSimpArgs false
set_option linter.unusedVariables false
open Go.RowKit
open AV (Mem Keeps)
def Kp {α : Type} (s : Sem α) : Prop := ∀ (P : Program) (w : World) (x : α) (w' : World), s.run P w = .ok x w' → w' = w
theorem Kp.pure {α : Type} (a : α) : Kp (Pure.pure a : Sem α) := fun P w x w' h => by
  rw [Sem.run_pure] at h; injection h with _ h; exact h.symm
theorem Kp.bind {α β : Type} {s : Sem α} {f : α → Sem β} (h : Kp s) (hf : ∀ a, Kp (f a)) : Kp (s >>= f) := fun P w x w' e => by
  rw [Sem.run_bind] at e
  cases hs : s.run P w with
  | ok a w1 =>
    rw [hs] at e
    simp only [Result.andThen_ok] at e
    have h1 := h P w a w1 hs
    subst h1
    exact hf a P w1 x w' e
  | halt q w1 => rw [hs] at e; cases e
theorem Kp.stuck {α : Type} (s : String) : Kp (stuck s : Sem α) := fun P w x w' h => by cases h
theorem Kp.unsup {α : Type} (s : Unsupported) : Kp (unsupported s : Sem α) := fun P w x w' h => by cases h
theorem Kp.program : Kp program := fun P w x w' h => by rw [run_program] at h; injection h with _ h; exact h.symm
theorem Kp.load (a : Addr) (m : Mode) : Kp (load a m) := fun P w x w' h => by
  unfold Go.load Sem.run at h
  split at h
  · injection h with _ h; exact h.symm
  · split at h
    · injection h with _ h; exact h.symm
    · cases h
theorem Kp.typeInfo (t : TypeId) : Kp (typeInfo t) := Kp.bind Kp.program fun p => by
  split
  · exact Kp.pure _
  · exact Kp.stuck _
theorem Kp.underlying (t : TypeId) : Kp (underlying t) := Kp.bind Kp.program fun p => by
  split
  · exact Kp.pure _
  · exact Kp.stuck _
theorem Kp.sizeOf (t : TypeId) : Kp (sizeOf t) := Kp.bind (Kp.typeInfo t) fun _ => Kp.pure _
theorem Kp.isAgg (t : TypeId) : Kp (isAgg t) := Kp.bind (Kp.underlying t) fun _ => by
  split <;> exact Kp.pure _
theorem Kp.sureAddr (x : Value) : Kp (Instr.sureAddr x) := by
  unfold Instr.sureAddr
  split
  · exact Kp.pure _
  · exact Kp.stuck _
theorem Kp.loadCells (a : Addr) : ∀ (n i : Nat) (acc : Array Value), Kp (loadCellsFrom a i n acc)
  | 0, i, acc => Kp.pure _
  | n + 1, i, acc => Kp.bind (Kp.load _ _) fun v => Kp.loadCells a n (i + 1) _
theorem Kp.loadAt (t : TypeId) (x : Value) : Kp (Instr.loadAt t x) := Kp.bind (Kp.sureAddr x) fun a => Kp.bind (Kp.isAgg t) fun b => by
  split
  · exact Kp.bind (Kp.sizeOf t) fun n => Kp.bind (Kp.loadCells a n 0 _) fun _ => Kp.pure _
  · exact Kp.load _ _
def No {α : Type} (s : Sem α) : Prop := ∀ (P : Program) (w : World) (x : α) (w' : World), s.run P w ≠ .ok x w'
theorem No.kp {α : Type} {s : Sem α} (h : No s) : Kp s := fun P w x w' e => absurd e (h P w x w')
theorem No.bind {α β : Type} {s : Sem α} {f : α → Sem β} (hf : ∀ a, No (f a)) : No (s >>= f) := fun P w x w' e => by
  rw [Sem.run_bind] at e
  cases hs : s.run P w with
  | ok a w1 =>
    rw [hs] at e
    simp only [Result.andThen_ok] at e
    exact hf a P w1 x w' e
  | halt q w1 => rw [hs] at e; cases e
theorem No.nil {α : Type} : No (runtimePanic .nilDeref : Sem α) := No.bind fun p P w x w' h => by cases h
theorem No.bounds {α : Type} (k : IntKind) (x y : Int) (c : BoundsCode) : No (boundsPanic k x y c : Sem α) := by
  have key : ∀ b, No (runtimePanic (.bounds (IntKind.i64.wrap x) y b c) : Sem α) := fun b => by
    unfold runtimePanic
    refine No.bind fun p => ?_
    intro P w x w' h
    simp only [goPanic, Sem.run_halt] at h
    cases h
  unfold boundsPanic
  dsimp only
  split
  · exact No.bind fun b => key _
  · exact No.bind fun b => key _
theorem Kp.asIntOf (v : Value) : Kp (asIntOf v) := by
  unfold Go.asIntOf
  split
  · exact Kp.pure _
  · exact Kp.unsup _
  · exact Kp.stuck _
theorem Kp.bound (x : Value) (y : Nat) (c : BoundsCode) : Kp (Instr.sliceBound x y c) := Kp.bind (Kp.asIntOf x) fun ⟨k, i⟩ => by
  simp only
  split
  · exact Kp.pure _
  · exact (No.bounds _ _ _ _).kp
theorem Kp.bounds (b : Bool) (l c : Nat) (lo hi mx : Option Value) : Kp (Instr.sliceBounds b l c lo hi mx) := by
  unfold Instr.sliceBounds
  dsimp only
  have k3 : ∀ (m h : Nat), Kp (match lo with | some v => (do let l ← Instr.sliceBound v h (if mx.isSome = true then BoundsCode.slice3C else BoundsCode.sliceB); Pure.pure (l, h, m) : Sem (Nat × Nat × Nat)) | none => (do let l ← Pure.pure 0; Pure.pure (l, h, m))) := fun m h => by
    split
    · exact Kp.bind (Kp.bound _ _ _) fun _ => Kp.pure _
    · exact Kp.bind (Kp.pure _) fun _ => Kp.pure _
  split
  · refine Kp.bind (Kp.bound _ _ _) fun m => ?_
    split
    · exact Kp.bind (Kp.bound _ _ _) fun h => k3 _ _
    · exact Kp.bind (Kp.bound _ _ _) fun h => k3 _ _
    · exact Kp.bind (Kp.pure _) fun h => k3 _ _
    · exact Kp.bind (Kp.stuck _) fun h => k3 _ _
  · refine Kp.bind (Kp.pure _) fun m => ?_
    split
    · exact Kp.bind (Kp.bound _ _ _) fun h => k3 _ _
    · exact Kp.bind (Kp.bound _ _ _) fun h => k3 _ _
    · exact Kp.bind (Kp.pure _) fun h => k3 _ _
    · exact Kp.bind (Kp.stuck _) fun h => k3 _ _
theorem Kp.asAddr (x : Value) : Kp (asAddr x) := by
  unfold Go.asAddr
  split
  · exact Kp.pure _
  · exact No.nil.kp
  · exact Kp.stuck _
theorem Kp.slice (t : TypeId) (x : Value) (lo hi mx : Option Value) : Kp (Instr.slice t x lo hi mx) := by
  unfold Instr.slice
  refine Kp.bind (Kp.underlying t) fun u => ?_
  split
  · split
    · exact Kp.bind (Kp.stuck _) fun _ => Kp.bind (Kp.bounds _ _ _ _ _ _) fun ⟨_, _, _⟩ => Kp.pure _
    · exact Kp.bind (Kp.bounds _ _ _ _ _ _) fun ⟨_, _, _⟩ => Kp.pure _
  · exact Kp.bind (Kp.bounds _ _ _ _ _ _) fun ⟨_, _, _⟩ => Kp.bind (Kp.sizeOf _) fun _ => Kp.pure _
  · refine Kp.bind (Kp.asAddr _) fun a => Kp.bind (Kp.underlying _) fun d => ?_
    split
    · exact Kp.bind (Kp.bounds _ _ _ _ _ _) fun ⟨_, _, _⟩ => Kp.bind (Kp.sizeOf _) fun _ => Kp.pure _
    · exact Kp.stuck _
  · exact Kp.stuck _
theorem Kp.getShape (r : Nat) : Kp (shape r) := fun P w x w' h => by
  simp only [shape, Sem.run] at h
  injection h with _ h; exact h.symm
theorem Kp.getObj (r : Nat) : Kp (getObj r) := fun P w x w' h => by
  unfold Go.getObj Sem.run at h
  split at h
  · cases h
  · simp only [Sem.run] at h; injection h with _ h; exact h.symm
  · cases h
theorem Kp.noView (a : Addr) : Kp (noView a) := by
  unfold Go.noView viewAt
  refine Kp.bind (Kp.bind (Kp.getShape _) fun sh => ?_) fun o => ?_
  · split
    · exact Kp.pure _
    · refine Kp.bind (Kp.getObj _) fun o => ?_
      split <;> exact Kp.pure _
  · split
    · exact Kp.unsup _
    · exact Kp.pure _
theorem Kp.byteOf (a : Addr) : Kp (byteOf a) := by
  unfold Go.byteOf
  dsimp only
  split
  · exact Kp.pure _
  · refine Kp.bind Kp.program fun p => Kp.bind (Kp.noView a) fun _ => Kp.bind (Kp.getShape _) fun sh => ?_
    split
    · split
      · exact Kp.pure _
      · split
        · exact Kp.pure _
        · exact Kp.stuck _
    · exact Kp.stuck _
theorem Kp.place (a : Addr) (f : Field) : Kp (fieldPlace a f) := by
  unfold fieldPlace
  refine Kp.bind (Kp.sizeOf _) fun n => ?_
  split
  · exact Kp.bind (Kp.byteOf _) fun _ => Kp.bind (Kp.byteOf _) fun _ => Kp.pure _
  · exact Kp.pure _
theorem Kp.fieldAt (s : TypeId) (x : Value) (f : Nat) : Kp (Instr.fieldAt s x f) := by
  unfold Instr.fieldAt
  refine Kp.bind (Kp.underlying s) fun u => ?_
  split
  · split
    · exact Kp.bind (Kp.sureAddr x) fun a => Kp.bind (Kp.place a _) fun _ => Kp.pure _
    · exact Kp.stuck _
  · exact Kp.stuck _
structure KpV (s : Sem Next) : Prop where
  keep : Kp s
  val : ∀ (P : Program) (w : World) (x : Next) (w' : World), s.run P w = .ok x w' → ∃ v, x = .value v
theorem KpV.bind {α : Type} {s : Sem α} {f : α → Sem Next} (h : Kp s) (hf : ∀ a, KpV (f a)) : KpV (s >>= f) := ⟨Kp.bind h fun a => (hf a).keep, fun P w x w' e => by
  rw [Sem.run_bind] at e
  cases hs : s.run P w with
  | ok a w1 => rw [hs] at e; simp only [Result.andThen_ok] at e; exact (hf a).val P w1 x w' e
  | halt q w1 => rw [hs] at e; cases e⟩
theorem KpV.pure (v : Value) : KpV (Pure.pure (.value v) : Sem Next) := ⟨Kp.pure _, fun P w x w' e => by rw [Sem.run_pure] at e; injection e with e; exact ⟨v, e.symm⟩⟩
theorem KpV.of {s : Sem Value} (h : Kp s) : KpV (do Pure.pure (.value (← s)) : Sem Next) := KpV.bind h fun v => KpV.pure v
theorem KpV.no {s : Sem Next} (h : No s) : KpV s := ⟨h.kp, fun P w x w' e => absurd e (h P w x w')⟩
theorem KpV.unsup (u : Unsupported) : KpV (unsupported u : Sem Next) := KpV.no fun P w x w' h => by cases h
section
variable {P : Program} {C : Ctx} {k : List Item} {R : Act → World → Prop} {env : Env} {σ : List Ob}
end
end Go.Proofs.Ytnecoghfhcimeaa
/- Regions that draw their order, without calls: walked once for each order. Over any program. -/
namespace Go.Proofs.Ytnecoghfhcimeaa
set_option linter.unusedSimpArgs false
set_option linter.unusedVariables false
open Go.RowKit
open AV (Mem Keeps)
structure Nv (s : Sem Next) : Prop where
  val : ∀ (P : Program) (w : World) (x : Next) (w' : World), s.run P w = .ok x w' → (∃ v, x = .value v) ∨ x = .skip
theorem Nv.of {s : Sem Value} : Nv (do Pure.pure (.value (← s)) : Sem Next) := ⟨fun P w x w' e => by
  rw [Sem.run_bind] at e
  cases hs : s.run P w with
  | ok a w1 => rw [hs] at e; simp only [Result.andThen_ok, Sem.run_pure] at e; injection e with e; exact .inl ⟨a, e.symm⟩
  | halt q w1 => rw [hs] at e; cases e⟩
def sel (l : List Oper) : List Nat → List Oper
  | [] => []
  | i :: is => match l[i]? with
    | some o => o :: sel l is
    | none => sel l is
section
variable {P : Program} {C : Ctx} {k : List Item} {R : Act → World → Prop} {env : Env} {σ : List Ob}
def AllOrd (P : Program) (C : Ctx) (l : List Oper) (k : List Item) (R : Act → World → Prop) (S : St) : List (List Nat) → Prop
  | [] => True
  | π :: L => RunsL P C l.toArray (sel l π) k R S ∧ AllOrd P C l k R S L
theorem AllOrd.at_ {l : List Oper} {S : St} : ∀ {L : List (List Nat)}, AllOrd P C l k R S L → ∀ π ∈ L, RunsL P C l.toArray (sel l π) k R S
  | [], _, π, h => by simp at h
  | ρ :: L, hL, π, h => by
    rcases List.mem_cons.1 h with rfl | h
    · exact hL.1
    · exact AllOrd.at_ hL.2 π h
end
end Go.Proofs.Ytnecoghfhcimeaa
/- Functions that are handed objects of their caller's and write into them. Over any program. -/
namespace Go.Proofs.Ytnecoghfhcimeaa
set_option linter.unusedSimpArgs false
set_option linter.unusedVariables false
open Go.RowKit
open AV (Mem Keeps)
theorem good_junk {C : Ctx} {w : World} {φ : Nat → Option Nat} {σ : List Ob} (hG : Good C ⟨w, φ, σ, C.ok⟩) {j p : Nat} {o : Ob} (ho : σ[j]? = some o) :
    Good C ⟨w, φ, σ.set j ⟨o.t, o.sz, o.cs.set p .junk⟩, C.ok⟩ ∧ Keeps (fun _ => True) ⟨w, φ, σ, C.ok⟩ ⟨w, φ, σ.set j ⟨o.t, o.sz, o.cs.set p .junk⟩, C.ok⟩ := by
  have hj := (List.getElem?_eq_some_iff.1 ho).1
  have hK : Keeps (fun _ => True) ⟨w, φ, σ, C.ok⟩ ⟨w, φ, σ.set j ⟨o.t, o.sz, o.cs.set p .junk⟩, C.ok⟩ := by
    refine ⟨⟨Nat.le_refl _, fun b _ hb => ⟨⟨hb.1, fun i hi => hb.2 i (by simpa using hi)⟩, rfl⟩⟩, fun i _ hi => ⟨by simpa using hi, rfl⟩, fun i ob _ hi => ?_, fun i g us t _ _ _ hh => ⟨us, hh, rfl⟩⟩
    by_cases e : i = j
    · subst e
      have : ob = o := Option.some.inj (hi.symm.trans ho)
      subst this
      exact ⟨ob.cs.set p .junk, by simp [hj], by simp⟩
    · exact ⟨ob.cs, by simp only [List.getElem?_set_ne (Ne.symm e)]; exact hi, rfl⟩
  refine ⟨⟨rfl, fun a b g ha hb => hG.inj a b g (by simpa using ha) (by simpa using hb), fun i ob hi => ?_, fun i g hi => hG.mine i g (by simpa using hi), hG.frm⟩, hK⟩
  by_cases e : i = j
  · subst e
    simp only [List.getElem?_set_self hj, Option.some.injEq] at hi
    subst hi
    have h := hG.ob i o ho
    show ObRel _ _ (φ i)
    simp only at h
    cases hφ : φ i with
    | none =>
      rw [hφ] at h
      simp only [ObRel] at h ⊢
      simp [h]
    | some g =>
      rw [hφ] at h
      obtain ⟨us, h1, h2, h3⟩ := h
      refine ⟨us, h1, by simpa using h2, fun k v hk => ?_⟩
      simp only [List.getElem?_set] at hk
      split at hk
      · rename_i hpk
        subst hpk
        split at hk
        · rename_i hlt
          injection hk with hk; subst hk
          obtain ⟨u, e1, e2, _⟩ := h3 p _ (List.getElem?_eq_getElem hlt)
          exact ⟨u, e1, e2, by simp [AV.rel]⟩
        · cases hk
      · obtain ⟨u, e1, e2, e3⟩ := h3 k v hk
        exact ⟨u, e1, e2, AV.rel_keeps hK _ _ (AV.only_true _) e3⟩
  · rw [List.getElem?_set_ne (Ne.symm e)] at hi
    exact (hG.ob i ob hi).keeps hK fun _ _ => rfl
section
variable {P : Program} {C : Ctx} {ops : Array Oper} {rest : List Oper} {k : List Item} {R : Act → World → Prop} {env : Env} {σ : List Ob} {t : Nat} {ty : TypeId} {pos : String} {after : Array Edge}
theorem RunsL.junk {l : List Oper} (j p : Nat) {o : Ob} (ho : σ[j]? = some o) (hk : RunsL P C ops l k R ⟨env, σ.set j ⟨o.t, o.sz, o.cs.set p .junk⟩⟩) : RunsL P C ops l k R ⟨env, σ⟩ :=
  ⟨fun a w ⟨h1, h2, φ, h3, h4⟩ => by
    obtain ⟨g1, g2⟩ := good_junk (p := p) h3 ho
    exact hk.run a w ⟨h1, h2, φ, g1, h4.keeps g2⟩⟩
end
section
variable {P : Program} {C : Ctx} {fn : Func} {S : St} {gs : Nat → Nat} {st : List Nat} {σ' : List Ob} {v : AV}
end
mutual
def AV.ren (r : Nat → Nat) : AV → AV
  | .ro v => .ro v
  | .junk => .junk
  | .obj i off => .obj (r i) off
  | .pin i off g => .pin (r i) off g
  | .own i => .own (r i)
  | .agg cs => .agg (AV.rens r cs)
  | .tup vs => .tup (AV.rens r vs)
  | .fn f a b => .fn f (AV.rens r a) (AV.rens r b)
def AV.rens (r : Nat → Nat) : List AV → List AV
  | [] => []
  | x :: xs => AV.ren r x :: AV.rens r xs
end
def Ob.ren (r : Nat → Nat) (o : Ob) : Ob := ⟨o.t, o.sz, AV.rens r o.cs⟩
mutual
def AV.rid (lent st : Nat → Bool) : AV → AV
  | .ro v => .ro v
  | .junk => .junk
  | .obj i off => match lent i, st i with
    | true, false => .junk
    | _, _ => .obj i off
  | .pin i off g => match lent i, st i with
    | true, false => .junk
    | _, _ => .pin i off g
  | .own i => match lent i with
    | true => .junk
    | false => .own i
  | .agg cs => .agg (AV.rids lent st cs)
  | .tup vs => .tup (AV.rids lent st vs)
  | .fn f a b => .fn f (AV.rids lent st a) (AV.rids lent st b)
def AV.rids (lent st : Nat → Bool) : List AV → List AV
  | [] => []
  | x :: xs => AV.rid lent st x :: AV.rids lent st xs
end
section
variable {m m' : Mem} {r : Nat → Nat} {lent st : Nat → Bool}
mutual
theorem rel_unren {n : Nat} (hw : m'.w = m.w) (hok : ∀ b, m.ok b → m'.ok b) (hφ : ∀ i, i < n → m'.φ i = m.φ (r i)) (hn : m'.σ.length = n) (hσ : ∀ (i : Nat) o, i < n → m.σ[r i]? = some o → ∃ cs, m'.σ[i]? = some ⟨o.t, o.sz, cs⟩ ∧ cs.length = o.cs.length) :
    ∀ (v : AV) (u : Value), v.only (fun i => i < n) → AV.rel m (v.ren r) u → AV.rel m' v u
  | .ro v, u, _, h => by
    simp only [AV.ren, AV.rel] at h ⊢
    exact RV.rel_mono ⟨by rw [hw]; exact Nat.le_refl _, fun b _ hb => ⟨hok b hb, by rw [hw]⟩⟩ v u h
  | .junk, u, _, _ => by simp [AV.rel]
  | .obj i off, u, ho, h => by
    simp only [AV.ren, AV.rel, AV.only] at h ho ⊢
    obtain ⟨_, g, h2, h3⟩ := h
    exact ⟨by omega, g, (hφ i ho).trans h2, h3⟩
  | .pin i off g, u, ho, h => by
    simp only [AV.ren, AV.rel, AV.only] at h ho ⊢
    obtain ⟨_, h2, h3⟩ := h
    exact ⟨by omega, (hφ i ho).trans h2, h3⟩
  | .own i, u, ho, h => by
    simp only [AV.ren, AV.rel, AV.only] at h ho ⊢
    obtain ⟨ob, k, h1, h2, h3, h4⟩ := h
    obtain ⟨cs, e1, e2⟩ := hσ i ob ho h1
    refine ⟨_, k, e1, by simp only; rw [e2]; exact h2, h3, ?_⟩
    rcases h4 with ⟨q1, q2, q3⟩ | ⟨g, cap, us, q1, q2, q3, q4⟩
    · exact .inl ⟨q1, q2, (hφ i ho).trans q3⟩
    · exact .inr ⟨g, cap, us, (hφ i ho).trans q1, q2, by rw [hw]; exact q3, q4⟩
  | .agg cs, u, ho, h => by
    simp only [AV.ren, AV.rel, AV.only] at h ho ⊢
    obtain ⟨us, e, h1⟩ := h
    exact ⟨us, e, rels_unren hw hok hφ hn hσ cs _ ho h1⟩
  | .tup cs, u, ho, h => by
    simp only [AV.ren, AV.rel, AV.only] at h ho ⊢
    obtain ⟨us, e, h1⟩ := h
    exact ⟨us, e, rels_unren hw hok hφ hn hσ cs _ ho h1⟩
  | .fn f a b, u, ho, h => by
    simp only [AV.ren, AV.rel, AV.only] at h ho ⊢
    obtain ⟨us, vs, e, h1, h2⟩ := h
    exact ⟨us, vs, e, rels_unren hw hok hφ hn hσ a _ ho.1 h1, rels_unren hw hok hφ hn hσ b _ ho.2 h2⟩
theorem rels_unren {n : Nat} (hw : m'.w = m.w) (hok : ∀ b, m.ok b → m'.ok b) (hφ : ∀ i, i < n → m'.φ i = m.φ (r i)) (hn : m'.σ.length = n) (hσ : ∀ (i : Nat) o, i < n → m.σ[r i]? = some o → ∃ cs, m'.σ[i]? = some ⟨o.t, o.sz, cs⟩ ∧ cs.length = o.cs.length) :
    ∀ (vs : List AV) (us : List Value), AV.onlys (fun i => i < n) vs → AV.rels m (AV.rens r vs) us → AV.rels m' vs us
  | [], us, _, h => by simpa [AV.rens, AV.rels] using h
  | x :: xs, us, ho, h => by
    simp only [AV.rens, AV.rels, AV.onlys] at h ho ⊢
    obtain ⟨u, us', e, h1, h2⟩ := h
    exact ⟨u, us', e, rel_unren hw hok hφ hn hσ x u ho.1 h1, rels_unren hw hok hφ hn hσ xs us' ho.2 h2⟩
end
mutual
theorem rel_ren {n : Nat} (hw : m'.w = m.w) (hok : ∀ b, m.ok b → m'.ok b) (hφ : ∀ i, i < n → m'.φ (r i) = m.φ i) (hr : ∀ i, i < n → r i < m'.σ.length) (hn : m.σ.length = n) (hσ : ∀ (i : Nat) o, m.σ[i]? = some o → ∃ cs, m'.σ[r i]? = some ⟨o.t, o.sz, cs⟩ ∧ cs.length = o.cs.length) :
    ∀ (v : AV) (u : Value), AV.rel m v u → AV.rel m' (v.ren r) u
  | .ro v, u, h => by
    simp only [AV.ren, AV.rel] at h ⊢
    exact RV.rel_mono ⟨by rw [hw]; exact Nat.le_refl _, fun b _ hb => ⟨hok b hb, by rw [hw]⟩⟩ v u h
  | .junk, u, _ => by simp [AV.rel, AV.ren]
  | .obj i off, u, h => by
    simp only [AV.ren, AV.rel] at h ⊢
    obtain ⟨h1, g, h2, h3⟩ := h
    exact ⟨hr i (by omega), g, (hφ i (by omega)).trans h2, h3⟩
  | .pin i off g, u, h => by
    simp only [AV.ren, AV.rel] at h ⊢
    obtain ⟨h1, h2, h3⟩ := h
    exact ⟨hr i (by omega), (hφ i (by omega)).trans h2, h3⟩
  | .own i, u, h => by
    simp only [AV.ren, AV.rel] at h ⊢
    obtain ⟨ob, k, h1, h2, h3, h4⟩ := h
    obtain ⟨cs, e1, e2⟩ := hσ i ob h1
    have hi : i < n := by have := (List.getElem?_eq_some_iff.1 h1).1; omega
    refine ⟨_, k, e1, by simp only; rw [e2]; exact h2, h3, ?_⟩
    rcases h4 with ⟨q1, q2, q3⟩ | ⟨g, cap, us, q1, q2, q3, q4⟩
    · exact .inl ⟨q1, q2, (hφ i hi).trans q3⟩
    · exact .inr ⟨g, cap, us, (hφ i hi).trans q1, q2, by rw [hw]; exact q3, q4⟩
  | .agg cs, u, h => by
    simp only [AV.ren, AV.rel] at h ⊢
    obtain ⟨us, e, h1⟩ := h
    exact ⟨us, e, rels_ren hw hok hφ hr hn hσ cs _ h1⟩
  | .tup cs, u, h => by
    simp only [AV.ren, AV.rel] at h ⊢
    obtain ⟨us, e, h1⟩ := h
    exact ⟨us, e, rels_ren hw hok hφ hr hn hσ cs _ h1⟩
  | .fn f a b, u, h => by
    simp only [AV.ren, AV.rel] at h ⊢
    obtain ⟨us, vs, e, h1, h2⟩ := h
    exact ⟨us, vs, e, rels_ren hw hok hφ hr hn hσ a _ h1, rels_ren hw hok hφ hr hn hσ b _ h2⟩
theorem rels_ren {n : Nat} (hw : m'.w = m.w) (hok : ∀ b, m.ok b → m'.ok b) (hφ : ∀ i, i < n → m'.φ (r i) = m.φ i) (hr : ∀ i, i < n → r i < m'.σ.length) (hn : m.σ.length = n) (hσ : ∀ (i : Nat) o, m.σ[i]? = some o → ∃ cs, m'.σ[r i]? = some ⟨o.t, o.sz, cs⟩ ∧ cs.length = o.cs.length) :
    ∀ (vs : List AV) (us : List Value), AV.rels m vs us → AV.rels m' (AV.rens r vs) us
  | [], us, h => by simpa [AV.rens, AV.rels] using h
  | x :: xs, us, h => by
    simp only [AV.rens, AV.rels] at h ⊢
    obtain ⟨u, us', e, h1, h2⟩ := h
    exact ⟨u, us', e, rel_ren hw hok hφ hr hn hσ x u h1, rels_ren hw hok hφ hr hn hσ xs us' h2⟩
end
mutual
theorem rel_rid (hro : RV.Kept m.w m.ok m'.w m'.ok) (hlen : m'.σ.length = m.σ.length) (hφ : ∀ i, i < m.σ.length → lent i = false ∨ st i = true → m'.φ i = m.φ i) (hσ : ∀ i, lent i = false → m'.σ[i]? = m.σ[i]?) (hb : ∀ i g, i < m.σ.length → lent i = false → m.φ i = some g → m'.w.heap[g]? = m.w.heap[g]?) :
    ∀ (v : AV) (u : Value), AV.rel m v u → AV.rel m' (v.rid lent st) u
  | .ro v, u, h => by
    simp only [AV.rid, AV.rel] at h ⊢
    exact RV.rel_mono hro v u h
  | .junk, u, _ => by simp [AV.rel, AV.rid]
  | .obj i off, u, h => by
    have key : lent i = false ∨ st i = true → AV.rel m' (.obj i off) u := fun hk => by
      simp only [AV.rel] at h ⊢
      obtain ⟨h1, g, h2, h3⟩ := h
      exact ⟨by omega, g, (hφ i h1 hk).trans h2, h3⟩
    unfold AV.rid
    cases h1 : lent i <;> cases h2 : st i <;> first | exact key (.inl h1) | exact key (.inr h2) | simp [AV.rel]
  | .pin i off g, u, h => by
    have key : lent i = false ∨ st i = true → AV.rel m' (.pin i off g) u := fun hk => by
      simp only [AV.rel] at h ⊢
      obtain ⟨h1, h2, h3⟩ := h
      exact ⟨by omega, (hφ i h1 hk).trans h2, h3⟩
    unfold AV.rid
    cases h1 : lent i <;> cases h2 : st i <;> first | exact key (.inl h1) | exact key (.inr h2) | simp [AV.rel]
  | .own i, u, h => by
    have key : lent i = false → AV.rel m' (.own i) u := fun hk => by
      simp only [AV.rel] at h ⊢
      obtain ⟨ob, k, h1, h2, h3, h4⟩ := h
      have hi := (List.getElem?_eq_some_iff.1 h1).1
      refine ⟨ob, k, (hσ i hk).trans h1, h2, h3, ?_⟩
      rcases h4 with ⟨q1, q2, q3⟩ | ⟨g, cap, us, q1, q2, q3, q4⟩
      · exact .inl ⟨q1, q2, (hφ i hi (.inl hk)).trans q3⟩
      · exact .inr ⟨g, cap, us, (hφ i hi (.inl hk)).trans q1, q2, (hb i g hi hk q1).trans q3, q4⟩
    unfold AV.rid
    cases h1 : lent i <;> first | exact key h1 | simp [AV.rel]
  | .agg cs, u, h => by
    simp only [AV.rid, AV.rel] at h ⊢
    obtain ⟨us, e, h1⟩ := h
    exact ⟨us, e, rels_rid hro hlen hφ hσ hb cs _ h1⟩
  | .tup cs, u, h => by
    simp only [AV.rid, AV.rel] at h ⊢
    obtain ⟨us, e, h1⟩ := h
    exact ⟨us, e, rels_rid hro hlen hφ hσ hb cs _ h1⟩
  | .fn f a b, u, h => by
    simp only [AV.rid, AV.rel] at h ⊢
    obtain ⟨us, vs, e, h1, h2⟩ := h
    exact ⟨us, vs, e, rels_rid hro hlen hφ hσ hb a _ h1, rels_rid hro hlen hφ hσ hb b _ h2⟩
theorem rels_rid (hro : RV.Kept m.w m.ok m'.w m'.ok) (hlen : m'.σ.length = m.σ.length) (hφ : ∀ i, i < m.σ.length → lent i = false ∨ st i = true → m'.φ i = m.φ i) (hσ : ∀ i, lent i = false → m'.σ[i]? = m.σ[i]?) (hb : ∀ i g, i < m.σ.length → lent i = false → m.φ i = some g → m'.w.heap[g]? = m.w.heap[g]?) :
    ∀ (vs : List AV) (us : List Value), AV.rels m vs us → AV.rels m' (AV.rids lent st vs) us
  | [], us, h => by simpa [AV.rids, AV.rels] using h
  | x :: xs, us, h => by
    simp only [AV.rids, AV.rels] at h ⊢
    obtain ⟨u, us', e, h1, h2⟩ := h
    exact ⟨u, us', e, rel_rid hro hlen hφ hσ hb x u h1, rels_rid hro hlen hφ hσ hb xs us' h2⟩
end
end
def rof (ι : List Nat) (i : Nat) : Nat := (ι[i]?).getD 0
def lentB (ι : List Nat) (i : Nat) : Bool := ι.any fun j => Nat.beq j i
def stB' (ι st : List Nat) (i : Nat) : Bool := st.any fun j => Nat.beq (rof ι j) i
def LentAt (ι : List Nat) (σ : List Ob) : List Ob → Nat → Prop
  | [], _ => True
  | o :: os, j => σ[rof ι j]? = some (o.ren (rof ι)) ∧ LentAt ι σ os (j + 1)
theorem LentAt.at_ {ι : List Nat} {σ : List Ob} : ∀ {os : List Ob} {j : Nat}, LentAt ι σ os j → ∀ (k : Nat) o, os[k]? = some o → σ[rof ι (j + k)]? = some (o.ren (rof ι))
  | [], j, _, k, o, h => by simp at h
  | x :: os, j, hl, k, o, h => by
    simp only [LentAt] at hl
    cases k with
    | zero => simp at h; subst h; exact hl.1
    | succ k =>
      simp at h
      have := LentAt.at_ hl.2 k o h
      rwa [show j + 1 + k = j + (k + 1) by omega] at this
def FreeR (ι st : List Nat) : Nat → List Ob → Prop
  | _, [] => True
  | i, o :: os => (lentB ι i = true ∨ AV.rids (lentB ι) (stB' ι st) o.cs = o.cs) ∧ FreeR ι st (i + 1) os
theorem FreeR.at_ {ι st : List Nat} : ∀ {os : List Ob} {i : Nat}, FreeR ι st i os → ∀ (k : Nat) o, os[k]? = some o → lentB ι (i + k) = true ∨ AV.rids (lentB ι) (stB' ι st) o.cs = o.cs
  | [], i, _, k, o, h => by simp at h
  | x :: os, i, hl, k, o, h => by
    simp only [FreeR] at hl
    cases k with
    | zero => simp at h; subst h; exact hl.1
    | succ k =>
      simp at h
      have := FreeR.at_ hl.2 k o h
      rwa [show i + 1 + k = i + (k + 1) by omega] at this
structure Lent (ι st : List Nat) (σ σ0 σ1 : List Ob) : Prop where
  len : Nat.beq σ0.length ι.length = true
  len1 : Nat.beq σ1.length ι.length = true
  lt : (ι.all fun i => Nat.ble (i + 1) σ.length) = true
  inj : ι.Nodup
  at_ : LentAt ι σ σ0 0
  closed : FreeO σ0.length σ0
  stl : (st.all fun j => Nat.ble (j + 1) ι.length) = true
  free : FreeR ι st 0 σ
def unpin : AV → AV
  | .pin i off _ => .obj i off
  | v => v
theorem unpin_rel {m : Mem} {v : AV} {u : Value} (h : AV.rel m v u) : AV.rel m (unpin v) u := by
  cases v <;> simp only [unpin] <;> try exact h
  case pin i off g =>
    simp only [AV.rel] at h ⊢
    exact ⟨h.1, g, h.2.1, h.2.2⟩
section
variable {P : Program} {C : Ctx} {ops : Array Oper} {rest : List Oper} {k : List Item} {R : Act → World → Prop} {env : Env} {σ : List Ob} {t : Nat} {ty : TypeId} {pos : String} {after : Array Edge}
end
end Go.Proofs.Ytnecoghfhcimeaa
/- Functions that are handed the first objects of their caller's. Over any program. -/
namespace Go.Proofs.Ytnecoghfhcimeaa
set_option linter.unusedSimpArgs false
set_option linter.unusedVariables false
open Go.RowKit
open AV (Mem Keeps)
def ltB (n i : Nat) : Bool := Nat.ble (i + 1) n
def memB (st : List Nat) (i : Nat) : Bool := st.any fun j => Nat.beq j i
def FreeP (n : Nat) (st : List Nat) : List Ob → Prop
  | [] => True
  | o :: os => AV.rids (ltB n) (memB st) o.cs = o.cs ∧ FreeP n st os
mutual
theorem ren_id {r : Nat → Nat} {n : Nat} (hr : ∀ i, i < n → r i = i) : ∀ v : AV, v.only (fun i => i < n) → v.ren r = v
  | .ro _, _ | .junk, _ => rfl
  | .obj i off, h => by simp only [AV.only] at h; simp only [AV.ren, hr i h]
  | .pin i off g, h => by simp only [AV.only] at h; simp only [AV.ren, hr i h]
  | .own i, h => by simp only [AV.only] at h; simp only [AV.ren, hr i h]
  | .agg cs, h => by simp only [AV.only] at h; simp only [AV.ren, rens_id hr cs h]
  | .tup cs, h => by simp only [AV.only] at h; simp only [AV.ren, rens_id hr cs h]
  | .fn f a b, h => by simp only [AV.only] at h; simp only [AV.ren, rens_id hr a h.1, rens_id hr b h.2]
theorem rens_id {r : Nat → Nat} {n : Nat} (hr : ∀ i, i < n → r i = i) : ∀ vs : List AV, AV.onlys (fun i => i < n) vs → AV.rens r vs = vs
  | [], _ => rfl
  | x :: xs, h => by simp only [AV.onlys] at h; simp only [AV.rens, ren_id hr x h.1, rens_id hr xs h.2]
end
theorem FreeP.at_ {n : Nat} {st : List Nat} : ∀ {os : List Ob}, FreeP n st os → ∀ (k : Nat) o, os[k]? = some o → AV.rids (ltB n) (memB st) o.cs = o.cs
  | [], _, k, o, h => by simp at h
  | x :: os, hl, k, o, h => by
    simp only [FreeP] at hl
    cases k with
    | zero => simp at h; subst h; exact hl.1
    | succ k => simp at h; exact FreeP.at_ hl.2 k o h
section
variable {P : Program} {C : Ctx} {ops : Array Oper} {rest : List Oper} {k : List Item} {R : Act → World → Prop} {env : Env} {σ : List Ob} {t : Nat} {ty : TypeId} {pos : String} {after : Array Edge}
theorem Lends.pin {i off g : Nat} {o : Ob} {rs : List RV} (ho : σ[i]? = some o) (h : LendsL C σ (o.cs.drop off) rs) : Lends C σ (.pin i off g) (.rp rs) := fun m u ok' hG hσ k1 k2 hu => by
  refine Lends.obj ho h m u ok' hG hσ k1 k2 ?_
  exact unpin_rel (v := .pin i off g) hu
theorem sim_nilCell (i p : Nat) {o : Ob} {e : TypeId} {sz : Nat} (hs : 0 < sz) (ho : σ[i]? = some o) (h : o.cs[p]? = some .nil) {a : Act} {w : World} (hsim : Sim C ⟨env, σ⟩ a w) : Sim C ⟨env, σ.set i ⟨o.t, o.sz, o.cs.set p (.own σ.length)⟩ ++ [⟨e, sz, []⟩]⟩ a w := by
  obtain ⟨h1, h2, φ, hG, hH⟩ := hsim
  have hil := (List.getElem?_eq_some_iff.1 ho).1
  obtain ⟨g1, g2⟩ := good_grow (φ' := upd φ σ.length none) (new := [⟨e, sz, []⟩]) hG (Below.refl _ _) (fun i hi => upd_ne (show i ≠ σ.length from Nat.ne_of_lt hi)) (fun j hj g hg => by
      simp at hj; subst hj; simp [upd_eq] at hg) (fun i j g hi hj _ _ => by simp at hi hj; omega) (fun j o hj => by
      cases j with
      | zero => simp at hj; subst hj; simp [upd_eq, ObRel]
      | succ j => simp at hj)
  -- the cell is that row
  have hlen : (σ.set i ⟨o.t, o.sz, o.cs.set p (.own σ.length)⟩ ++ [(⟨e, sz, []⟩ : Ob)]).length = (σ ++ [(⟨e, sz, []⟩ : Ob)]).length := by simp
  have hat : ∀ j, j ≠ i → (σ.set i ⟨o.t, o.sz, o.cs.set p (.own σ.length)⟩ ++ [(⟨e, sz, []⟩ : Ob)])[j]? = (σ ++ [(⟨e, sz, []⟩ : Ob)])[j]? := fun j hj => by
    rcases Nat.lt_or_ge j σ.length with h | h
    · rw [List.getElem?_append_left (by simpa using h), List.getElem?_append_left h, List.getElem?_set_ne (Ne.symm hj)]
    · rw [List.getElem?_append_right (by simpa using h), List.getElem?_append_right h]; simp
  have hati : (σ.set i ⟨o.t, o.sz, o.cs.set p (.own σ.length)⟩ ++ [(⟨e, sz, []⟩ : Ob)])[i]? = some ⟨o.t, o.sz, o.cs.set p (.own σ.length)⟩ := by
    rw [List.getElem?_append_left (by simpa using hil), List.getElem?_set_self hil]
  have hati0 : (σ ++ [(⟨e, sz, []⟩ : Ob)])[i]? = some o := by rw [List.getElem?_append_left hil]; exact ho
  have hK : Keeps (fun _ => True) ⟨w, upd φ σ.length none, σ ++ [⟨e, sz, []⟩], C.ok⟩ ⟨w, upd φ σ.length none, σ.set i ⟨o.t, o.sz, o.cs.set p (.own σ.length)⟩ ++ [⟨e, sz, []⟩], C.ok⟩ := by
    refine ⟨⟨Nat.le_refl _, fun b _ hb => ⟨⟨hb.1, fun j hj => hb.2 j (by rw [← hlen]; exact hj)⟩, rfl⟩⟩, fun j _ hj => ⟨by rw [← hlen] at hj; exact hj, rfl⟩, fun j ob _ hj => ?_, fun j g us t _ _ _ hh => ⟨us, hh, rfl⟩⟩
    by_cases e : j = i
    · subst e
      simp only at hj
      rw [hati0] at hj; injection hj with hj; subst hj
      exact ⟨_, hati, by simp⟩
    · exact ⟨ob.cs, by simp only; rw [hat j e]; exact hj, rfl⟩
  refine ⟨h1, h2, upd φ σ.length none, ⟨rfl, fun a b g ha hb => g1.inj a b g (by rw [← hlen]; exact ha) (by rw [← hlen]; exact hb), fun j ob hj => ?_, fun j g hj => g1.mine j g (by rw [← hlen]; exact hj), g1.frm⟩, (hH.keeps g2).keeps hK⟩
  by_cases e' : j = i
  · subst e'
    simp only at hj
    rw [hati] at hj; injection hj with hj; subst hj
    have h0 := g1.ob j o hati0
    show ObRel _ _ (upd φ σ.length none j)
    simp only at h0
    cases hφ : upd φ σ.length none j with
    | none =>
      rw [hφ] at h0
      simp only [ObRel] at h0
      rw [h0] at h; simp at h
    | some g =>
      rw [hφ] at h0
      obtain ⟨us, q1, q2, q3⟩ := h0
      refine ⟨us, q1, by simpa using q2, fun m v hm => ?_⟩
      simp only [List.getElem?_set] at hm
      split at hm
      · rename_i hpm
        subst hpm
        split at hm
        · injection hm with hm; subst hm
          obtain ⟨u, k1, k2, k3⟩ := q3 p _ h
          simp only [AV.rel, RV.rel] at k3
          subst k3
          refine ⟨_, k1, rfl, ?_⟩
          simp only [AV.rel]
          exact ⟨⟨e, sz, []⟩, 0, by rw [List.getElem?_append_right (by simp)]; simp, by simp, hs, .inl ⟨by first | rfl | trivial, by first | rfl | trivial, upd_eq⟩⟩
        · cases hm
      · obtain ⟨u, k1, k2, k3⟩ := q3 m v hm
        exact ⟨u, k1, k2, AV.rel_keeps hK _ _ (AV.only_true _) k3⟩
  · simp only at hj
    rw [hat j e'] at hj
    exact (g1.ob j ob hj).keeps hK fun _ _ => rfl
theorem RunsL.nilCell {l : List Oper} (i p : Nat) {o : Ob} {e : TypeId} {sz : Nat} (hs : 0 < sz) (ho : σ[i]? = some o) (h : o.cs[p]? = some .nil) (hk : RunsL P C ops l k R ⟨env, σ.set i ⟨o.t, o.sz, o.cs.set p (.own σ.length)⟩ ++ [⟨e, sz, []⟩]⟩) : RunsL P C ops l k R ⟨env, σ⟩ :=
  ⟨fun a w hsim => hk.run a w (sim_nilCell i p hs ho h hsim)⟩
theorem Runs.nilCell (i p : Nat) {o : Ob} {e : TypeId} {sz : Nat} (hs : 0 < sz) (ho : σ[i]? = some o) (h : o.cs[p]? = some .nil) (hk : Runs P C k R ⟨env, σ.set i ⟨o.t, o.sz, o.cs.set p (.own σ.length)⟩ ++ [⟨e, sz, []⟩]⟩) : Runs P C k R ⟨env, σ⟩ :=
  ⟨fun a w hsim => hk.run a w (sim_nilCell i p hs ho h hsim)⟩
end
end Go.Proofs.Ytnecoghfhcimeaa
/- Regions that draw their order: walked as a tree, calls with results of their own among the operations. Over any program. -/
namespace Go.Proofs.Ytnecoghfhcimeaa
set_option linter.unusedSimpArgs false
set_option linter.unusedVariables false
open Go.RowKit
open AV (Mem Keeps)
section
variable {P : Program} {C C0 : Ctx} {l : List Oper} {k : List Item} {R : Act → World → Prop} {env : Env} {σ : List Ob} {f i t : Nat} {listed : Array Bool}
structure RunsA (P : Program) (C : Ctx) (l : List Oper) (k : List Item) (R : Act → World → Prop) (f : Nat) (listed : Array Bool) (S : St) : Prop where
  run : ∀ a w, Sim C S a w → wpAny P .any l.toArray (nrm (Fin P k R)) f listed a w
structure StepA (P : Program) (C : Ctx) (l : List Oper) (k : List Item) (R : Act → World → Prop) (f : Nat) (listed : Array Bool) (i : Nat) (o : Oper) (S : St) : Prop where
  run : ∀ a w, Sim C S a w → o.wp P a w (wpAny P .any l.toArray (nrm (Fin P k R)) f (listed.setIfInBounds i true)) (nrm (Fin P k R))
def StepsA (P : Program) (C : Ctx) (l : List Oper) (k : List Item) (R : Act → World → Prop) (f : Nat) (listed : Array Bool) (S : St) : List (Nat × Oper) → Prop
  | [] => True
  | p :: L => StepA P C l k R f listed p.1 p.2 S ∧ StepsA P C l k R f listed S L
theorem StepsA.at_ {S : St} : ∀ {L : List (Nat × Oper)}, StepsA P C l k R f listed S L → ∀ p ∈ L, StepA P C l k R f listed p.1 p.2 S
  | [], _, p, h => by simp at h
  | q :: L, hL, p, h => by
    rcases List.mem_cons.1 h with rfl | h
    · exact hL.1
    · exact StepsA.at_ hL.2 p h
theorem mem_pickA {l : List Oper} {i : Nat} {o : Oper} (ho : l[i]? = some o) : ∀ {L : List Nat}, i ∈ L → (i, o) ∈ pick l L
  | [], h => by cases h
  | j :: L, h => by
    rcases List.mem_cons.1 h with rfl | h
    · simp [pick, ho]
    · unfold pick
      cases l[j]? with
      | none => exact mem_pickA ho h
      | some o' => exact List.mem_cons.2 (.inr (mem_pickA ho h))
theorem wpOp_atA {ops : Array Oper} {Q : Exit → Act → World → Prop} {K : Act → World → Prop} {i : Nat} {o : Oper} {a : Act} {w : World} (hi : ops[i]? = some o) (hg : o.guard = none) (h : o.wp P a w K Q) : wpOp P ops Q i K a w := by
  unfold wpOp
  simp only [hi]
  rw [if_pos (by simp [Region.wanted, hg])]
  exact .inl h
theorem RunsA.node {S : St} (L : List Nat) (hL : Region.ready .any l.toArray listed = L) (hne : L.isEmpty = false) (hg : ((pick l L).all fun p => p.2.guard.isNone) = true) (h : StepsA P C l k R f listed S (pick l L)) : RunsA P C l k R (f + 1) listed S := by
  refine ⟨fun a w hs => ⟨fun h0 => ?_, fun i hi => ?_⟩⟩
  · rw [hL] at h0; subst h0; cases hne
  · obtain ⟨_, o, ho, _⟩ := mem_ready.1 hi
    have hl : l[i]? = some o := by simpa using ho
    have hp : (i, o) ∈ pick l L := mem_pickA hl (hL ▸ hi)
    have hgo : o.guard = none := by have := List.all_eq_true.1 hg _ hp; simpa using this
    exact wpOp_atA (by simpa using hl) hgo ((h.at_ _ hp).run a w hs)
theorem StepA.pur {o : Oper} {v : AV} (h : Pur P C o env σ v) (hd : o.dst = some t) (ht : t < C.n) (hk : RunsA P C l k R f (listed.setIfInBounds i true) ⟨(t, v) :: env, σ⟩) : StepA P C l k R f listed i o ⟨env, σ⟩ := by
  refine ⟨fun a w ⟨h1, h2, φ, h3, h4⟩ => ?_⟩
  refine h.run a ⟨w, φ, σ, C.ok⟩ h3 rfl (fun x _ => ev_rel h4 x) _ _ fun u w' hb hv => ?_
  obtain ⟨g1, g2⟩ := good_below h3 hb
  rw [hd]
  exact hk.run _ _ ⟨h1, by simp [Act.put, h2], φ, g1, (h4.keeps g2).put (by rw [h2]; exact ht) hv⟩
theorem StepA.callN {ty : TypeId} {pos : String} {after : Array Edge} {fi : FuncId} {fn : Func} {xs : Array Operand} {ats : Array TypeId} {args : List RV} {ov : OV} [hfn : FN P fi fn] (hf : ACo P fi args ov) (ha : LendsTL C σ (xs.toList.map (ev env)) args) (ht : t < C.n)
    (hk : ∀ (C' : Ctx) (u : Value) (bs : List Nat), Nx C C' [] → Gh C' ov u bs → bs.Nodup → (∀ b ∈ bs, C.w0.heap.size ≤ b) → RunsA P C' l k R f (listed.setIfInBounds i true) ⟨(t, .ro (constRV u)) :: env, σ⟩) :
    StepA P C l k R f listed i ⟨some t, .call { callee := .value (.func fi), args := xs, argTypes := ats }, ty, pos, after, none⟩ ⟨env, σ⟩ := by
  refine ⟨fun a w ⟨s1, s2, φ, hG, hH⟩ => ?_⟩
  have hr := LendsTL.rels hG rfl ha _ (rels_eval (a := a) (m := ⟨w, φ, σ, C.ok⟩) xs.toList fun x hx => ev_rel hH x)
  unfold Oper.wp
  rw [execOp_call_go, run_call hfn]
  simp only [Oper.upon]
  refine (hf w _ (by simpa using hr)).mono ?_
  rintro e w' ⟨u, bs, rfl, h1, h2, h3, h4⟩
  let C' : Ctx := ⟨w', fun b => C.ok b ∧ b ∉ bs, mine φ σ.length, C.n⟩
  have hmine : ∀ b, C'.mu b → C.mu b ∨ C.w0.heap.size ≤ b := fun b ⟨i, hi, hb⟩ => hG.mine i b hi hb
  have hNx : Nx C C' [] := ⟨rfl, h4.os.trans hG.frm.os, h4.tape.trans hG.frm.tape, h4.output.trans hG.frm.output, Nat.le_trans hG.frm.size h4.size, fun b hb hm _ => (h4.block b (Nat.lt_of_lt_of_le hb hG.frm.size)).trans (hG.frm.block b hb hm), hmine, fun b hb => hb.1⟩
  have hlt : ∀ (i g : Nat), i < σ.length → φ i = some g → g < w.heap.size := fun i g hi hg => hG.lt hi hg
  have hGh : Gh C' ov u bs := ⟨h1, fun b hb => ⟨(h3 b hb).2, fun ⟨i, hi, hg⟩ => by have := hlt i b hi hg; have := (h3 b hb).1; omega, fun ho => ho.2 hb⟩⟩
  have hK : Keeps (fun _ => True) ⟨w, φ, σ, C.ok⟩ ⟨w', φ, σ, C'.ok⟩ := by
    refine ⟨⟨h4.size, fun b hb ho => ⟨⟨⟨ho.1, fun hm => by have := (h3 b hm).1; simp only at hb; omega⟩, ho.2⟩, h4.block b hb⟩⟩, fun i _ hi => ⟨hi, rfl⟩, fun i ob _ hi => ⟨ob.cs, hi, rfl⟩, fun i g us t _ hi hg hh => ⟨us, (h4.block g (Array.getElem?_eq_some_iff.1 hh).1).trans hh, rfl⟩⟩
  have hG' : Good C' ⟨w', φ, σ, C'.ok⟩ := by
    refine ⟨rfl, hG.inj, fun i o hi => (hG.ob i o hi).keeps hK fun g hg => h4.block g (hlt i g (List.getElem?_eq_some_iff.1 hi).1 hg), fun i g hi hg => .inl ⟨i, hi, hg⟩, ⟨rfl, rfl, rfl, Nat.le_refl _, fun _ _ _ => rfl, fun b hb => ⟨hG.frm.new b (Nat.le_trans hG.frm.size (Nat.le_trans h4.size hb)), fun hm => by have := (h3 b hm).2; have hb' : w'.heap.size ≤ b := hb; omega⟩⟩⟩
  refine ((hk C' u bs hNx hGh h2 fun b hb => Nat.le_trans hG.frm.size (h3 b hb).1).run _ _ ⟨s1, by simp [Act.put, s2]; rfl, φ, hG', (hH.keeps hK).put (by rw [s2]; exact ht) ?_⟩)
  simp only [AV.rel]
  exact rel_constRV u
theorem RunsA.seq {S : St} (n : Nat) (hf : (l.drop n).length = f) (hs : Region.seqB .any l.toArray f n listed = true) (h : RunsL P C l.toArray (l.drop n) k R S) : RunsA P C l k R f listed S := by
  subst hf
  exact ⟨fun a w hS => wpAny_of_seq (md := .any) (Q' := nrm (Fin P k R)) (l.drop n) n listed a w (fun j => by simp [List.getElem?_drop]) hs (h.run a w hS)⟩
theorem RunsL.keep {ops : Array Oper} {rest : List Oper} (env' : Env) (h : Sub env' env) (hk : RunsL P C ops rest k R ⟨env', σ⟩) : RunsL P C ops rest k R ⟨env, σ⟩ :=
  ⟨fun a w ⟨h1, h2, φ, h3, h4⟩ => hk.run a w ⟨h1, h2, φ, h3, fun s => by
    rcases h.look s with e | e
    · show AV.rel _ (Proofs.Ytnecoghfhcimeaa.look env' s) _
      rw [e]; simp [AV.rel]
    · show AV.rel _ (Proofs.Ytnecoghfhcimeaa.look env' s) _
      rw [e]; exact h4 s⟩⟩
theorem Runs.toTree {id : Nat} {k' : List Item} (m : Nat) (hf : P.follows .mixedOrders = true) (hc : Proofs.Ytnecoghfhcimeaa.ctls m k = .code (.region id l.toArray true) :: k') (h : RunsA P C l k' R l.length (Array.replicate l.length false) ⟨env, σ⟩) : Runs P C k R ⟨env, σ⟩ :=
  Runs.ctls m hc ⟨fun a w hs' => Fin.of_wp (wp_region_any hf (by
    obtain ⟨s1, s2, φ, hG, hE⟩ := hs'
    have hb : Below w.heap.size w { w with drawn := w.drawn + 1 } := ⟨rfl, rfl, rfl, Nat.le_refl _, fun _ _ => rfl⟩
    obtain ⟨g1, g2⟩ := good_below hG hb
    have := h.run a { w with drawn := w.drawn + 1 } ⟨s1, s2, φ, g1, hE.keeps g2⟩
    simpa using this))⟩
theorem endsO_3 {p ty i0 i1 i2 : Nat} {fn : Func} {S : St} {o : Ob} {v : Value} {e1 e2 : TypeId} {s1 s2 : Nat} {us1 us2 : List Value} {ovs : List OV} {bs : List Nat} [ht : TN P ty 3] (hsc : Sc C0 C) (hr : fn.results = #[.cell p ty]) (h1 : look S.env p = .obj i0 0) (h2 : S.σ[i0]? = some o) (h3 : o.cs = [.ro (.c v), .own i1, .own i2])
    (h4 : S.σ[i1]? = some ⟨e1, s1, us1.map fun u => .ro (.c u)⟩) (h5 : S.σ[i2]? = some ⟨e2, s2, us2.map fun u => .ro (.c u)⟩) (hne : i1 ≠ i2)
    (hov : OV.rels C.w0 ovs us2 bs) (hfix : ∀ b ∈ bs, b < C.w0.heap.size ∧ ¬ C.mu b) (hnd : bs.Nodup) (hnew : ∀ b ∈ bs, C0.w0.heap.size ≤ b) : ∀ a w, Sim C S a w → EndsO P C0 fn (.agg [.c v, .row e1 s1 (us1.map .c), .row e2 s2 ovs]) a w := by
  rintro a w ⟨q1, q2, φ, hG, hH⟩
  have hcs : o.cs.length = 3 := by rw [h3]; rfl
  obtain ⟨u, k1, k2⟩ := resV_run (P := P) (x := .cell p ty) (v := .agg ((o.cs.drop 0).take 3)) hG hH (by simp only [ResV]; exact ⟨i0, 0, o, h1, h2, .inr ⟨3, ht, by omega, rfl⟩⟩)
  rw [List.drop_zero, List.take_of_length_le (by omega), h3] at k2
  rw [AV.rel] at k2
  obtain ⟨vs, rfl, hvs⟩ := k2
  simp only [AV.rels] at hvs
  obtain ⟨x0, r0, e0, g0, x1, r1, e1', g1, x2, r2, e2', g2, e3'⟩ := hvs
  have g0 : x0 = v := by simpa only [AV.rel, RV.rel] using g0
  subst g0; subst e1'; subst e2'; subst e3'
  have h4' : (⟨w, φ, S.σ, C.ok⟩ : Mem).σ[i1]? = some ⟨e1, s1, (us1.map RV.c).map .ro⟩ := by rw [List.map_map]; exact h4
  have h5' : (⟨w, φ, S.σ, C.ok⟩ : Mem).σ[i2]? = some ⟨e2, s2, (us2.map RV.c).map .ro⟩ := by rw [List.map_map]; exact h5
  obtain ⟨n1, xs1, a1, a2, a3, a4, a5, a6⟩ := row_own (cs := us1.map .c) hG h4' g1
  obtain ⟨n2, xs2, b1, b2, b3, b4, b5, b6⟩ := row_own (cs := us2.map .c) hG h5' g2
  have z1 := agg_flat (m := ⟨w, φ, S.σ, C.ok⟩) us1 xs1 a3
  have z2 := agg_flat (m := ⟨w, φ, S.σ, C.ok⟩) us2 xs2 b3
  subst z1; subst z2
  have hkeep := OV.rels_keep (w' := w) ovs xs2 bs hov fun b hb => hG.frm.block b (hfix b hb).1 (hfix b hb).2
  have l1 : i1 < S.σ.length := (List.getElem?_eq_some_iff.1 h4).1
  have l2 : i2 < S.σ.length := (List.getElem?_eq_some_iff.1 h5).1
  have hapart : ∀ (i : Nat), i < S.σ.length → ∀ x, φ i = some x → x ∉ bs := fun i hi x hx hb => by
    rcases hG.mine i x hi hx with h | h
    · exact (hfix x hb).2 h
    · have := (hfix x hb).1; omega
  have hown : ∀ (i : Nat), i < S.σ.length → ∀ x, φ i = some x → C0.w0.heap.size ≤ x ∧ x < w.heap.size := fun i hi x hx => by
    refine ⟨?_, hG.lt hi hx⟩
    rcases hG.mine i x hi hx with h | h
    · exact hsc.mu x h
    · exact Nat.le_trans hsc.below.size h
  refine ⟨q1, .agg vs, by rw [results_eq, hr]; simp [k1], x1.ownBlock.toList ++ (x2.ownBlock.toList ++ bs), ?_, ?_, fun b hb => ?_, hsc.end_ hG⟩
  · simp only [OV.rel]
    refine ⟨vs, rfl, ?_⟩
    rw [e0]
    simp only [OV.rels]
    refine ⟨_, _, [], _, rfl, rfl, by simp [OV.rel], _, _, x1.ownBlock.toList, _, rfl, rfl, ?_, _, _, x2.ownBlock.toList ++ bs, [], rfl, by simp, ?_, rfl, rfl⟩
    · simp only [OV.rel]
      exact ⟨n1, xs1, [], by simpa using a1, a2, OV.rels_c xs1, a4, a5, by simp⟩
    · simp only [OV.rel]
      exact ⟨n2, xs2, bs, by rw [← OV.rels_len ovs xs2 bs hov]; simpa using b1, b2, hkeep, b4, b5, rfl⟩
  · rw [a6, b6, List.nodup_append]
    have on : ∀ o : Option Nat, o.toList.Nodup := fun o => by cases o <;> simp
    refine ⟨on _, List.nodup_append.2 ⟨on _, hnd, fun x hx y hy => ?_⟩, fun x hx y hy => ?_⟩
    · rintro rfl
      exact hapart i2 l2 x (by simpa [Option.mem_toList] using hx) hy
    · rintro rfl
      have hx' : φ i1 = some x := by simpa [Option.mem_toList] using hx
      rcases List.mem_append.1 hy with hy | hy
      · have hy' : φ i2 = some x := by simpa [Option.mem_toList] using hy
        exact hne (hG.inj i1 i2 x l1 l2 hx' hy')
      · exact hapart i1 l1 x hx' hy
  · rw [a6, b6] at hb
    rcases List.mem_append.1 hb with hb | hb
    · exact hown i1 l1 b (by simpa [Option.mem_toList] using hb)
    · rcases List.mem_append.1 hb with hb | hb
      · exact hown i2 l2 b (by simpa [Option.mem_toList] using hb)
      · exact ⟨hnew b hb, Nat.lt_of_lt_of_le (hfix b hb).1 hG.frm.size⟩
end
end Go.Proofs.Ytnecoghfhcimeaa
/- Regions that draw their order, with some operations that look at operands alone and may come late. Over any program. -/
namespace Go.Proofs.Ytnecoghfhcimeaa
set_option linter.unusedSimpArgs false
set_option linter.unusedVariables false
open Go.RowKit
open AV (Mem Keeps)
section
variable {P : Program} {md : Region.Mode} {ops : Array Oper}
def YA (P : Program) (ops : Array Oper) (o : Oper) (v : Value) (a : Act) : Prop := Region.wanted o (yielded ops a.tmps) = true ∧ ∀ w, (execOp a.eval o).run P w = .ok (.value v) w
theorem YA.put {oi oj : Oper} {v u : Value} {a : Act} (hsi : ∀ cs b, oi.op ≠ .select cs b) (h3 : ∀ d, oj.dst = some d → d ∉ oi.looksAt ops) (h : YA P ops oi v a) : YA P ops oi v (a.put oj.dst u) :=
  ⟨by rw [wanted_put oi a oj.dst u h3]; exact h.1, fun w => by rw [execOp_put oi hsi a oj.dst u h3]; exact h.2 w⟩
theorem wpOp_ya {F : Act → World → Prop} {j : Nat} {oi oj : Oper} {v : Value} (hj : ops[j]? = some oj) (hap : oi.apart ops oj = true) (hsi : ∀ cs b, oi.op ≠ .select cs b) (hsj : ∀ cs b, oj.op ≠ .select cs b) {K K' : Act → World → Prop} {a : Act} {w : World} (hy : YA P ops oi v a)
    (h : wpOp P ops (nrm F) j K' (a.put oi.dst v) w) (hK : ∀ a' w', YA P ops oi v a' → K' (a'.put oi.dst v) w' → K a' w') : wpOp P ops (nrm F) j K a w := by
  obtain ⟨h1, h2, h3⟩ := Oper.apart_spec hap
  unfold wpOp at *
  simp only [hj] at *
  rw [wanted_put oj a oi.dst _ h1] at h
  have key : ∀ u w', K' ((a.put oi.dst v).put oj.dst u) w' → K (a.put oj.dst u) w' := fun u w' hk => hK _ _ (hy.put hsi h3) (by rwa [← Act.put_comm a v u h2])
  split
  · rename_i hw
    simp only [hw, if_true] at h
    refine h.imp (fun h => ?_) (fun h => ⟨?_, h.2⟩)
    · unfold Oper.wp at *
      rw [execOp_put oj hsj a oi.dst _ h1] at h
      generalize (execOp a.eval oj).run P w = r at *
      cases r with
      | ok n w' =>
        cases n with
        | value u => exact key u w' h
        | skip => exact key undef w' h
        | enter f args => exact Calls.mono h (fun e w'' he => by cases e <;> first | exact key _ w'' he | exact he | exact he.elim)
        | row r args => exact Rows.mono h fun v w'' he => key v w'' he
        | defer d =>
          simp only [Oper.upon] at h ⊢
          have e : ({ a.put oi.dst v with defers := d :: (a.put oi.dst v).defers } : Act).put oj.dst undef = (({ a with defers := d :: a.defers } : Act).put oj.dst undef).put oi.dst v := by
            have := Act.put_comm ({ a with defers := d :: a.defers } : Act) v undef h2
            rw [← this]
            cases oi.dst <;> rfl
          rw [e] at h
          refine hK _ _ ?_ h
          have hy' : YA P ops oi v ({ a with defers := d :: a.defers } : Act) := hy
          exact hy'.put hsi h3
        | _ => exact h
      | halt x w' => cases x <;> exact h
    · have := h.1
      unfold Oper.asks at this ⊢
      rwa [execOp_put oj hsj a oi.dst _ h1] at this
  · rename_i hw
    simp only [hw] at h
    exact key undef w h
theorem wpAny_ya {F : Act → World → Prop} {i : Nat} {oi : Oper} {v : Value} (hi : ops[i]? = some oi) (hsel : ∀ (j : Nat) (o : Oper) cs b, ops[j]? = some o → o.op ≠ .select cs b) :
    ∀ (fuel : Nat) (listed : Array Bool) (a : Act) (w : World), YA P ops oi v a →
      (∀ j oj, ops[j]? = some oj → j ≠ i → listed.getD j true = false → (∀ e ∈ oj.after, Region.binds md e = true → e.on ≠ i) → oi.apart ops oj = true) →
      i ∈ Region.ready md ops listed →
      wpAny P md ops (nrm F) fuel (listed.setIfInBounds i true) (a.put oi.dst v) w → wpAny P md ops (nrm F) (fuel + 1) listed a w := by
  have own : ∀ {K : Act → World → Prop} {a : Act} {w : World}, YA P ops oi v a → K (a.put oi.dst v) w → wpOp P ops (nrm F) i K a w := by
    intro K a w hy h
    unfold wpOp
    simp only [hi]
    rw [if_pos hy.1]
    refine .inl ?_
    unfold Oper.wp
    rw [hy.2 w]
    exact h
  intro fuel
  induction fuel with
  | zero =>
    intro listed a w hy _ hr H
    refine ⟨fun h => (by rw [h] at hr; cases hr), fun j hj => ?_⟩
    by_cases hji : j = i
    · subst hji; exact own hy H
    · have := ready_mono hj hji
      rw [H.1] at this
      cases this
  | succ fuel ih =>
    intro listed a w hy hfree hr H
    refine ⟨fun h => (by rw [h] at hr; cases hr), fun j hj => ?_⟩
    by_cases hji : j = i
    · subst hji; exact own hy H
    · have h1 := H.2 j (ready_mono hj hji)
      obtain ⟨hjun, oj, hoj, hall⟩ := mem_ready.1 hj
      have hnot : ∀ e ∈ oj.after, Region.binds md e = true → e.on ≠ i := fun e he hb heq => by
        have h1 := hall e he hb
        have h0 := (mem_ready.1 hr).1
        rw [heq, getD_both h0] at h1
        cases h1
      have hfree' : ∀ k ok, ops[k]? = some ok → k ≠ i → (listed.setIfInBounds j true).getD k true = false →
          (∀ e ∈ ok.after, Region.binds md e = true → e.on ≠ i) → oi.apart ops ok = true := fun k ok hk hki hun hno => by
        refine hfree k ok hk hki ?_ hno
        by_cases hjk : j = k
        · subst hjk; exact hjun
        · rw [getD_set_ne true hjk] at hun; exact hun
      refine wpOp_ya hoj (hfree j oj hoj hji hjun hnot) (fun cs b => hsel i oi cs b hi) (fun cs b => hsel j oj cs b hoj) hy h1 fun a' w' hy' h3 => ih (listed.setIfInBounds j true) a' w' hy' hfree' (ready_mono hr (Ne.symm hji)) ?_
      rw [Array.setIfInBounds_comm _ _ hji]
      exact h3
def isMv (o : Oper) : Bool := match o with
  | ⟨some _, .move _, _, _, _, none⟩ => true
  | ⟨some _, .extract _ _, _, _, _, none⟩ => true
  | _ => false
theorem isMv_ya {o : Oper} (h : isMv o = true) (a : Act) : (∃ u, YA P ops o u a) ∨ ∀ w x w', (execOp a.eval o).run P w ≠ .ok x w' ∧ ∀ v, (execOp a.eval o).run P w ≠ .halt (.panic v) w' := by
  obtain ⟨dst, op, ty, pos, after, g⟩ := o
  unfold isMv at h
  split at h
  · rename_i he; injection he with e1 e2 e3 e4 e5 e6; subst e1; subst e2; subst e6
    exact .inl ⟨_, by simp [Region.wanted], fun w => by simp [execOp]; rfl⟩
  · rename_i t x j _ _ _ he; injection he with e1 e2 e3 e4 e5 e6; subst e1; subst e2; subst e6
    cases hx : a.eval x with
    | tuple vs =>
      cases hv : vs[j]? with
      | some u => exact .inl ⟨u, by simp [Region.wanted], fun w => by simp [execOp, Instr.extract, hx, hv]⟩
      | none => exact .inr fun w x w' => by simp [execOp, Instr.extract, hx, hv, stuck]
    | _ => exact .inr fun w x w' => by simp [execOp, Instr.extract, hx, stuck]
  · cases h
end
def backB (md : Region.Mode) (ops : Array Oper) (e : Nat) : Bool := match ops[e]? with
  | some o => o.after.all fun ed => !Region.binds md ed || decide (ed.on < e)
  | none => false
def sinkQ (md : Region.Mode) (ops : Array Oper) (pri : List Nat) (n : Nat) : Bool :=
  (List.range n).all fun i => (pri.contains i && backB md ops i) || (!pri.contains i && (List.range (n + 1)).any fun j => decide (i < j) && (decide (j = n) || !pri.contains j) && Region.waitsFor md ops j i)
def freeAll (md : Region.Mode) (ops : Array Oper) (e : Nat) : Bool := match ops[e]? with
  | some o => isMv o && (List.range ops.size).all fun j => decide (j = e) || Region.waitsFor md ops j e || Region.waitsFor md ops e j || match ops[j]? with
    | some oj => o.apart ops oj
    | none => true
  | none => false
theorem freeAll_spec {md : Region.Mode} {ops : Array Oper} {e : Nat} {oe : Oper} (he : ops[e]? = some oe) (h : freeAll md ops e = true) : isMv oe = true ∧ ∀ j oj, ops[j]? = some oj → j ≠ e → (∀ ed ∈ oj.after, Region.binds md ed = true → ed.on ≠ e) → (∀ ed ∈ oe.after, Region.binds md ed = true → ed.on ≠ j) → oe.apart ops oj = true := by
  unfold freeAll at h
  rw [he] at h
  simp only [Bool.and_eq_true] at h
  refine ⟨h.1, fun j oj hj hje hno hno' => ?_⟩
  have hjl : j < ops.size := (Array.getElem?_eq_some_iff.1 hj).1
  have := List.all_eq_true.1 h.2 j (List.mem_range.2 hjl)
  rw [hj] at this
  simp only [Bool.or_eq_true, decide_eq_true_eq] at this
  rcases this with ((h1 | h1) | h1) | h1
  · exact absurd h1 hje
  · obtain ⟨o', ho', ed, hed, hb, hon⟩ := Region.waitsFor_spec h1
    have : o' = oj := Option.some.inj (ho'.symm.trans hj)
    subst this
    exact absurd hon (hno ed hed hb)
  · obtain ⟨o', ho', ed, hed, hb, hon⟩ := Region.waitsFor_spec h1
    have : o' = oe := Option.some.inj (ho'.symm.trans he)
    subst this
    exact absurd hon (hno' ed hed hb)
  · exact h1
section
variable {P : Program} {C : Ctx} {ops : Array Oper} {σ : List Ob} {md : Region.Mode} {rs : Res} {pri : List Nat}
theorem notready {listed : Array Bool} {e : Nat} {o : Oper} (he : ops[e]? = some o) (hun : listed.getD e true = false) (h : e ∉ Region.ready md ops listed) : ∃ ed ∈ o.after, Region.binds md ed = true ∧ listed.getD ed.on false = false := by
  apply Classical.byContradiction
  intro hno
  refine h (mem_ready.2 ⟨hun, o, he, fun ed hed hb => ?_⟩)
  cases hl : listed.getD ed.on false with
  | true => rfl
  | false => exact absurd ⟨ed, hed, hb, hl⟩ hno
theorem unlisted_plain {n : Nat} {listed : Array Bool} (hs : sinkQ md ops pri n = true) (hn : n < ops.size) (hsz : listed.size = ops.size) (hno : ∀ e ∈ pri, e ∉ Region.ready md ops listed) :
    ∀ i, i < n → listed.getD i true = false → ∃ i', i' < n ∧ listed.getD i' true = false ∧ pri.contains i' = false := by
  intro i
  induction i using Nat.strongRecOn with
  | _ i ih =>
    intro hi hun
    have h1 := List.all_eq_true.1 hs i (List.mem_range.2 hi)
    rw [Bool.or_eq_true, Bool.and_eq_true, Bool.and_eq_true, Bool.not_eq_true'] at h1
    rcases h1 with ⟨hp, hb⟩ | ⟨hp, _⟩
    · have hmem : i ∈ pri := by simpa using hp
      obtain ⟨o, ho⟩ : ∃ o, ops[i]? = some o := ⟨_, Array.getElem?_eq_getElem (by omega)⟩
      obtain ⟨ed, hed, hbi, hl⟩ := notready ho hun (hno i hmem)
      unfold backB at hb
      rw [ho] at hb
      have := Array.all_eq_true'.1 hb ed hed
      rw [hbi] at this
      simp only [Bool.not_true, Bool.false_or, decide_eq_true_eq] at this
      exact ih ed.on this (by omega) (getD_in (by rw [hsz]; omega) hl)
    · exact ⟨i, hi, hun, hp⟩
theorem tail_waitsQ {n : Nat} {listed : Array Bool} (hs : sinkQ md ops pri n = true) (hc : Region.chainB md ops n = true) (hn : n < ops.size) (inv : HeadInv md ops n listed) (hno : ∀ e ∈ pri, e ∉ Region.ready md ops listed) {i : Nat} (hi : i < n) (hun : listed.getD i true = false) :
    ∀ t, n ≤ t → t ∉ Region.ready md ops listed := by
  obtain ⟨i0, hi0, hun0, hp0⟩ := unlisted_plain hs hn inv.size hno i hi hun
  have key : ∀ (d i : Nat), n - i = d → i < n → listed.getD i true = false → pri.contains i = false → n ∉ Region.ready md ops listed := by
    intro d
    induction d using Nat.strongRecOn with
    | _ d ih =>
      intro i hd hi hun hp hr
      obtain ⟨_, ot, hot, hall⟩ := mem_ready.1 hr
      have h1 := List.all_eq_true.1 hs i (List.mem_range.2 hi)
      rw [hp] at h1
      simp only [Bool.false_and, Bool.false_or, Bool.not_false, Bool.true_and] at h1
      obtain ⟨j, hj, hj2⟩ := List.any_eq_true.1 h1
      simp only [Bool.and_eq_true, Bool.or_eq_true, decide_eq_true_eq, Bool.not_eq_true'] at hj2
      obtain ⟨⟨hij, hjp⟩, hw⟩ := hj2
      obtain ⟨oj, hoj, e, he, hb, hon⟩ := Region.waitsFor_spec hw
      have hjle : j ≤ n := by have := List.mem_range.1 hj; omega
      by_cases hjt : j = n
      · subst hjt
        have : oj = ot := Option.some.inj (hoj.symm.trans hot)
        subst this
        have h2 := hall e he hb
        rw [hon, getD_both hun] at h2
        cases h2
      · have hjp' : pri.contains j = false := hjp.resolve_left hjt
        cases hl : listed.getD j false with
        | true =>
          have h2 := inv.closed j oj hoj hl e he hb
          rw [hon, getD_both hun] at h2
          cases h2
        | false =>
          have hjs : j < listed.size := by rw [inv.size]; omega
          exact ih (n - j) (by omega) j rfl (by omega) (getD_in hjs hl) hjp' hr
  intro t ht hr
  obtain ⟨_, ot, hot, hall⟩ := mem_ready.1 hr
  have htlt : t < ops.size := (Array.getElem?_eq_some_iff.1 hot).1
  by_cases htn : t = n
  · subst htn; exact key _ i0 rfl hi0 hun0 hp0 hr
  · have h1 := List.all_eq_true.1 hc t (List.mem_range.2 htlt)
    simp only [Bool.or_eq_true, decide_eq_true_eq] at h1
    rcases h1 with h1 | h1
    · omega
    · obtain ⟨o', ho', e, he, hb, hon⟩ := Region.waitsFor_spec h1
      have : o' = ot := Option.some.inj (ho'.symm.trans hot)
      subst this
      have h2 := hall e he hb
      rw [hon, getD_both (inv.tail (t - 1) (by omega) (by omega))] at h2
      cases h2
theorem not_waits {listed : Array Bool} {i j : Nat} {oj : Oper} (hi : i ∈ Region.ready md ops listed) (hj : j ∈ Region.ready md ops listed) (hoj : ops[j]? = some oj) : ∀ e ∈ oj.after, Region.binds md e = true → e.on ≠ i := fun e he hb heq => by
  obtain ⟨_, o', ho', hall⟩ := mem_ready.1 hj
  have : o' = oj := Option.some.inj (ho'.symm.trans hoj)
  subst this
  have h1 := hall e he hb
  rw [heq, getD_both (mem_ready.1 hi).1] at h1
  cases h1
variable {listed : Array Bool} {E : EE} {a : Act} {w : World}
theorem SimR.mv {i : Nat} {o : Oper} {v : AV} (hs : SimR C σ rs listed E a w) (ho : ops[i]? = some o) (hd : ∀ t, o.dst = some t → t < C.n) (hm : isMv o = true)
    (hy : YF P C ops σ rs i o v E) : ∃ u, YA P ops o u a ∧ SimR C σ rs (listed.setIfInBounds i true) (putE E o.dst v) (a.put o.dst u) w := by
  obtain ⟨s1, s2, φ, hG, hφ, hE⟩ := hs
  obtain ⟨dst, op, ty, pos, after, g⟩ := o
  obtain ⟨t, rfl, rfl⟩ : ∃ t, dst = some t ∧ g = none := by
    unfold isMv at hm
    split at hm
    · rename_i he; injection he with e1 e2 e3 e4 e5 e6; exact ⟨_, e1, e6⟩
    · rename_i he; injection he with e1 e2 e3 e4 e5 e6; exact ⟨_, e1, e6⟩
    · cases hm
  have htn := hd t rfl
  rcases hy with ⟨h0, ⟨hg, hv⟩ | ⟨hg, _⟩⟩ | ⟨p, e, zs, hp, hop, _⟩
  · have hwp := hv (res rs listed) a ⟨w, φ, σ ++ res rs listed, C.ok⟩ hG rfl (fun x _ => ev_evE' hE x) (fun a' w' => ∃ u, a' = a.put (some t) u ∧ AV.rel ⟨w', φ, σ ++ res rs listed, C.ok⟩ v u) (fun _ _ _ => False) fun u w' hb hu => ⟨u, rfl, hu⟩
    rcases isMv_ya (P := P) (ops := ops) hm a with ⟨u, hya⟩ | hno
    · refine ⟨u, hya, ?_⟩
      unfold Oper.wp at hwp
      rw [hya.2 w] at hwp
      simp only [Oper.upon] at hwp
      obtain ⟨u', he, hu⟩ := hwp
      have hu' : u = u' := by
        have h1 := getD_put a t t u (by rw [s2]; exact htn)
        have h2 := getD_put a t t u' (by rw [s2]; exact htn)
        rw [if_pos rfl] at h1 h2
        rw [← h1, ← h2, he]
      subst hu'
      refine ⟨s1, by simp [Act.put, s2], φ, ?_, fun p r hp hl => hφ p r hp ?_, fun s => ?_⟩
      · rw [res_same h0]; exact hG
      · rwa [getD_set_ne false (Ne.symm (h0 r (List.mem_of_getElem? hp)))] at hl
      · rw [res_same h0, getD_put a t s u (by rw [s2]; exact htn)]
        simp only [putE]
        split
        · exact hu
        · exact hE s
    · exfalso
      unfold Oper.wp at hwp
      cases hr : (execOp a.eval (⟨some t, op, ty, pos, after, none⟩ : Oper)).run P w with
      | ok x w' => exact (hno w x w').1 hr
      | halt q w' =>
        rw [hr] at hwp
        cases q <;> first | exact hwp | exact (hno w .skip w').2 _ hr
  · simp [gsayE] at hg
  · exfalso
    simp only at hop
    subst hop
    simp [isMv] at hm
end
def drawQB (l : List Oper) (pri head : List Nat) (n : Nat) : Bool :=
  Region.noSelect l.toArray && decide (n < l.length) && sinkQ .any l.toArray pri n && Region.chainB .any l.toArray n && decide ((pick l head).length = n) && (pri.all fun e => decide (e < n) && freeAll .any l.toArray e) &&
  lexIdx .any l.toArray (l.length - n) n ((pick l head).map (·.1)) (Array.replicate l.length false)
section
variable {P : Program} {C : Ctx} {k : List Item} {R : Act → World → Prop} {env : Env} {σ : List Ob}
end
end Go.Proofs.Ytnecoghfhcimeaa
/- Regions that draw their order, in which objects and rows are made: each has its place from the first. Over any program. Printed by gen/dru.py. -/
namespace Go.Proofs.Ytnecoghfhcimeaa
set_option linter.unusedSimpArgs false
set_option linter.unusedVariables false
open Go.RowKit
open AV (Mem Keeps)
section
variable {C : Ctx} {w w' : World} {φ : Nat → Option Nat} {σ : List Ob} {q g sz : Nat} {e : TypeId} {cs : List AV}
theorem keeps_fillU (hb : Below w.heap.size w w') (hg : w.heap.size ≤ g) (hq : σ[q]? = some ⟨e, 0, []⟩) (hφ : φ q = none) :
    Keeps (fun k => k ≠ q) ⟨w, φ, σ, C.ok⟩ ⟨w', upd φ q (some g), σ.set q ⟨e, sz, cs⟩, C.ok⟩ := by
  have hql : q < σ.length := (List.getElem?_eq_some_iff.1 hq).1
  refine ⟨⟨hb.size, fun b hlt hok => ⟨⟨hok.1, fun i hi he => ?_⟩, hb.block b hlt⟩⟩, fun i hi hil => ⟨by simpa using hil, upd_ne hi⟩, fun i ob hi ho => ⟨ob.cs, by simp only [List.getElem?_set_ne (Ne.symm hi)]; exact ho, rfl⟩, fun i b us t hi hil he hh => ⟨us, (hb.block b (Array.getElem?_eq_some_iff.1 hh).1).trans hh, rfl⟩⟩
  by_cases hiq : i = q
  · subst hiq; simp only [upd_eq, Option.some.injEq] at he; subst he; simp only at hlt; omega
  · simp only [upd_ne hiq] at he; exact hok.2 i (by simpa using hi) he
mutual
theorem only_place (hq : σ[q]? = some ⟨e, 0, []⟩) (hφ : φ q = none) : ∀ (v : AV) (u : Value), AV.rel ⟨w, φ, σ, C.ok⟩ v u → v.only (fun k => k ≠ q)
  | .ro r, u, h => by simp [AV.only]
  | .junk, u, _ => by simp [AV.only]
  | .obj i off, u, h => by
    simp only [AV.rel] at h
    obtain ⟨_, g, h2, _⟩ := h
    simp only [AV.only]
    rintro rfl; rw [hφ] at h2; cases h2
  | .pin i off g, u, h => by
    simp only [AV.rel] at h
    obtain ⟨_, h2, _⟩ := h
    simp only [AV.only]
    rintro rfl; rw [hφ] at h2; cases h2
  | .own i, u, h => by
    simp only [AV.rel] at h
    obtain ⟨ob, n, h1, h2, h3, _⟩ := h
    simp only [AV.only]
    rintro rfl; rw [hq] at h1; injection h1 with h1; subst h1; exact absurd h3 (Nat.lt_irrefl 0)
  | .agg vs, u, h => by
    simp only [AV.rel] at h
    obtain ⟨us', _, h1⟩ := h
    simp only [AV.only]; exact onlys_place hq hφ vs _ h1
  | .tup vs, u, h => by
    simp only [AV.rel] at h
    obtain ⟨us', _, h1⟩ := h
    simp only [AV.only]; exact onlys_place hq hφ vs _ h1
  | .fn f a b, u, h => by
    simp only [AV.rel] at h
    obtain ⟨us', vs', _, h1, h2⟩ := h
    simp only [AV.only]; exact ⟨onlys_place hq hφ a _ h1, onlys_place hq hφ b _ h2⟩
theorem onlys_place (hq : σ[q]? = some ⟨e, 0, []⟩) (hφ : φ q = none) : ∀ (vs : List AV) (us' : List Value), AV.rels ⟨w, φ, σ, C.ok⟩ vs us' → AV.onlys (fun k => k ≠ q) vs
  | [], us', h => by simp [AV.onlys]
  | x :: xs, us', h => by
    simp only [AV.rels] at h
    obtain ⟨u, us'', _, h1, h2⟩ := h
    simp only [AV.onlys]; exact ⟨only_place hq hφ x u h1, onlys_place hq hφ xs us'' h2⟩
end
theorem rel_fillU (hb : Below w.heap.size w w') (hg : w.heap.size ≤ g) (hq : σ[q]? = some ⟨e, 0, []⟩) (hφ : φ q = none) (v : AV) (u : Value) (h : AV.rel ⟨w, φ, σ, C.ok⟩ v u) : AV.rel ⟨w', upd φ q (some g), σ.set q ⟨e, sz, cs⟩, C.ok⟩ v u :=
  AV.rel_keeps (keeps_fillU hb hg hq hφ) v u (only_place hq hφ v u h) h
theorem good_fillU (hG : Good C ⟨w, φ, σ, C.ok⟩) (hb : Below w.heap.size w w') (hg : w.heap.size ≤ g) (hq : σ[q]? = some ⟨e, 0, []⟩) (hφ : φ q = none) (hob : ObRel ⟨w', upd φ q (some g), σ.set q ⟨e, sz, cs⟩, C.ok⟩ ⟨e, sz, cs⟩ (some g)) :
    Good C ⟨w', upd φ q (some g), σ.set q ⟨e, sz, cs⟩, C.ok⟩ := by
  have hql : q < σ.length := (List.getElem?_eq_some_iff.1 hq).1
  refine ⟨rfl, fun i j b hi hj e1 e2 => ?_, fun i o hi => ?_, fun i b hi hbi => ?_, hG.frm.below hb⟩
  · simp only [List.length_set] at hi hj
    by_cases hiq : i = q <;> by_cases hjq : j = q
    · omega
    · subst hiq; simp only [upd_eq, Option.some.injEq] at e1; simp only [upd_ne hjq] at e2
      have := hG.lt hj e2; simp only at this; omega
    · subst hjq; simp only [upd_eq, Option.some.injEq] at e2; simp only [upd_ne hiq] at e1
      have := hG.lt hi e1; simp only at this; omega
    · simp only [upd_ne hiq] at e1; simp only [upd_ne hjq] at e2
      exact hG.inj i j b hi hj e1 e2
  · by_cases hiq : i = q
    · subst hiq
      simp only [List.getElem?_set_self hql, Option.some.injEq] at hi
      subst hi
      simp only [upd_eq]
      exact hob
    · simp only [List.getElem?_set_ne (Ne.symm hiq)] at hi
      have h := hG.ob i o hi
      simp only [upd_ne hiq]
      simp only at h
      cases hgi : φ i with
      | none => rw [hgi] at h; exact h
      | some b =>
        rw [hgi] at h
        obtain ⟨vs, q1, q2, q3⟩ := h
        refine ⟨vs, (hb.block b (Array.getElem?_eq_some_iff.1 q1).1).trans q1, q2, fun j v hj => ?_⟩
        obtain ⟨x, k1, k2, k3⟩ := q3 j v hj
        exact ⟨x, k1, k2, rel_fillU hb hg hq hφ v x k3⟩
  · simp only [List.length_set] at hi
    by_cases hiq : i = q
    · subst hiq; simp only [upd_eq, Option.some.injEq] at hbi; subst hbi; exact .inr (Nat.le_trans hG.frm.size hg)
    · simp only [upd_ne hiq] at hbi; exact hG.mine i b hi hbi
end
structure RE where
  idx : Nat
  pre : Option (Nat × Nat)
  t : TypeId
  sz : Nat
  cs : List RV
abbrev ResU := List RE
def RE.ob (r : RE) : Ob := ⟨r.t, r.sz, r.cs.map .ro⟩
def RE.all (r : RE) : List Nat := r.idx :: match r.pre with
  | some p => [p.1]
  | none => []
def reOb (listed : Array Bool) (r : RE) : Ob :=
  if listed.getD r.idx false = true then r.ob else match r.pre with
    | some p => if listed.getD p.1 false = true then ⟨r.t, r.sz, []⟩ else ⟨r.t, 0, []⟩
    | none => ⟨r.t, 0, []⟩
def resU (rs : ResU) (listed : Array Bool) : List Ob := rs.map (reOb listed)
def fullU (rs : ResU) : List Ob := rs.map RE.ob
def MkN (P : Program) (C : Ctx) (o : Oper) (E : EE) (ob : Ob) (q : Nat) (v : AV) : Prop :=
  (v = .own q ∨ v = .obj q 0) ∧ ∀ (a : Act) (w : World) (φ : Nat → Option Nat) (σ : List Ob), Good C ⟨w, φ, σ, C.ok⟩ → σ[q]? = some ⟨ob.t, 0, []⟩ → φ q = none → (∀ x ∈ o.op.operands, AV.rel ⟨w, φ, σ, C.ok⟩ (evE E x) (a.eval x)) → ∀ (K : Act → World → Prop) (Q : Exit → Act → World → Prop),
    (∀ u w' g, Below w.heap.size w w' → w.heap.size ≤ g → ObRel ⟨w', upd φ q (some g), σ.set q ob, C.ok⟩ ob (some g) → AV.rel ⟨w', upd φ q (some g), σ.set q ob, C.ok⟩ v u → K (a.put o.dst u) w') → o.wp P a w K Q
def MkQ (P : Program) (C : Ctx) (o : Oper) (E : EE) (r : RE) (s q : Nat) : Prop :=
  ∀ (a : Act) (w : World) (φ : Nat → Option Nat) (σ : List Ob), Good C ⟨w, φ, σ, C.ok⟩ → σ[q]? = some ⟨r.t, r.sz, []⟩ → AV.rel ⟨w, φ, σ, C.ok⟩ (.own q) (a.tmps.getD s undef) → (∀ (j : Nat) ob, σ[j]? = some ob → AV.onlys (fun k => k ≠ q) ob.cs) →
    (∀ x ∈ o.op.operands, AV.rel ⟨w, φ, σ, C.ok⟩ (evE E x) (a.eval x)) → ∀ (K : Act → World → Prop) (Q : Exit → Act → World → Prop),
    (∀ u w' b, Good C ⟨w', upd φ q b, σ.set q r.ob, C.ok⟩ → Keeps (fun k => k ≠ q) ⟨w, φ, σ, C.ok⟩ ⟨w', upd φ q b, σ.set q r.ob, C.ok⟩ → AV.rel ⟨w', upd φ q b, σ.set q r.ob, C.ok⟩ (.own q) u → K (a.put o.dst u) w') → o.wp P a w K Q
theorem MkN.congr {P : Program} {C : Ctx} {o : Oper} {E E' : EE} {ob : Ob} {q : Nat} {v : AV} (h : MkN P C o E ob q v) (he : ∀ x ∈ o.op.operands, evE E' x = evE E x) : MkN P C o E' ob q v :=
  ⟨h.1, fun a w φ σ hG h1 h2 hx => h.2 a w φ σ hG h1 h2 fun x hm => by rw [← he x hm]; exact hx x hm⟩
theorem MkQ.congr {P : Program} {C : Ctx} {o : Oper} {E E' : EE} {r : RE} {s q : Nat} (h : MkQ P C o E r s q) (he : ∀ x ∈ o.op.operands, evE E' x = evE E x) : MkQ P C o E' r s q :=
  fun a w φ σ hG h1 h2 h3 hx => h a w φ σ hG h1 h2 h3 fun x hm => by rw [← he x hm]; exact hx x hm
def staged (rs : ResU) (n : Nat) (o : Oper) (v : AV) : Prop := ∀ p r, rs[p]? = some r → r.pre.isSome = true → v.only (fun k => k ≠ n + p) ∨ (isMv o = false ∧ ∃ e ∈ o.after, (∀ md, Region.binds md e = true) ∧ e.on = r.idx)
def YU (P : Program) (C : Ctx) (ops : Array Oper) (σ : List Ob) (rs : ResU) (i : Nat) (o : Oper) (v : AV) (E : EE) : Prop :=
  ((∀ r ∈ rs, i ∉ r.all) ∧ staged rs σ.length o v ∧ ((gsayE ops E o.guard = some true ∧ ∀ more, PurF P C o E (σ ++ more) v) ∨ (gsayE ops E o.guard = some false ∧ v = .ro (.c undef)))) ∨
  (∃ p r, rs[p]? = some r ∧ r.idx = i ∧ r.pre = none ∧ o.guard = none ∧ o.dst.isSome = true ∧ MkN P C o E r.ob (σ.length + p) v) ∨
  (∃ p r s, rs[p]? = some r ∧ r.pre = some (i, s) ∧ o.guard = none ∧ o.dst = some s ∧ MkN P C o E ⟨r.t, r.sz, []⟩ (σ.length + p) (.own (σ.length + p)) ∧ v = .junk) ∨
  (∃ p r j s, rs[p]? = some r ∧ r.idx = i ∧ r.pre = some (j, s) ∧ o.guard = none ∧ o.dst.isSome = true ∧ MkQ P C o E r s (σ.length + p) ∧ v = .own (σ.length + p))
section
variable {P : Program} {C : Ctx} {ops : Array Oper} {σ : List Ob} {md : Region.Mode} {rs : ResU} {pri : List Nat}
theorem YU.put {i : Nat} {oi oj : Oper} {v u : AV} {E : EE} (hy : YU P C ops σ rs i oi v E) (h3 : ∀ d, oj.dst = some d → d ∉ oi.looksAt ops) : YU P C ops σ rs i oi v (putE E oj.dst u) := by
  have hc : ∀ x ∈ oi.op.operands, evE (putE E oj.dst u) x = evE E x := fun x hx => evE_put fun t ht => mem_looks_op (h3 t ht) x hx
  unfold YU at *
  rw [gsay_put h3]
  rcases hy with ⟨h0, hs, ⟨hw, hv⟩ | hy⟩ | ⟨p, r, k1, k2, k3, k4, k5, k6⟩ | ⟨p, r, s, k1, k2, k3, k4, k5, k6⟩ | ⟨p, r, j, s, k1, k2, k3, k4, k5, k6, k7⟩
  · exact .inl ⟨h0, hs, .inl ⟨hw, fun more => (hv more).congr hc⟩⟩
  · exact .inl ⟨h0, hs, .inr hy⟩
  · exact .inr (.inl ⟨p, r, k1, k2, k3, k4, k5, k6.congr hc⟩)
  · exact .inr (.inr (.inl ⟨p, r, s, k1, k2, k3, k4, k5.congr hc, k6⟩))
  · exact .inr (.inr (.inr ⟨p, r, j, s, k1, k2, k3, k4, k5, k6.congr hc, k7⟩))
theorem YU.unput {i : Nat} {oi : Oper} {d : Option Nat} {v u : AV} {E : EE} (hy : YU P C ops σ rs i oi v (putE E d u)) (h3 : ∀ t, d = some t → t ∉ oi.looksAt ops) : YU P C ops σ rs i oi v E := by
  have hc : ∀ x ∈ oi.op.operands, evE E x = evE (putE E d u) x := fun x hx => (evE_put fun t ht => mem_looks_op (h3 t ht) x hx).symm
  unfold YU at *
  rw [gsay_put h3] at hy
  rcases hy with ⟨h0, hs, ⟨hw, hv⟩ | hy⟩ | ⟨p, r, k1, k2, k3, k4, k5, k6⟩ | ⟨p, r, s, k1, k2, k3, k4, k5, k6⟩ | ⟨p, r, j, s, k1, k2, k3, k4, k5, k6, k7⟩
  · exact .inl ⟨h0, hs, .inl ⟨hw, fun more => (hv more).congr hc⟩⟩
  · exact .inl ⟨h0, hs, .inr hy⟩
  · exact .inr (.inl ⟨p, r, k1, k2, k3, k4, k5, k6.congr hc⟩)
  · exact .inr (.inr (.inl ⟨p, r, s, k1, k2, k3, k4, k5.congr hc, k6⟩))
  · exact .inr (.inr (.inr ⟨p, r, j, s, k1, k2, k3, k4, k5, k6.congr hc, k7⟩))
def aOpV (P : Program) (C : Ctx) (ops : Array Oper) (σ : List Ob) (rs : ResU) (i : Nat) (K : EE → Prop) (E : EE) : Prop := ∃ o v, ops[i]? = some o ∧ YU P C ops σ rs i o v E ∧ K (putE E o.dst v)
theorem aOpV_mono {i : Nat} {E : EE} {K K' : EE → Prop} (h : ∀ E, K E → K' E) (hh : aOpV P C ops σ rs i K E) : aOpV P C ops σ rs i K' E := by
  obtain ⟨o, v, h1, h2, h3⟩ := hh
  exact ⟨o, v, h1, h2, h _ h3⟩
theorem aOpV_put {i j : Nat} {oi oj : Oper} {v : AV} (hj : ops[j]? = some oj) (hap : oi.apart ops oj = true) {K : EE → Prop} {E : EE} (hy : YU P C ops σ rs i oi v E) (h : aOpV P C ops σ rs j K (putE E oi.dst v)) :
    aOpV P C ops σ rs j (fun E' => YU P C ops σ rs i oi v E' ∧ K (putE E' oi.dst v)) E := by
  obtain ⟨h1, h2, h3⟩ := Oper.apart_spec hap
  obtain ⟨o, u, k1, k2, k3⟩ := h
  rw [hj] at k1; injection k1 with k1; subst k1
  refine ⟨oj, u, hj, k2.unput h1, hy.put h3, ?_⟩
  rw [← putE_comm h2]; exact k3
def wpAnyV (P : Program) (C : Ctx) (md : Region.Mode) (ops : Array Oper) (σ : List Ob) (rs : ResU) (pri : List Nat) (n : Nat) (L : Array Bool → EE → Prop) : Nat → Array Bool → EE → Prop
  | 0, listed, E => L listed E
  | f + 1, listed, E => (∃ e ∈ pri, e ∈ Region.ready md ops listed ∧ e < n ∧ aOpV P C ops σ rs e (wpAnyV P C md ops σ rs pri n L f (listed.setIfInBounds e true)) E) ∨
      ((∀ e ∈ pri, e ∉ Region.ready md ops listed) ∧ Region.ready md ops listed ≠ [] ∧ ∀ i ∈ Region.ready md ops listed, i < n ∧ aOpV P C ops σ rs i (wpAnyV P C md ops σ rs pri n L f (listed.setIfInBounds i true)) E)
def wpLexV (P : Program) (C : Ctx) (ops : Array Oper) (σ : List Ob) (rs : ResU) (Q : EE → Prop) : List (Nat × Oper) → EE → Prop
  | [], E => Q E
  | (i, o) :: rest, E => ∃ v, YU P C ops σ rs i o v E ∧ wpLexV P C ops σ rs Q rest (putE E o.dst v)
theorem V_any {n : Nat} {L : Array Bool → EE → Prop} (hpri : ∀ e ∈ pri, freeAll md ops e = true) (hdone : ∀ listed E, L listed E → ∀ j ∈ Region.ready md ops listed, n ≤ j) :
    ∀ (f : Nat) (listed : Array Bool) (E : EE), wpAnyV P C md ops σ rs pri n L f listed E → ∀ j ∈ Region.ready md ops listed, j < n → ∃ f', f = f' + 1 ∧ aOpV P C ops σ rs j (wpAnyV P C md ops σ rs pri n L f' (listed.setIfInBounds j true)) E
  | 0, listed, E, h, j, hj, hjn => by have := hdone _ _ h j hj; omega
  | f + 1, listed, E, h, j, hj, hjn => by
    rcases h with ⟨e, he, her, hen, o, v, ho, hy, hK⟩ | ⟨_, _, h⟩
    · by_cases hej : e = j
      · subst hej; exact ⟨f, rfl, o, v, ho, hy, hK⟩
      · obtain ⟨f', rfl, h2⟩ := V_any hpri hdone f _ _ hK j (ready_mono hj (Ne.symm hej)) hjn
        refine ⟨f' + 1, rfl, ?_⟩
        obtain ⟨_, oj, hoj, _⟩ := mem_ready.1 hj
        have hap := (freeAll_spec ho (hpri e he)).2 j oj hoj (Ne.symm hej) (not_waits her hj hoj) (not_waits hj her ho)
        refine aOpV_mono (fun E' h3 => .inl ⟨e, he, ready_mono her hej, hen, o, v, ho, h3.1, ?_⟩) (aOpV_put hoj hap hy h2)
        rw [Array.setIfInBounds_comm _ _ (Ne.symm hej)]
        exact h3.2
    · exact ⟨f, rfl, (h j hj).2⟩
theorem V_first {n i : Nat} {oi : Oper} {v : AV} {L : Array Bool → EE → Prop} (hi : ops[i]? = some oi) (hpri : ∀ e ∈ pri, freeAll md ops e = true)
    (hs : sinkQ md ops pri n = true) (hc : Region.chainB md ops n = true) (hn : n < ops.size) (hin : i < n) (hpn : ∀ e ∈ pri, e < n)
    (hdone : ∀ listed E, L listed E → ∀ j ∈ Region.ready md ops listed, n ≤ j) :
    ∀ (f : Nat) (listed : Array Bool) (E : EE), HeadInv md ops n listed →
      (∀ j oj, ops[j]? = some oj → j ≠ i → listed.getD j true = false → (∀ e ∈ oj.after, Region.binds md e = true → e.on ≠ i) → oi.apart ops oj = true) →
      i ∈ Region.ready md ops listed → YU P C ops σ rs i oi v E →
      wpAnyV P C md ops σ rs pri n L f (listed.setIfInBounds i true) (putE E oi.dst v) → wpAnyV P C md ops σ rs pri n L (f + 1) listed E := by
  intro f
  induction f with
  | zero =>
    intro listed E inv hfree hr hy H
    by_cases hp : i ∈ pri
    · exact .inl ⟨i, hp, hr, hin, oi, v, hi, hy, H⟩
    · have no : ∀ j ∈ Region.ready md ops listed, j < n → j = i := fun j hj hjn => by
        apply Classical.byContradiction
        intro hji
        have := hdone _ _ H j (ready_mono hj hji)
        omega
      have hnp : ∀ e ∈ pri, e ∉ Region.ready md ops listed := fun e he her => hp (no e her (hpn e he) ▸ he)
      refine .inr ⟨hnp, fun h => (by rw [h] at hr; cases hr), fun j hj => ?_⟩
      have hjn : j < n := by
        rcases Nat.lt_or_ge j n with h | h
        · exact h
        · exact absurd hj (tail_waitsQ hs hc hn inv hnp hin (mem_ready.1 hr).1 j h)
      obtain rfl := no j hj hjn
      exact ⟨hjn, oi, v, hi, hy, H⟩
  | succ f ih =>
    intro listed E inv hfree hr hy H
    by_cases hp : i ∈ pri
    · exact .inl ⟨i, hp, hr, hin, oi, v, hi, hy, H⟩
    · have step : ∀ j ∈ Region.ready md ops listed, j < n → j ≠ i → aOpV P C ops σ rs j (wpAnyV P C md ops σ rs pri n L (f + 1) (listed.setIfInBounds j true)) E := fun j hj hjn hji => by
        obtain ⟨f', hf, h1⟩ := V_any hpri hdone _ _ _ H j (ready_mono hj hji) hjn
        injection hf with hf
        have hf : f' = f := hf.symm
        subst hf
        obtain ⟨hjun, oj, hoj, hall⟩ := mem_ready.1 hj
        have hfree' : ∀ k ok, ops[k]? = some ok → k ≠ i → (listed.setIfInBounds j true).getD k true = false →
            (∀ e ∈ ok.after, Region.binds md e = true → e.on ≠ i) → oi.apart ops ok = true := fun k ok hk hki hun hno => by
          refine hfree k ok hk hki ?_ hno
          by_cases hjk : j = k
          · subst hjk; exact hjun
          · rw [getD_set_ne true hjk] at hun; exact hun
        refine aOpV_mono (fun E' h3 => ih (listed.setIfInBounds j true) E' (inv.set hj hjn) hfree' (ready_mono hr (Ne.symm hji)) h3.1 ?_) (aOpV_put hoj (hfree j oj hoj hji hjun (not_waits hr hj hoj)) hy h1)
        rw [Array.setIfInBounds_comm _ _ hji]
        exact h3.2
      by_cases he : ∃ e ∈ pri, e ∈ Region.ready md ops listed
      · obtain ⟨e, he, her⟩ := he
        exact .inl ⟨e, he, her, hpn e he, step e her (hpn e he) (by rintro rfl; exact hp he)⟩
      · have hnp : ∀ e ∈ pri, e ∉ Region.ready md ops listed := fun e h1 h2 => he ⟨e, h1, h2⟩
        refine .inr ⟨hnp, fun h => (by rw [h] at hr; cases hr), fun j hj => ?_⟩
        have hjn : j < n := by
          rcases Nat.lt_or_ge j n with h | h
          · exact h
          · exact absurd hj (tail_waitsQ hs hc hn inv hnp hin (mem_ready.1 hr).1 j h)
        refine ⟨hjn, ?_⟩
        by_cases hji : j = i
        · subst hji; exact ⟨oi, v, hi, hy, H⟩
        · exact step j hj hjn hji
theorem wpAnyV_lex {n g : Nat} {Lq : EE → Prop} (hpri : ∀ e ∈ pri, freeAll md ops e = true) (hpn : ∀ e ∈ pri, e < n) (hs : sinkQ md ops pri n = true) (hc : Region.chainB md ops n = true) (hn : n < ops.size) :
    ∀ (l : List (Nat × Oper)) (listed : Array Bool) (E : EE), (∀ p ∈ l, ops[p.1]? = some p.2) → HeadInv md ops n listed →
    lexIdx md ops g n (l.map (·.1)) listed = true → wpLexV P C ops σ rs Lq l E →
    wpAnyV P C md ops σ rs pri n (fun listed' E' => Region.seqB md ops g n listed' = true ∧ (∀ j, j < n → listed'.getD j false = true) ∧ Lq E') l.length listed E
  | [], listed, E, _, _, hB, h => by
    simp only [List.map_nil, lexIdx, Bool.and_eq_true] at hB
    exact ⟨hB.1, fun j hj => List.all_eq_true.1 hB.2 j (List.mem_range.2 hj), h⟩
  | (k, o) :: l, listed, E, hl, inv, hB, h => by
    have h0 : ops[k]? = some o := hl (k, o) (by simp)
    simp only [List.map_cons, lexIdx, Bool.and_eq_true, decide_eq_true_eq] at hB
    obtain ⟨⟨⟨hr, hf⟩, hkn⟩, hB'⟩ := hB
    have hr' : k ∈ Region.ready md ops listed := by simpa using hr
    obtain ⟨v, hy, hK⟩ := h
    exact V_first h0 hpri hs hc hn hkn hpn (fun listed' E' hL => seqB_ready hL.1) l.length listed E inv (Region.free_spec h0 hf) hr' hy
      (wpAnyV_lex hpri hpn hs hc hn l _ _ (fun p hp => hl p (by simp [hp])) (inv.set hr' hkn) hB' hK)
end
structure WfU (md : Region.Mode) (ops : Array Oper) (rs : ResU) : Prop where
  one : ∀ (p : Nat) r (p' : Nat) r' i, rs[p]? = some r → rs[p']? = some r' → i ∈ r.all → i ∈ r'.all → p = p'
  two : ∀ (p : Nat) r j s, rs[p]? = some r → r.pre = some (j, s) → r.idx ≠ j
  edge : ∀ (p : Nat) r j s, rs[p]? = some r → r.pre = some (j, s) → ∃ o, ops[r.idx]? = some o ∧ ∃ e ∈ o.after, Region.binds md e = true ∧ e.on = j
  slot : ∀ (p : Nat) r j s, rs[p]? = some r → r.pre = some (j, s) → ∀ i o, ops[i]? = some o → o.dst = some s → i = j
theorem RE.mem_idx (r : RE) : r.idx ∈ r.all := by simp [RE.all]
theorem RE.mem_pre {r : RE} {j s : Nat} (h : r.pre = some (j, s)) : j ∈ r.all := by simp [RE.all, h]
structure StU (C : Ctx) (σ : List Ob) (rs : ResU) (listed : Array Bool) (a : Act) (w : World) (φ : Nat → Option Nat) : Prop where
  made : ∀ (p : Nat) r, rs[p]? = some r → listed.getD r.idx false = false → (∀ j s, r.pre = some (j, s) → listed.getD j false = true → AV.rel ⟨w, φ, σ ++ resU rs listed, C.ok⟩ (.own (σ.length + p)) (a.tmps.getD s undef)) ∧
    ((∀ j s, r.pre = some (j, s) → listed.getD j false = false) → φ (σ.length + p) = none)
structure SimU (C : Ctx) (σ : List Ob) (rs : ResU) (listed : Array Bool) (E : EE) (a : Act) (w : World) : Prop where
  defers : a.defers = []
  size : a.tmps.size = C.n
  lsz : ∀ (p : Nat) r, rs[p]? = some r → ∀ i ∈ r.all, i < listed.size
  cl : ∀ (p : Nat) r j s, rs[p]? = some r → r.pre = some (j, s) → listed.getD r.idx false = true → listed.getD j false = true
  free : ∀ (p : Nat) r, rs[p]? = some r → r.pre.isSome = true → ∀ o ∈ σ, AV.onlys (fun k => k ≠ σ.length + p) o.cs
  only : ∀ (p : Nat) r, rs[p]? = some r → r.pre.isSome = true → listed.getD r.idx false = false → ∀ t, (E t).only (fun k => k ≠ σ.length + p)
  mem : ∃ φ, Good C ⟨w, φ, σ ++ resU rs listed, C.ok⟩ ∧ StU C σ rs listed a w φ ∧ ∀ t, AV.rel ⟨w, φ, σ ++ resU rs listed, C.ok⟩ (E t) (a.tmps.getD t undef)
theorem reOb_off {listed : Array Bool} {r : RE} {i : Nat} (h : i ∉ r.all) : reOb (listed.setIfInBounds i true) r = reOb listed r := by
  have h1 : i ≠ r.idx := fun e => h (e ▸ r.mem_idx)
  unfold reOb
  rw [getD_set_ne false h1]
  cases hp : r.pre with
  | none => rfl
  | some p =>
    obtain ⟨j, s⟩ := p
    have h2 : i ≠ j := fun e => h (e ▸ RE.mem_pre hp)
    simp only [getD_set_ne false h2]
theorem resU_same {rs : ResU} {listed : Array Bool} {i : Nat} (h : ∀ r ∈ rs, i ∉ r.all) : resU rs (listed.setIfInBounds i true) = resU rs listed := by
  unfold resU
  exact List.map_congr_left fun r hr => reOb_off (h r hr)
theorem getD_set_self {listed : Array Bool} {i : Nat} (hi : i < listed.size) : (listed.setIfInBounds i true).getD i false = true := by simp [hi]
theorem resU_set {md : Region.Mode} {ops : Array Oper} {rs : ResU} {listed : Array Bool} {i p : Nat} {r : RE} {ob : Ob} (hw : WfU md ops rs) (hp : rs[p]? = some r) (hm : i ∈ r.all) (ho : reOb (listed.setIfInBounds i true) r = ob) :
    resU rs (listed.setIfInBounds i true) = (resU rs listed).set p ob := by
  apply List.ext_getElem?
  intro j
  rw [List.getElem?_set]
  unfold resU
  rw [List.getElem?_map]
  by_cases e : p = j
  · subst e
    have hlt : p < rs.length := (List.getElem?_eq_some_iff.1 hp).1
    rw [hp]
    simp [hlt, ho]
  · rw [if_neg e, List.getElem?_map]
    cases hj : rs[j]? with
    | none => rfl
    | some r' =>
      simp only [Option.map_some, Option.some.injEq]
      exact reOb_off fun hm' => e (hw.one p r j r' i hp hj hm hm')
theorem onlys_of_ros {p : Nat → Prop} {o : Ob} {listed : Array Bool} {rs : ResU} (h : o ∈ resU rs listed) : AV.onlys p o.cs := by
  unfold resU at h
  obtain ⟨r, _, rfl⟩ := List.mem_map.1 h
  unfold reOb RE.ob
  split
  · exact onlys_ro _ _
  · split
    · split <;> exact onlys_ro _ []
    · exact onlys_ro _ []
section
variable {P : Program} {C : Ctx} {ops : Array Oper} {σ : List Ob} {md : Region.Mode} {rs : ResU} {pri : List Nat} {listed : Array Bool} {E : EE} {a : Act} {w : World}
theorem SimU.op {Q : Exit → Act → World → Prop} {i : Nat} {o : Oper} {v : AV} {K : Act → World → Prop} (hw : WfU md ops rs) (hs : SimU C σ rs listed E a w) (hi : i ∈ Region.ready md ops listed) (ho : ops[i]? = some o) (hd : ∀ t, o.dst = some t → t < C.n)
    (hy : YU P C ops σ rs i o v E) (hK : ∀ a' w', SimU C σ rs (listed.setIfInBounds i true) (putE E o.dst v) a' w' → K a' w') : wpOp P ops Q i K a w := by
  obtain ⟨s1, s2, s3, scl, s4, s5, φ, hG, hst, hE⟩ := hs
  have hi0 := (mem_ready.1 hi).1
  obtain ⟨dst, op, ty, pos, after, g⟩ := o
  simp only at hd
  have putA : ∀ (u : Value) (t : Nat), dst ≠ some t → (a.put dst u).tmps.getD t undef = a.tmps.getD t undef := by
    intro u t hne
    cases dst with
    | none => rfl
    | some s => rw [getD_put a s t u (by rw [s2]; exact hd s rfl), if_neg fun e => hne (by rw [e])]
  have putR : ∀ {φ' : Nat → Option Nat} {σ' : List Ob} {w' : World} {u : Value}, (∀ t, AV.rel ⟨w', φ', σ', C.ok⟩ (E t) (a.tmps.getD t undef)) → AV.rel ⟨w', φ', σ', C.ok⟩ v u → ∀ t, AV.rel ⟨w', φ', σ', C.ok⟩ (putE E dst v t) ((a.put dst u).tmps.getD t undef) := by
    intro φ' σ' w' u h1 h2 t
    cases dst with
    | none => exact h1 t
    | some s =>
      rw [getD_put a s t u (by rw [s2]; exact hd s rfl)]
      simp only [putE]
      split
      · exact h2
      · exact h1 t
  have putJ : ∀ {φ' : Nat → Option Nat} {σ' : List Ob} {w' : World} {u : Value}, (∀ t, AV.rel ⟨w', φ', σ', C.ok⟩ (E t) (a.tmps.getD t undef)) → ∀ t, AV.rel ⟨w', φ', σ', C.ok⟩ (putE E dst .junk t) ((a.put dst u).tmps.getD t undef) := by
    intro φ' σ' w' u h1 t
    cases dst with
    | none => exact h1 t
    | some s =>
      rw [getD_put a s t u (by rw [s2]; exact hd s rfl)]
      simp only [putE]
      split
      · simp [AV.rel]
      · exact h1 t
  have szR : ∀ u, (a.put dst u).tmps.size = C.n := fun u => by cases dst <;> simp [Act.put, s2]
  have dfR : ∀ u, (a.put dst u).defers = [] := fun u => by cases dst <;> exact s1
  have s3' : ∀ (p : Nat) r, rs[p]? = some r → ∀ k ∈ r.all, k < (listed.setIfInBounds i true).size := fun p r hp k hk => by simpa using s3 p r hp k hk
  have scl' : ∀ (p : Nat) r j s, rs[p]? = some r → r.pre = some (j, s) → (listed.setIfInBounds i true).getD r.idx false = true → (listed.setIfInBounds i true).getD j false = true := by
    intro p r j s hp hpr hl
    have hjs := s3 p r hp j (RE.mem_pre hpr)
    by_cases hij : i = j
    · rw [hij]; exact getD_set_self hjs
    rw [getD_set_ne false hij]
    by_cases hir : i = r.idx
    · obtain ⟨o', ho', e, he, hb, hon⟩ := hw.edge p r j s hp hpr
      obtain ⟨_, o'', ho'', hall⟩ := mem_ready.1 hi
      have : o'' = o' := Option.some.inj (ho''.symm.trans (hir ▸ ho'))
      subst this
      have := hall e he hb
      rw [hon] at this
      exact this
    · rw [getD_set_ne false hir] at hl
      exact scl p r j s hp hpr hl
  have onlyR : ∀ {v' : AV}, (∀ (p : Nat) r, rs[p]? = some r → r.pre.isSome = true → (listed.setIfInBounds i true).getD r.idx false = false → v'.only (fun k => k ≠ σ.length + p)) → ∀ (p : Nat) r, rs[p]? = some r → r.pre.isSome = true → (listed.setIfInBounds i true).getD r.idx false = false → ∀ t, (putE E dst v' t).only (fun k => k ≠ σ.length + p) := by
    intro v' h p r hp hpr hl t
    have hl0 : listed.getD r.idx false = false := by
      by_cases e : i = r.idx
      · rw [e, getD_set_self (s3 p r hp _ r.mem_idx)] at hl; cases hl
      · rwa [getD_set_ne false e] at hl
    cases dst with
    | none => exact s5 p r hp hpr hl0 t
    | some s =>
      simp only [putE]
      split
      · exact h p r hp hpr hl
      · exact s5 p r hp hpr hl0 t
  -- other places' rows lie where they lay
  have slotR : ∀ (p : Nat) r j s, rs[p]? = some r → r.pre = some (j, s) → i ≠ j → ∀ u, (a.put dst u).tmps.getD s undef = a.tmps.getD s undef := fun p r j s hp hpr hij u => putA u s fun e => hij (hw.slot p r j s hp hpr i _ ho e)
  unfold wpOp
  simp only [ho]
  rcases hy with ⟨h0, hsg, ⟨hg, hv⟩ | ⟨hg, rfl⟩⟩ | ⟨p, r, hp, hri, hrp, hgd, hds, hmk⟩ | ⟨p, r, s, hp, hrp, hgd, hds, hmk, rfl⟩ | ⟨p, r, j, s, hp, hri, hrp, hgd, hds, hmk, rfl⟩
  · have hres := resU_same (listed := listed) (fun r hr => h0 r hr)
    have hne : ∀ (p : Nat) r, rs[p]? = some r → i ≠ r.idx := fun p r hp e => h0 r (List.mem_of_getElem? hp) (e ▸ r.mem_idx)
    have hnj : ∀ (p : Nat) r j s, rs[p]? = some r → r.pre = some (j, s) → i ≠ j := fun p r j s hp hpr e => h0 r (List.mem_of_getElem? hp) (e ▸ RE.mem_pre hpr)
    rw [if_pos (gsay_yes hg a _ hE)]
    refine .inl (hv (resU rs listed) a ⟨w, φ, σ ++ resU rs listed, C.ok⟩ hG rfl (fun x _ => ev_evE' hE x) _ _ fun u w' hb hu => hK _ _ ?_)
    obtain ⟨g1, g2⟩ := good_below hG hb
    refine ⟨dfR u, szR u, s3', scl', s4, onlyR (fun p r hp hpr hl => (hsg p r hp hpr).resolve_right fun ⟨_, e, he, hb, hon⟩ => by
      rw [getD_set_ne false (hne p r hp)] at hl
      obtain ⟨_, o', ho', hall'⟩ := mem_ready.1 hi
      rw [ho] at ho'; injection ho' with ho'; subst ho'
      have := hall' e he (hb md)
      rw [hon, hl] at this; cases this), φ, by rw [hres]; exact g1, ⟨fun p r hp hl => ?_⟩, by rw [hres]; exact putR (fun t => AV.rel_keeps g2 _ _ (AV.only_true _) (hE t)) hu⟩
    rw [getD_set_ne false (hne p r hp)] at hl
    obtain ⟨k1, k2⟩ := hst.made p r hp hl
    refine ⟨fun j s hpr hj => ?_, fun h => k2 fun j s hpr => ?_⟩
    · rw [getD_set_ne false (hnj p r j s hp hpr)] at hj
      rw [hres, slotR p r j s hp hpr (hnj p r j s hp hpr)]
      exact AV.rel_keeps g2 _ _ (AV.only_true _) (k1 j s hpr hj)
    · have := h j s hpr
      rwa [getD_set_ne false (hnj p r j s hp hpr)] at this
  · have hres := resU_same (listed := listed) (fun r hr => h0 r hr)
    have hne : ∀ (p : Nat) r, rs[p]? = some r → i ≠ r.idx := fun p r hp e => h0 r (List.mem_of_getElem? hp) (e ▸ r.mem_idx)
    have hnj : ∀ (p : Nat) r j s, rs[p]? = some r → r.pre = some (j, s) → i ≠ j := fun p r j s hp hpr e => h0 r (List.mem_of_getElem? hp) (e ▸ RE.mem_pre hpr)
    rw [gsay_no hg a _ hE, if_neg (by simp)]
    refine hK _ _ ⟨dfR _, szR _, s3', scl', s4, onlyR (fun p r hp hpr hl => (hsg p r hp hpr).resolve_right fun ⟨_, e, he, hb, hon⟩ => by
      rw [getD_set_ne false (hne p r hp)] at hl
      obtain ⟨_, o', ho', hall'⟩ := mem_ready.1 hi
      rw [ho] at ho'; injection ho' with ho'; subst ho'
      have := hall' e he (hb md)
      rw [hon, hl] at this; cases this), φ, by rw [hres]; exact hG, ⟨fun p r hp hl => ?_⟩, by rw [hres]; exact putR hE (by simp [AV.rel, RV.rel])⟩
    rw [getD_set_ne false (hne p r hp)] at hl
    obtain ⟨k1, k2⟩ := hst.made p r hp hl
    refine ⟨fun j s hpr hj => ?_, fun h => k2 fun j s hpr => ?_⟩
    · rw [getD_set_ne false (hnj p r j s hp hpr)] at hj
      rw [hres, slotR p r j s hp hpr (hnj p r j s hp hpr)]
      exact k1 j s hpr hj
    · have := h j s hpr
      rwa [getD_set_ne false (hnj p r j s hp hpr)] at this
  · -- an object or a row is made in its place
    simp only at hgd hds
    subst hgd; subst hri
    have his := s3 p r hp _ r.mem_idx
    have hlf : listed.getD r.idx false = false := getD_both hi0
    have hpl : p < rs.length := (List.getElem?_eq_some_iff.1 hp).1
    have hob0 : reOb listed r = ⟨r.t, 0, []⟩ := by unfold reOb; rw [hlf]; simp [hrp]
    have hq : (σ ++ resU rs listed)[σ.length + p]? = some ⟨r.ob.t, 0, []⟩ := by
      rw [List.getElem?_append_right (by omega), show σ.length + p - σ.length = p by omega]
      unfold resU
      rw [List.getElem?_map, hp]
      simp only [Option.map_some, hob0, RE.ob]
    have hφq : φ (σ.length + p) = none := (hst.made p r hp hlf).2 fun j s h => by rw [hrp] at h; cases h
    have hset := resU_set (ob := r.ob) (listed := listed) hw hp r.mem_idx (by unfold reOb; rw [getD_set_self his]; rfl)
    have hσ : (σ ++ resU rs listed).set (σ.length + p) r.ob = σ ++ resU rs (listed.setIfInBounds r.idx true) := by
      rw [List.set_append_right _ _ (by omega), show σ.length + p - σ.length = p by omega, hset]
    rw [if_pos (by simp [Region.wanted])]
    refine .inl (hmk.2 a w φ _ hG hq hφq (fun x _ => ev_evE' hE x) _ _ fun u w' g hb hg hor hu => hK _ _ ?_)
    have g1 := good_fillU hG hb hg hq hφq hor
    have hall : ∀ t, AV.rel ⟨w', upd φ (σ.length + p) (some g), (σ ++ resU rs listed).set (σ.length + p) r.ob, C.ok⟩ (E t) (a.tmps.getD t undef) := fun t => rel_fillU hb hg hq hφq _ _ (hE t)
    have hoth : ∀ p' r' , rs[p']? = some r' → p' ≠ p → r.idx ∉ r'.all := fun p' r' hp' hne hm => hne (hw.one p' r' p r r.idx hp' hp hm r.mem_idx)
    refine ⟨dfR u, szR u, s3', scl', s4, onlyR fun p' r' hp' hpr' hl => ?_, upd φ (σ.length + p) (some g), by rw [← hσ]; exact g1, ⟨fun p' r' hp' hl => ?_⟩, by rw [← hσ]; exact putR hall hu⟩
    · have hne : p' ≠ p := by
        rintro rfl
        rw [hp] at hp'; injection hp' with hp'; subst hp'
        rw [hrp] at hpr'; cases hpr'
      rcases hmk.1 with rfl | rfl <;> (simp only [AV.only]; omega)
    · by_cases hpp : p' = p
      · subst hpp
        rw [hp] at hp'; injection hp' with hp'; subst hp'
        rw [getD_set_self his] at hl; cases hl
      · have hno := hoth p' r' hp' hpp
        have hri : r.idx ≠ r'.idx := fun e => hno (e ▸ r'.mem_idx)
        rw [getD_set_ne false hri] at hl
        obtain ⟨k1, k2⟩ := hst.made p' r' hp' hl
        refine ⟨fun j s hpr hj => ?_, fun h => ?_⟩
        · have hij : r.idx ≠ j := fun e => hno (e ▸ RE.mem_pre hpr)
          rw [getD_set_ne false hij] at hj
          rw [← hσ, slotR p' r' j s hp' hpr hij]
          exact rel_fillU hb hg hq hφq _ _ (k1 j s hpr hj)
        · rw [upd_ne (by omega)]
          refine k2 fun j s hpr => ?_
          have hij : r.idx ≠ j := fun e => hno (e ▸ RE.mem_pre hpr)
          have := h j s hpr
          rwa [getD_set_ne false hij] at this
  · -- a row is laid empty
    simp only at hgd hds
    subst hgd; subst hds
    have his := s3 p r hp _ (RE.mem_pre hrp)
    have hlf : listed.getD i false = false := getD_both hi0
    have hij := hw.two p r i s hp hrp
    have hlx : listed.getD r.idx false = false := by
      cases hh : listed.getD r.idx false with
      | false => rfl
      | true => rw [scl p r i s hp hrp hh] at hlf; cases hlf
    have hlx' : (listed.setIfInBounds i true).getD r.idx false = false := by rw [getD_set_ne false (Ne.symm hij)]; exact hlx
    have hob0 : reOb listed r = ⟨r.t, 0, []⟩ := by unfold reOb; rw [hlx]; simp [hrp, hlf]
    have hob1 : reOb (listed.setIfInBounds i true) r = ⟨r.t, r.sz, []⟩ := by unfold reOb; rw [hlx']; simp only [hrp, getD_set_self his]; rfl
    have hq : (σ ++ resU rs listed)[σ.length + p]? = some ⟨r.t, 0, []⟩ := by
      rw [List.getElem?_append_right (by omega), show σ.length + p - σ.length = p by omega]
      unfold resU
      rw [List.getElem?_map, hp]
      simp only [Option.map_some, hob0]
    have hφq : φ (σ.length + p) = none := (hst.made p r hp hlx).2 fun j s' h => by rw [hrp] at h; injection h with h; injection h with h; subst h; exact hlf
    have hset := resU_set (listed := listed) hw hp (RE.mem_pre hrp) hob1
    have hσ : (σ ++ resU rs listed).set (σ.length + p) ⟨r.t, r.sz, []⟩ = σ ++ resU rs (listed.setIfInBounds i true) := by
      rw [List.set_append_right _ _ (by omega), show σ.length + p - σ.length = p by omega, hset]
    rw [if_pos (by simp [Region.wanted])]
    refine .inl (hmk.2 a w φ _ hG hq hφq (fun x _ => ev_evE' hE x) _ _ fun u w' g hb hg hor hu => hK _ _ ?_)
    have g1 := good_fillU hG hb hg hq hφq hor
    have hall : ∀ t, AV.rel ⟨w', upd φ (σ.length + p) (some g), (σ ++ resU rs listed).set (σ.length + p) ⟨r.t, r.sz, []⟩, C.ok⟩ (E t) (a.tmps.getD t undef) := fun t => rel_fillU hb hg hq hφq _ _ (hE t)
    refine ⟨dfR u, szR u, s3', scl', s4, onlyR fun p' r' hp' hpr' hl => by simp [AV.only], upd φ (σ.length + p) (some g), by rw [← hσ]; exact g1, ⟨fun p' r' hp' hl => ?_⟩, by rw [← hσ]; exact putJ hall⟩
    by_cases hpp : p' = p
    · subst hpp
      rw [hp] at hp'; injection hp' with hp'; subst hp'
      refine ⟨fun j s' hpr hj => ?_, fun h => ?_⟩
      · rw [hrp] at hpr; injection hpr with hpr; injection hpr with e1 e2; subst e2
        rw [← hσ, getD_put a s s u (by rw [s2]; exact hd s rfl), if_pos rfl]
        exact hu
      · have := h i s hrp
        rw [getD_set_self his] at this; cases this
    · have hno : i ∉ r'.all := fun hm => hpp (hw.one p' r' p r i hp' hp hm (RE.mem_pre hrp))
      have hri : i ≠ r'.idx := fun e => hno (e ▸ r'.mem_idx)
      rw [getD_set_ne false hri] at hl
      obtain ⟨k1, k2⟩ := hst.made p' r' hp' hl
      refine ⟨fun j s' hpr hj => ?_, fun h => ?_⟩
      · have hij' : i ≠ j := fun e => hno (e ▸ RE.mem_pre hpr)
        rw [getD_set_ne false hij'] at hj
        rw [← hσ, slotR p' r' j s' hp' hpr hij']
        exact rel_fillU hb hg hq hφq _ _ (k1 j s' hpr hj)
      · rw [upd_ne (by omega)]
        refine k2 fun j s' hpr => ?_
        have hij' : i ≠ j := fun e => hno (e ▸ RE.mem_pre hpr)
        have := h j s' hpr
        rwa [getD_set_ne false hij'] at this
  · -- what was laid empty grows
    simp only at hgd hds
    subst hgd; subst hri
    have his := s3 p r hp _ r.mem_idx
    have hlf : listed.getD r.idx false = false := getD_both hi0
    have hij := hw.two p r j s hp hrp
    have hpl : p < rs.length := (List.getElem?_eq_some_iff.1 hp).1
    have hlj : listed.getD j false = true := by
      have := scl' p r j s hp hrp (getD_set_self his)
      rwa [getD_set_ne false hij] at this
    have hob0 : reOb listed r = ⟨r.t, r.sz, []⟩ := by unfold reOb; rw [hlf]; simp [hrp, hlj]
    have hq : (σ ++ resU rs listed)[σ.length + p]? = some ⟨r.t, r.sz, []⟩ := by
      rw [List.getElem?_append_right (by omega), show σ.length + p - σ.length = p by omega]
      unfold resU
      rw [List.getElem?_map, hp]
      simp only [Option.map_some, hob0]
    have hset := resU_set (ob := r.ob) (listed := listed) hw hp r.mem_idx (by unfold reOb; rw [getD_set_self his]; rfl)
    have hσ : (σ ++ resU rs listed).set (σ.length + p) r.ob = σ ++ resU rs (listed.setIfInBounds r.idx true) := by
      rw [List.set_append_right _ _ (by omega), show σ.length + p - σ.length = p by omega, hset]
    have hfr : ∀ (k : Nat) ob, (σ ++ resU rs listed)[k]? = some ob → AV.onlys (fun z => z ≠ σ.length + p) ob.cs := fun k ob hk => by
      rcases List.mem_append.1 (List.mem_of_getElem? hk) with h | h
      · exact s4 p r hp (by rw [hrp]; rfl) ob h
      · exact onlys_of_ros h
    have hE5 := s5 p r hp (by rw [hrp]; rfl) hlf
    rw [if_pos (by simp [Region.wanted])]
    refine .inl (hmk a w φ _ hG hq ((hst.made p r hp hlf).1 j s hrp hlj) hfr (fun x _ => ev_evE' hE x) _ _ fun u w' b g1 g2 hu => hK _ _ ?_)
    have hall : ∀ t, AV.rel ⟨w', upd φ (σ.length + p) b, (σ ++ resU rs listed).set (σ.length + p) r.ob, C.ok⟩ (E t) (a.tmps.getD t undef) := fun t => AV.rel_keeps g2 _ _ (hE5 t) (hE t)
    have hoth : ∀ p' r' , rs[p']? = some r' → p' ≠ p → r.idx ∉ r'.all := fun p' r' hp' hne hm => hne (hw.one p' r' p r r.idx hp' hp hm r.mem_idx)
    refine ⟨dfR u, szR u, s3', scl', s4, onlyR fun p' r' hp' hpr' hl => ?_, upd φ (σ.length + p) b, by rw [← hσ]; exact g1, ⟨fun p' r' hp' hl => ?_⟩, by rw [← hσ]; exact putR hall hu⟩
    · have hne : p' ≠ p := by
        rintro rfl
        rw [hp] at hp'; injection hp' with hp'; subst hp'
        rw [getD_set_self his] at hl; cases hl
      simp only [AV.only]; omega
    · by_cases hpp : p' = p
      · subst hpp
        rw [hp] at hp'; injection hp' with hp'; subst hp'
        rw [getD_set_self his] at hl; cases hl
      · have hno := hoth p' r' hp' hpp
        have hri : r.idx ≠ r'.idx := fun e => hno (e ▸ r'.mem_idx)
        rw [getD_set_ne false hri] at hl
        obtain ⟨k1, k2⟩ := hst.made p' r' hp' hl
        refine ⟨fun j' s' hpr hj => ?_, fun h => ?_⟩
        · have hij' : r.idx ≠ j' := fun e => hno (e ▸ RE.mem_pre hpr)
          rw [getD_set_ne false hij'] at hj
          rw [← hσ, slotR p' r' j' s' hp' hpr hij']
          exact AV.rel_keeps g2 _ _ (by simp only [AV.only]; omega) (k1 j' s' hpr hj)
        · rw [upd_ne (by omega)]
          refine k2 fun j' s' hpr => ?_
          have hij' : r.idx ≠ j' := fun e => hno (e ▸ RE.mem_pre hpr)
          have := h j' s' hpr
          rwa [getD_set_ne false hij'] at this
theorem SimU.mv {i : Nat} {o : Oper} {v : AV} (hw : WfU md ops rs) (hs : SimU C σ rs listed E a w) (ho : ops[i]? = some o) (hd : ∀ t, o.dst = some t → t < C.n) (hm : isMv o = true) (hmr : ∀ r ∈ rs, i ∉ r.all)
    (hy : YU P C ops σ rs i o v E) : ∃ u, YA P ops o u a ∧ SimU C σ rs (listed.setIfInBounds i true) (putE E o.dst v) (a.put o.dst u) w := by
  obtain ⟨s1, s2, s3, scl, s4, s5, φ, hG, hst, hE⟩ := hs
  obtain ⟨dst, op, ty, pos, after, g⟩ := o
  obtain ⟨t, rfl, rfl⟩ : ∃ t, dst = some t ∧ g = none := by
    unfold isMv at hm
    split at hm
    · rename_i he; injection he with e1 e2 e3 e4 e5 e6; exact ⟨_, e1, e6⟩
    · rename_i he; injection he with e1 e2 e3 e4 e5 e6; exact ⟨_, e1, e6⟩
    · cases hm
  have htn := hd t rfl
  have hres := resU_same (listed := listed) hmr
  have hne : ∀ (p : Nat) r, rs[p]? = some r → i ≠ r.idx := fun p r hp e => hmr r (List.mem_of_getElem? hp) (e ▸ r.mem_idx)
  have hnj : ∀ (p : Nat) r j s, rs[p]? = some r → r.pre = some (j, s) → i ≠ j := fun p r j s hp hpr e => hmr r (List.mem_of_getElem? hp) (e ▸ RE.mem_pre hpr)
  have bad : ∀ (p : Nat) r, rs[p]? = some r → i ∈ r.all → False := fun p r hp hm => hmr r (List.mem_of_getElem? hp) hm
  rcases hy with ⟨h0, hsg, ⟨hg, hv⟩ | ⟨hg, _⟩⟩ | ⟨p, r, hp, hri, _⟩ | ⟨p, r, s, hp, hrp, _⟩ | ⟨p, r, j, s, hp, hri, _⟩
  · have hwp := hv (resU rs listed) a ⟨w, φ, σ ++ resU rs listed, C.ok⟩ hG rfl (fun x _ => ev_evE' hE x) (fun a' w' => ∃ u, a' = a.put (some t) u ∧ AV.rel ⟨w', φ, σ ++ resU rs listed, C.ok⟩ v u) (fun _ _ _ => False) fun u w' hb hu => ⟨u, rfl, hu⟩
    rcases isMv_ya (P := P) (ops := ops) hm a with ⟨u, hya⟩ | hno
    · refine ⟨u, hya, ?_⟩
      unfold Oper.wp at hwp
      rw [hya.2 w] at hwp
      simp only [Oper.upon] at hwp
      obtain ⟨u', he, hu⟩ := hwp
      have hu' : u = u' := by
        have h1 := getD_put a t t u (by rw [s2]; exact htn)
        have h2 := getD_put a t t u' (by rw [s2]; exact htn)
        rw [if_pos rfl] at h1 h2
        rw [← h1, ← h2, he]
      subst hu'
      refine ⟨s1, by simp [Act.put, s2], fun p r hp k hk => by simpa using s3 p r hp k hk, fun p r j s hp hpr hl => ?_, s4, fun p r hp hpr hl s => ?_, φ, by rw [hres]; exact hG, ⟨fun p r hp hl => ?_⟩, fun s => ?_⟩
      · rw [getD_set_ne false (hne p r hp)] at hl
        rw [getD_set_ne false (hnj p r j s hp hpr)]
        exact scl p r j s hp hpr hl
      · rw [getD_set_ne false (hne p r hp)] at hl
        simp only [putE]
        split
        · exact (hsg p r hp hpr).resolve_right fun h => by rw [hm] at h; exact absurd h.1 (by decide)
        · exact s5 p r hp hpr hl s
      · rw [getD_set_ne false (hne p r hp)] at hl
        obtain ⟨k1, k2⟩ := hst.made p r hp hl
        refine ⟨fun j s hpr hj => ?_, fun h => k2 fun j s hpr => ?_⟩
        · rw [getD_set_ne false (hnj p r j s hp hpr)] at hj
          rw [hres, getD_put a t s u (by rw [s2]; exact htn), if_neg fun e => hnj p r j s hp hpr (hw.slot p r j s hp hpr i _ ho (by rw [e]))]
          exact k1 j s hpr hj
        · have := h j s hpr
          rwa [getD_set_ne false (hnj p r j s hp hpr)] at this
      · rw [hres, getD_put a t s u (by rw [s2]; exact htn)]
        simp only [putE]
        split
        · exact hu
        · exact hE s
    · exfalso
      unfold Oper.wp at hwp
      cases hr : (execOp a.eval (⟨some t, op, ty, pos, after, none⟩ : Oper)).run P w with
      | ok x w' => exact (hno w x w').1 hr
      | halt q w' =>
        rw [hr] at hwp
        cases q <;> first | exact hwp | exact (hno w .skip w').2 _ hr
  · simp [gsayE] at hg
  · exact (bad p r hp (hri ▸ r.mem_idx)).elim
  · exact (bad p r hp (RE.mem_pre hrp)).elim
  · exact (bad p r hp (hri ▸ r.mem_idx)).elim
theorem wpAny_of_V {n g : Nat} {L : Array Bool → EE → Prop} {F : Act → World → Prop} (hpri : ∀ e ∈ pri, freeAll md ops e = true) (hsel : ∀ (j : Nat) (o : Oper) cs b, ops[j]? = some o → o.op ≠ .select cs b) (hw : WfU md ops rs) (hpm : ∀ e ∈ pri, ∀ r ∈ rs, e ∉ r.all) (hd : ∀ (i : Nat) o t, ops[i]? = some o → o.dst = some t → t < C.n)
    (hL : ∀ listed E a w, L listed E → SimU C σ rs listed E a w → wpAny P md ops (nrm F) g listed a w) :
    ∀ (f : Nat) (listed : Array Bool) (E : EE) (a : Act) (w : World), SimU C σ rs listed E a w → wpAnyV P C md ops σ rs pri n L f listed E → wpAny P md ops (nrm F) (f + g) listed a w
  | 0, listed, E, a, w, hs, h => by rw [Nat.zero_add]; exact hL _ _ _ _ h hs
  | f + 1, listed, E, a, w, hs, h => by
    rw [show f + 1 + g = (f + g) + 1 by omega]
    rcases h with ⟨e, he, her, hen, o, v, ho, hy, hK⟩ | ⟨_, h0, h⟩
    · obtain ⟨hmv, hap⟩ := freeAll_spec ho (hpri e he)
      obtain ⟨u, hya, hs'⟩ := SimU.mv hw hs ho (fun t ht => hd e o t ho ht) hmv (hpm e he) hy
      exact wpAny_ya ho hsel _ listed a w hya (fun j oj hj hje hun hno => hap j oj hj hje hno fun ed hed hb hon => by
        obtain ⟨_, o', ho', hall⟩ := mem_ready.1 her
        have : o' = o := Option.some.inj (ho'.symm.trans ho)
        subst this
        have h1 := hall ed hed hb
        rw [hon, getD_both hun] at h1
        cases h1) her (wpAny_of_V hpri hsel hw hpm hd hL f _ _ _ w hs' hK)
    · refine ⟨fun h1 => absurd h1 h0, fun i hi => ?_⟩
      obtain ⟨o, v, ho, hy, hK⟩ := (h i hi).2
      exact SimU.op hw hs hi ho (fun t ht => hd i o t ho ht) hy fun a' w' hs' => wpAny_of_V hpri hsel hw hpm hd hL f _ _ a' w' hs' hK
end
def keyAll (k : Nat × Option (Nat × Nat)) : List Nat := k.1 :: match k.2 with
  | some p => [p.1]
  | none => []
def wfB (l : List Oper) (pri : List Nat) (n : Nat) (keys : List (Nat × Option (Nat × Nat))) : Bool :=
  decide (keys.flatMap keyAll).Nodup && (keys.flatMap keyAll).all (fun i => decide (i < n) && !pri.contains i) && keys.all fun k => match k.2 with
    | none => true
    | some p => (match l[k.1]? with
      | some o => o.after.any fun e => Region.binds .any e && decide (e.on = p.1)
      | none => false) && (List.range l.length).all fun i => match l[i]? with
        | some o => decide (o.dst ≠ some p.2) || decide (i = p.1)
        | none => true
theorem nd_flat {κ : Type} {f : κ → List Nat} : ∀ {l : List κ}, (l.flatMap f).Nodup → ∀ (p : Nat) a (p' : Nat) a' i, l[p]? = some a → l[p']? = some a' → i ∈ f a → i ∈ f a' → p = p'
  | [], _, p, a, _, _, _, h, _, _, _ => by simp at h
  | x :: l, hn, p, a, p', a', i, h, h', hi, hi' => by
    rw [List.flatMap_cons, List.nodup_append] at hn
    obtain ⟨_, h2, h3⟩ := hn
    cases p with
    | zero =>
      cases p' with
      | zero => rfl
      | succ p' =>
        simp only [List.getElem?_cons_zero, Option.some.injEq, List.getElem?_cons_succ] at h h'
        subst h
        exact absurd rfl (h3 i hi i (List.mem_flatMap.2 ⟨a', List.mem_of_getElem? h', hi'⟩))
    | succ p =>
      cases p' with
      | zero =>
        simp only [List.getElem?_cons_zero, Option.some.injEq, List.getElem?_cons_succ] at h h'
        subst h'
        exact absurd rfl (h3 i hi' i (List.mem_flatMap.2 ⟨a, List.mem_of_getElem? h, hi⟩))
      | succ p' =>
        simp only [List.getElem?_cons_succ] at h h'
        rw [nd_flat h2 p a p' a' i h h' hi hi']
theorem nd_in {κ : Type} {f : κ → List Nat} : ∀ {l : List κ}, (l.flatMap f).Nodup → ∀ a ∈ l, (f a).Nodup
  | [], _, a, h => by cases h
  | x :: l, hn, a, h => by
    rw [List.flatMap_cons, List.nodup_append] at hn
    rcases List.mem_cons.1 h with rfl | h
    · exact hn.1
    · exact nd_in hn.2.1 a h
def RE.key (r : RE) : Nat × Option (Nat × Nat) := (r.idx, r.pre)
theorem RE.all_key (r : RE) : r.all = keyAll r.key := by
  unfold RE.all keyAll RE.key
  cases r.pre <;> rfl
theorem wf_of {l : List Oper} {rs : ResU} {pri : List Nat} {n : Nat} {keys : List (Nat × Option (Nat × Nat))} (hk : rs.map RE.key = keys) (h : wfB l pri n keys = true) :
    WfU .any l.toArray rs ∧ (∀ r ∈ rs, ∀ i ∈ r.all, i < n) ∧ ∀ e ∈ pri, ∀ r ∈ rs, e ∉ r.all := by
  subst hk
  unfold wfB at h
  simp only [Bool.and_eq_true, decide_eq_true_eq] at h
  obtain ⟨⟨h1, h2⟩, h3⟩ := h
  have hin : ∀ r ∈ rs, ∀ i ∈ r.all, i < n ∧ i ∉ pri := fun r hr i hi => by
    have := List.all_eq_true.1 h2 i (List.mem_flatMap.2 ⟨r.key, List.mem_map_of_mem hr, r.all_key ▸ hi⟩)
    simpa using this
  have at_ : ∀ (p : Nat) r, rs[p]? = some r → (rs.map RE.key)[p]? = some r.key := fun p r hp => by rw [List.getElem?_map, hp]; rfl
  have h4 : ∀ (p : Nat) r j s, rs[p]? = some r → r.pre = some (j, s) → (∃ o, l[r.idx]? = some o ∧ ∃ e ∈ o.after, Region.binds .any e = true ∧ e.on = j) ∧ ∀ i o, l[i]? = some o → o.dst = some s → i = j := by
    intro p r j s hp hpr
    have := List.all_eq_true.1 h3 r.key (List.mem_map_of_mem (List.mem_of_getElem? hp))
    simp only [RE.key, hpr, Bool.and_eq_true] at this
    obtain ⟨k1, k2⟩ := this
    refine ⟨?_, fun i o hi hd => ?_⟩
    · split at k1
      · rename_i o ho
        rw [Array.any_eq_true'] at k1
        obtain ⟨e, he, hb⟩ := k1
        simp only [Bool.and_eq_true, decide_eq_true_eq] at hb
        exact ⟨o, ho, e, he, hb.1, hb.2⟩
      · cases k1
    · have := List.all_eq_true.1 k2 i (List.mem_range.2 (List.getElem?_eq_some_iff.1 hi).1)
      rw [hi] at this
      simp only [Bool.or_eq_true, decide_eq_true_eq] at this
      rcases this with h | h
      · exact absurd hd h
      · exact h
  refine ⟨⟨fun p r p' r' i hp hp' hm hm' => nd_flat h1 p r.key p' r'.key i (at_ p r hp) (at_ p' r' hp') (r.all_key ▸ hm) (r'.all_key ▸ hm'), fun p r j s hp hpr he => ?_, fun p r j s hp hpr => ?_, fun p r j s hp hpr i o hi hd => (h4 p r j s hp hpr).2 i o (by simpa using hi) hd⟩, fun r hr i hi => (hin r hr i hi).1, fun e he r hr hm => (hin r hr e hm).2 he⟩
  · have := nd_in h1 r.key (List.mem_of_getElem? (at_ p r hp))
    rw [← r.all_key] at this
    unfold RE.all at this
    simp [hpr] at this
    exact this he
  · obtain ⟨o, ho, he⟩ := (h4 p r j s hp hpr).1
    exact ⟨o, by simpa using ho, he⟩
theorem reOb_blank {m : Nat} (r : RE) : reOb (Array.replicate m false) r = ⟨r.t, 0, []⟩ := by
  unfold reOb
  rw [getD_replicate_false]
  simp only [Bool.false_eq_true, if_false]
  split
  · rw [getD_replicate_false]; rfl
  · rfl
theorem resU_full {rs : ResU} {listed : Array Bool} (h : ∀ r ∈ rs, listed.getD r.idx false = true) : resU rs listed = fullU rs := by
  unfold resU fullU
  refine List.map_congr_left fun r hr => ?_
  unfold reOb
  rw [if_pos (h r hr)]
section
variable {P : Program} {C : Ctx} {k : List Item} {R : Act → World → Prop} {env : Env} {σ : List Ob}
structure RunsU (P : Program) (C : Ctx) (ops : Array Oper) (rs : ResU) (tail : List Oper) (l : List (Nat × Oper)) (k : List Item) (R : Act → World → Prop) (S : St) : Prop where
  run : wpLexV P C ops S.σ rs (fun E => ∃ env', E = look env' ∧ RunsL P C ops tail k R ⟨env', S.σ ++ fullU rs⟩) l (look S.env)
theorem Runs.drawV {id : Nat} {l : List Oper} {cn : Nat} {keys : List (Nat × Option (Nat × Nat))} (pri head : List Nat) (n : Nat) (rs : ResU) (hf : P.follows .mixedOrders = true) (hn : C.n = cn) (hB : drawQB l pri head n = true) (hd : dstOk cn l = true)
    (hk : rs.map RE.key = keys) (hwf : wfB l pri n keys = true)
    (h : RunsU P C l.toArray rs (l.drop n) (pick l head) k R ⟨env, σ⟩) : Runs P C (.code (.region id l.toArray true) :: k) R ⟨env, σ⟩ := by
  refine ⟨fun a w hs => Fin.of_wp (wp_region_any hf ?_)⟩
  unfold drawQB at hB
  simp only [Bool.and_eq_true, decide_eq_true_eq] at hB
  obtain ⟨⟨⟨⟨⟨⟨hsel, hnl⟩, hsk⟩, hch⟩, hlen⟩, hpr⟩, hlex⟩ := hB
  obtain ⟨hw, hin, hpm⟩ := wf_of (l := l) (pri := pri) (n := n) hk hwf
  have hpri : ∀ e ∈ pri, freeAll .any l.toArray e = true := fun e he => by have := List.all_eq_true.1 hpr e he; simp only [Bool.and_eq_true] at this; exact this.2
  have hpn : ∀ e ∈ pri, e < n := fun e he => by have := List.all_eq_true.1 hpr e he; simp only [Bool.and_eq_true, decide_eq_true_eq] at this; exact this.1
  obtain ⟨s1, s2, φ, hG, hE⟩ := hs
  have hb : Below w.heap.size w { w with drawn := w.drawn + 1 } := ⟨rfl, rfl, rfl, Nat.le_refl _, fun _ _ => rfl⟩
  obtain ⟨g1, g2⟩ := good_below hG hb
  let φ0 : Nat → Option Nat := fun i => if i < σ.length then φ i else none
  have hφ0 : ∀ j, φ0 (σ.length + j) = none := fun j => if_neg (by omega)
  have hblank : ∀ (j : Nat) r, rs[j]? = some r → (resU rs (Array.replicate l.length false))[j]? = some ⟨r.t, 0, []⟩ := fun j r hj => by unfold resU; rw [List.getElem?_map, hj]; simp only [Option.map_some, reOb_blank]
  obtain ⟨G1, G2⟩ := good_grow (φ' := φ0) (new := resU rs (Array.replicate l.length false)) g1 (Below.refl _ _) (fun i hi => if_pos hi) (fun j hj g hg => by rw [hφ0] at hg; cases hg) (fun i j g hi hj e1 e2 => by rw [hφ0] at e1; cases e1) (fun j o hj => by
    rw [hφ0]
    unfold resU at hj
    rw [List.getElem?_map, Option.map_eq_some_iff] at hj
    obtain ⟨r, _, rfl⟩ := hj
    rw [reOb_blank]; rfl)
  have hE1 : ∀ t, AV.rel ⟨{ w with drawn := w.drawn + 1 }, φ0, σ ++ resU rs (Array.replicate l.length false), C.ok⟩ (look env t) (a.tmps.getD t undef) := fun t => AV.rel_keeps G2 _ _ (AV.only_true _) (AV.rel_keeps g2 _ _ (AV.only_true _) (hE t))
  have hplace : ∀ (p : Nat) r, rs[p]? = some r → (σ ++ resU rs (Array.replicate l.length false))[σ.length + p]? = some ⟨r.t, 0, []⟩ := fun p r hp => by
    rw [List.getElem?_append_right (by omega), show σ.length + p - σ.length = p by omega]
    exact hblank p r hp
  have hdd : ∀ (i : Nat) o t, l.toArray[i]? = some o → o.dst = some t → t < C.n := fun i o t hi ht => by rw [hn]; exact dstOk_at hd i o t (by simpa using hi) ht
  have inv0 : HeadInv .any l.toArray n (Array.replicate l.length false) :=
    ⟨by simp, fun j oj _ hl => (by rw [getD_replicate_false] at hl; cases hl), fun t _ ht => getD_in (by simpa using ht) (getD_replicate_false _ _)⟩
  have hmemH : ∀ p ∈ pick l head, l.toArray[p.1]? = some p.2 := fun p hp => by simpa using pick_mem hp
  have hsz : l.toArray.size = (pick l head).length + (l.length - n) := by simp; omega
  refine (show ∀ m, m = l.toArray.size → wpAny P .any l.toArray (nrm (Fin P k R)) m (Array.replicate l.toArray.size false) a { w with drawn := w.drawn + 1 } from ?_) _ rfl
  intro m hm
  obtain rfl := hm.trans hsz
  have H := wpAnyV_lex (P := P) (C := C) (σ := σ) (md := .any) (ops := l.toArray) (g := l.length - n) hpri hpn hsk hch (by simpa using hnl) (pick l head) (Array.replicate l.toArray.size false) (look env) hmemH (by simpa using inv0) (by simpa using hlex) h.run
  have hS0 : SimU C σ rs (Array.replicate l.length false) (look env) a { w with drawn := w.drawn + 1 } := by
    refine ⟨s1, s2, fun p r hp i hi => ?_, fun p r j s hp hpr hl => ?_, fun p r hp hpr o ho => ?_, fun p r hp hpr hl t => ?_, φ0, G1, ⟨fun p r hp hl => ⟨fun j s hpr hj => ?_, fun _ => hφ0 p⟩⟩, hE1⟩
    · have := hin r (List.mem_of_getElem? hp) i hi
      simp only [Array.size_replicate]; omega
    · rw [getD_replicate_false] at hl; cases hl
    · obtain ⟨i, hi⟩ := List.getElem?_of_mem ho
      have hil := (List.getElem?_eq_some_iff.1 hi).1
      have hob := G1.ob i o (by rw [show (⟨{ w with drawn := w.drawn + 1 }, φ0, σ ++ resU rs (Array.replicate l.length false), C.ok⟩ : Mem).σ = σ ++ resU rs (Array.replicate l.length false) from rfl, List.getElem?_append_left hil]; exact hi)
      refine onlys_at fun j v hj => ?_
      cases hg : φ0 i with
      | none => simp only [hg, ObRel] at hob; rw [hob] at hj; simp at hj
      | some g =>
        simp only [hg, ObRel] at hob
        obtain ⟨us, _, _, q3⟩ := hob
        obtain ⟨x, _, _, k3⟩ := q3 j v hj
        exact only_place (hplace p r hp) (hφ0 p) v x k3
    · exact only_place (hplace p r hp) (hφ0 p) _ _ (hE1 t)
    · rw [getD_replicate_false] at hj; cases hj
  refine wpAny_of_V hpri (Region.noSelect_spec hsel) hw hpm hdd (fun listed' E' a'' w'' hL hS => ?_) _ _ (look env) a _ (by simpa using hS0) H
  obtain ⟨hsq, hall, env'', rfl, hR⟩ := hL
  have hfl := resU_full (rs := rs) (listed := listed') fun r hr => hall r.idx (hin r hr _ r.mem_idx)
  obtain ⟨u1, u2, _, _, _, _, φ', G', _, hE''⟩ := hS
  rw [hfl] at G' hE''
  have := wpAny_of_seq (md := .any) (Q' := nrm (Fin P k R)) (l.drop n) n listed' a'' w'' (fun j => by simp [List.getElem?_drop]) (by rw [List.length_drop]; exact hsq) (hR.run a'' w'' ⟨u1, u2, φ', G', hE''⟩)
  rwa [List.length_drop] at this
theorem Runs.toDrawV {id : Nat} {l : List Oper} {k' : List Item} {cn : Nat} {keys : List (Nat × Option (Nat × Nat))} (m : Nat) (pri head : List Nat) (n : Nat) (rs : ResU) (hf : P.follows .mixedOrders = true) (hn : C.n = cn) (hc : Proofs.Ytnecoghfhcimeaa.ctls m k = .code (.region id l.toArray true) :: k') (hB : drawQB l pri head n = true) (hd : dstOk cn l = true)
    (hk : rs.map RE.key = keys) (hwf : wfB l pri n keys = true)
    (h : RunsU P C l.toArray rs (l.drop n) (pick l head) k' R ⟨env, σ⟩) : Runs P C k R ⟨env, σ⟩ := Runs.ctls m hc (Runs.drawV pri head n rs hf hn hB hd hk hwf h)
variable {ops : Array Oper} {rs : ResU} {tail : List Oper} {rest : List (Nat × Oper)} {i t : Nat} {o : Oper}
theorem RunsU.nil (h : RunsL P C ops tail k R ⟨env, σ ++ fullU rs⟩) : RunsU P C ops rs tail [] k R ⟨env, σ⟩ := ⟨⟨env, rfl, h⟩⟩
theorem RunsU.pur {v : AV} (h : ∀ more, Pur P C o env (σ ++ more) v) (hi : ((rs.map RE.key).flatMap keyAll).contains i = false) (hs : staged rs σ.length o v) (hg : gsay ops env o.guard = some true) (hd : o.dst = some t) (hk : RunsU P C ops rs tail rest k R ⟨(t, v) :: env, σ⟩) : RunsU P C ops rs tail ((i, o) :: rest) k R ⟨env, σ⟩ := by
  refine ⟨v, .inl ⟨fun r hr hm => ?_, hs, .inl ⟨hg, fun more => (h more).toF⟩⟩, ?_⟩
  · have : i ∈ (rs.map RE.key).flatMap keyAll := List.mem_flatMap.2 ⟨r.key, List.mem_map_of_mem hr, r.all_key ▸ hm⟩
    rw [← List.contains_iff_mem] at this
    rw [this] at hi; cases hi
  · rw [hd, show (⟨env, σ⟩ : St).env = env from rfl, ← look_putE]
    exact hk.run
theorem RunsU.step {T : Tab} (hT : TabOk P T) {v : AV} (hd : o.dst = some t) (hg : gsay ops env o.guard = some true) (h : ∀ more, aop T env (σ ++ more) o.op = some v) (hi : ((rs.map RE.key).flatMap keyAll).contains i = false) (hs : staged rs σ.length o v) (hk : RunsU P C ops rs tail rest k R ⟨(t, v) :: env, σ⟩) : RunsU P C ops rs tail ((i, o) :: rest) k R ⟨env, σ⟩ := by
  obtain ⟨dst, op, ty, pos, after, g⟩ := o
  simp only at hd; subst hd
  exact RunsU.pur (fun more => pu_auto hT (h more)) hi hs hg rfl hk
theorem RunsU.made {p : Nat} {r : RE} {v : AV} (hr : rs[p]? = some r) (hi : r.idx = i) (hp : r.pre = none) (hg : o.guard = none) (hd : o.dst = some t) (hm : MkN P C o (look env) r.ob (σ.length + p) v) (hk : RunsU P C ops rs tail rest k R ⟨(t, v) :: env, σ⟩) : RunsU P C ops rs tail ((i, o) :: rest) k R ⟨env, σ⟩ := by
  refine ⟨v, .inr (.inl ⟨p, r, hr, hi, hp, hg, by rw [hd]; rfl, hm⟩), ?_⟩
  rw [hd, show (⟨env, σ⟩ : St).env = env from rfl, ← look_putE]
  exact hk.run
theorem RunsU.lay {p : Nat} {r : RE} (hr : rs[p]? = some r) (hp : r.pre = some (i, t)) (hg : o.guard = none) (hd : o.dst = some t) (hm : MkN P C o (look env) ⟨r.t, r.sz, []⟩ (σ.length + p) (.own (σ.length + p))) (hk : RunsU P C ops rs tail rest k R ⟨(t, .junk) :: env, σ⟩) : RunsU P C ops rs tail ((i, o) :: rest) k R ⟨env, σ⟩ := by
  refine ⟨.junk, .inr (.inr (.inl ⟨p, r, t, hr, hp, hg, hd, hm, rfl⟩)), ?_⟩
  rw [hd, show (⟨env, σ⟩ : St).env = env from rfl, ← look_putE]
  exact hk.run
theorem RunsU.gro {p j s : Nat} {r : RE} (hr : rs[p]? = some r) (hi : r.idx = i) (hp : r.pre = some (j, s)) (hg : o.guard = none) (hd : o.dst = some t) (hm : MkQ P C o (look env) r s (σ.length + p)) (hk : RunsU P C ops rs tail rest k R ⟨(t, .own (σ.length + p)) :: env, σ⟩) : RunsU P C ops rs tail ((i, o) :: rest) k R ⟨env, σ⟩ := by
  refine ⟨.own (σ.length + p), .inr (.inr (.inr ⟨p, r, j, s, hr, hi, hp, hg, by rw [hd]; rfl, hm, rfl⟩)), ?_⟩
  rw [hd, show (⟨env, σ⟩ : St).env = env from rfl, ← look_putE]
  exact hk.run
variable {E : EE} {q : Nat} {ty : TypeId} {pos : String} {after : Array Edge}
theorem mk_alloc {e : TypeId} {zs : List Value} (hz : TZ P e zs) : MkN P C ⟨some t, .alloc e, ty, pos, after, none⟩ E ⟨e, 0, (zs.map RV.c).map .ro⟩ q (.obj q 0) := by
  refine ⟨.inr rfl, fun a w φ σ hG hq hφ _ K Q hK => ?_⟩
  have hql : q < σ.length := (List.getElem?_eq_some_iff.1 hq).1
  obtain ⟨inf, z, h1, h2, h3, h4⟩ := hz.h
  unfold Oper.wp
  have hrun : (execOp a.eval ⟨some t, .alloc e, ty, pos, after, none⟩).run P w = .ok (.value (.pointer (some ⟨w.heap.size, 0, none⟩))) (w.alloc (.cells zs.toArray e)) := by
    simp [execOp, Instr.alloc, zeroValue, typeInfo, h1, h2, newVar, newRow, newObj, h3]; rfl
  rw [hrun]
  simp only [Oper.upon]
  refine hK _ _ w.heap.size (below_one w _) (Nat.le_refl _) ?_ ?_
  · simp only [ObRel]
    refine ⟨zs.toArray, heap_alloc_new w _, by simp, fun j v hj => ?_⟩
    rw [List.getElem?_map, List.getElem?_map, Option.map_eq_some_iff] at hj
    obtain ⟨y, hy, rfl⟩ := hj
    rw [Option.map_eq_some_iff] at hy
    obtain ⟨x, hx, rfl⟩ := hy
    exact ⟨x, by simpa using hx, h4 x (List.mem_of_getElem? hx), by simp [AV.rel, RV.rel]⟩
  · simp only [AV.rel]
    exact ⟨by simpa using hql, w.heap.size, upd_eq, rfl⟩
theorem mk_build0 {tt e : TypeId} {z : Value} {sz bytes : Nat} [hs : SL P tt e z sz bytes] : MkN P C ⟨some t, .buildSlice tt 0 #[], ty, pos, after, none⟩ E ⟨e, sz, []⟩ q (.own q) := by
  refine ⟨.inl rfl, fun a w φ σ hG hq hφ _ K Q hK => ?_⟩
  have hql : q < σ.length := (List.getElem?_eq_some_iff.1 hq).1
  unfold Oper.wp
  have hrun : (execOp a.eval ⟨some t, .buildSlice tt 0 #[], ty, pos, after, none⟩).run P w = .ok (.value (.slice (some ⟨w.heap.size, 0, none⟩) 0 0)) (w.alloc (.cells #[] e)) := by
    simp only [execOp, Sem.run_bind]; rw [show (#[] : Array (Nat × Operand)).map (fun p => (p.1, a.eval p.2)) = #[] from by simp, run_build0 (P := P) (tt := tt) w]; rfl
  rw [hrun]
  simp only [Oper.upon]
  refine hK _ _ w.heap.size (below_one w _) (Nat.le_refl _) ?_ ?_
  · simp only [ObRel]
    exact ⟨#[], heap_alloc_new w _, by simp, fun j v hj => by simp at hj⟩
  · simp only [AV.rel]
    exact ⟨⟨e, sz, []⟩, 0, List.getElem?_set_self hql, by simp, hs.el.hs, .inr ⟨w.heap.size, 0, _, upd_eq, rfl, heap_alloc_new w _, Nat.le_refl _, Nat.zero_le _, by simp⟩⟩
theorem mk_make0 {tt e : TypeId} {z : Value} {sz bytes n : Nat} {x y : Operand} {kd kd' : IntKind} [hs : SL P tt e z sz bytes] (hx : evE E x = .ro (.c (.int kd 0))) (hy : evE E y = .ro (.c (.int kd' (n : Int))))
    (b2 : bytes * n ≤ 281474976710656) (b3 : n ≤ maxLen) : MkN P C ⟨some t, .makeSlice tt x y, ty, pos, after, none⟩ E ⟨e, sz, []⟩ q (.own q) := by
  refine ⟨.inl rfl, fun a w φ σ hG hq hφ hH K Q hK => ?_⟩
  have hql : q < σ.length := (List.getElem?_eq_some_iff.1 hq).1
  obtain ⟨i, hi, hz0, hsz, hb⟩ := hs.el.hi
  have hbb : (i.bytes : Int) * (n : Int) ≤ 281474976710656 := by
    rw [hb]
    have h : ((bytes * n : Nat) : Int) ≤ 281474976710656 := by omega
    rwa [Int.natCast_mul] at h
  have hr := run_make (P := P) w tt e i z hs.el.ht hi hz0 kd kd' 0 n (by omega) (by omega) hbb (by simp [maxLen] at b3; omega)
  simp only [Int.toNat_natCast, hsz] at hr
  have h1 := hH x (by simp [Op.operands])
  have h2 := hH y (by simp [Op.operands])
  rw [hx] at h1; rw [hy] at h2
  simp only [AV.rel, RV.rel] at h1 h2
  unfold Oper.wp
  have hrun : (execOp a.eval ⟨some t, .makeSlice tt x y, ty, pos, after, none⟩).run P w = .ok (.value (slv w.heap.size 0 n)) (w.alloc (.cells (madeCells z.cells (n * sz)) e)) := by
    simp only [execOp, h1, h2, Sem.run_bind, hr, Result.andThen]; rfl
  rw [hrun]
  simp only [Oper.upon]
  refine hK _ _ w.heap.size (below_one w _) (Nat.le_refl _) ?_ ?_
  · simp only [ObRel]
    exact ⟨_, heap_alloc_new w _, by simp, fun j v hj => by simp at hj⟩
  · simp only [AV.rel]
    exact ⟨⟨e, sz, []⟩, 0, List.getElem?_set_self hql, by simp, hs.el.hs, .inr ⟨w.heap.size, n, _, upd_eq, rfl, heap_alloc_new w _, Nat.zero_le _, b3, by simp [size_madeCells]⟩⟩
theorem mk_append {tt e : TypeId} {z : Value} {sz bytes s j : Nat} {els : List (List RV)} {y : Operand} {i : Nat} [hs : SL P tt e z sz bytes] (hy : evE E y = .ro (.seq sz els)) (b1 : els.length ≤ 140737488355328) (b2 : els.length * bytes ≤ 140737488355328) :
    MkQ P C ⟨some t, .call { callee := .builtin .append, args := #[.tmp s, y], argTypes := #[tt, tt] }, ty, pos, after, none⟩ E ⟨i, some (j, s), e, sz, els.flatten⟩ s q := by
  intro a w φ σ hG hq hown hfree hH K Q hK
  obtain ⟨A, n0, c, xs, hu, hl, hsz, hrow, hblk, hcell⟩ := own_row hG hq hown
  simp only [List.length_nil] at hl
  have hn0 : n0 = 0 := by
    rcases Nat.mul_eq_zero.1 hl.symm with h | h
    · exact h
    · have h' : sz = 0 := h
      have hsz' : 0 < sz := hsz
      omega
  subst hn0
  have hyr := hH y (by simp [Op.operands, Call.operands])
  rw [hy] at hyr
  simp only [AV.rel] at hyr
  obtain ⟨B, m, d, hv⟩ : ∃ B m d, a.eval y = .slice B m d := by simp only [RV.rel] at hyr; obtain ⟨B, m, d, e, _⟩ := hyr; exact ⟨B, m, d, e⟩
  rw [hv] at hyr
  obtain ⟨hm, ys, hRd, hy1, hyl, hyr'⟩ := seq_rd hyr
  subst hm
  rw [hu] at hrow
  simp only at hrow hsz
  obtain ⟨A', c', w', hrun, happ⟩ := run_app (P := P) hs.el ty 0 A 0 c xs hrow B els.length d ys hRd hy1 (by unfold maxLen; omega) (by rw [Nat.zero_add]; exact b2) (Nat.zero_le _)
  have hflat : els.flatten.length = els.length * sz := by rw [← hyl]; exact hRd.1
  have hxl : xs.length = 0 := by rw [hrow.1]; omega
  rw [hu] at hblk
  have happg := happ.grown
  have hapl := happ.lies
  rw [hblk] at happg hapl
  obtain ⟨g1, g2, g3⟩ := good_append (rs := []) (news := els.flatten) (n' := 0 + els.length) hG hq rfl hfree hsz (by rw [List.nil_append, Nat.zero_add]; exact hflat) happ.own happg hapl (fun j r hj => by
    obtain ⟨x', e1, e3⟩ := hyr' j r (by simpa using hj)
    exact ⟨x', by rw [List.getElem?_append_right (by omega), hxl]; exact e1, hy1 x' (List.mem_of_getElem? e1), e3⟩)
  have hs' : a.eval (.tmp s) = .slice A 0 c := hu
  unfold Oper.wp execOp
  simp only [resolve, invoke, builtin, Sem.run_bind, Sem.run_pure, Result.andThen_ok, List.map_toArray, List.map_cons, List.map_nil, hs', hv, hrun, Oper.upon]
  exact hK _ _ _ g1 g2 g3
end
end Go.Proofs.Ytnecoghfhcimeaa
/- Struct literals. Over any program. -/
namespace Go.Proofs.Ytnecoghfhcimeaa
set_option linter.unusedSimpArgs false
set_option linter.unusedVariables false
open Go.RowKit
open AV (Mem Keeps)
class TB (P : Program) (t : TypeId) (pl : outParam (List (Nat × Nat))) (zs : outParam (List Value)) : Prop where
  h : ∃ it fields z, P.info? t = some it ∧ P.underlying t = some (.struct fields) ∧ it.zero = some z ∧ z.cells = zs.toArray ∧ fields.toList.mapM (fun f => (P.info? f.type).map fun i => (f.offset, i.size)) = some pl ∧ ∀ x ∈ zs, x.oneCell' = true
def fillA (pl : List (Nat × Nat)) (env : Env) : List AV → List (Nat × Operand) → Option (List AV)
  | cells, [] => some cells
  | cells, (i, x) :: l => match pl[i]? with
    | some (off, size) => match cells? (ev env x) with
      | some cs => match Nat.beq cs.length size, Nat.ble (off + size) cells.length with
        | true, true => fillA pl env (setsAt cells off cs) l
        | _, _ => none
      | none => none
    | none => none
def aggOf (vs : List AV) : AV := match allRo vs with
  | some rs => .ro (.agg rs)
  | none => .agg vs
theorem sets_array {m : Mem} : ∀ (us : List Value) (k : Nat) (cells : Array Value) (off : Nat) (cs vs : List AV), us.length = cs.length → (∀ (j : Nat) x, cs[j]? = some x → ∃ y, us[j]? = some y ∧ y.oneCell' = true ∧ AV.rel m x y) →
    off + k + cs.length ≤ vs.length → cells.size = vs.length → (∀ (j : Nat) x, vs[j]? = some x → ∃ y, cells[j]? = some y ∧ y.oneCell' = true ∧ AV.rel m x y) →
    ((us.zipIdx k).foldl (fun cs (c, j) => cs.setIfInBounds (off + j) c) cells).size = vs.length ∧ ∀ (j : Nat) x, (setsAt vs (off + k) cs)[j]? = some x → ∃ y, ((us.zipIdx k).foldl (fun cs (c, j) => cs.setIfInBounds (off + j) c) cells)[j]? = some y ∧ y.oneCell' = true ∧ AV.rel m x y
  | [], k, cells, off, cs, vs, hl, hc, hle, hs, hv => by
    have : cs = [] := List.eq_nil_of_length_eq_zero (by simpa using hl.symm)
    subst this
    exact ⟨hs, hv⟩
  | u :: us, k, cells, off, [], vs, hl, hc, hle, hs, hv => by simp at hl
  | u :: us, k, cells, off, c :: cs, vs, hl, hc, hle, hs, hv => by
    simp only [List.length_cons] at hl hle
    rw [List.zipIdx_cons, List.foldl_cons, setsAt]
    have := sets_array us (k + 1) (cells.setIfInBounds (off + k) u) off cs (vs.set (off + k) c) (by omega) (fun j x hj => hc (j + 1) x (by simpa using hj)) (by simp; omega) (by simpa using hs) (fun j x hj => by
      rw [List.getElem?_set] at hj
      split at hj
      · rename_i e
        subst e
        split at hj
        · injection hj with hj; subst hj
          obtain ⟨y, e1, e2, e3⟩ := hc 0 c (by simp)
          simp only [List.getElem?_cons_zero, Option.some.injEq] at e1
          subst e1
          exact ⟨u, Array.getElem?_setIfInBounds_self_of_lt (by omega), e2, e3⟩
        · cases hj
      · rename_i e
        obtain ⟨y, e1, e2, e3⟩ := hv j x hj
        exact ⟨y, by rw [Array.getElem?_setIfInBounds_ne e]; exact e1, e2, e3⟩)
    rw [List.length_set] at this
    rwa [show off + (k + 1) = off + k + 1 by omega] at this
theorem fillA_ok {m : Mem} {env : Env} {a : Act} {pl : List (Nat × Nat)} : ∀ (l : List (Nat × Operand)) (vs vs' : List AV) (cells : Array Value), (∀ p ∈ l, AV.rel m (ev env p.2) (a.eval p.2)) → cells.size = vs.length → (∀ (j : Nat) x, vs[j]? = some x → ∃ y, cells[j]? = some y ∧ y.oneCell' = true ∧ AV.rel m x y) →
    fillA pl env vs l = some vs' → ∃ cells', Instr.fill (pl.toArray[·]?) cells (l.map fun p => (p.1, a.eval p.2)) = some cells' ∧ cells'.size = vs'.length ∧ ∀ (j : Nat) x, vs'[j]? = some x → ∃ y, cells'[j]? = some y ∧ y.oneCell' = true ∧ AV.rel m x y
  | [], vs, vs', cells, _, hs, hv, h => by
    simp only [fillA, Option.some.injEq] at h
    subst h
    exact ⟨cells, rfl, hs, hv⟩
  | (i, x) :: l, vs, vs', cells, hH, hs, hv, h => by
    unfold fillA at h
    split at h
    · rename_i off size hp
      split at h
      · rename_i cs hc
        split at h
        · rename_i hb1 hb2
          have e1 := Nat.eq_of_beq_eq_true hb1
          have e2 := Nat.le_of_ble_eq_true hb2
          obtain ⟨c1, c2⟩ := cells_rel (hH (i, x) (by simp)) hc
          obtain ⟨k1, k2⟩ := sets_array (m := m) (a.eval x).cells.toList 0 cells off cs vs (by simpa using c1) (fun j y hj => by simpa using c2 j y hj) (by omega) hs hv
          rw [Nat.add_zero] at k2
          obtain ⟨cells', q1, q2⟩ := fillA_ok l _ vs' _ (fun p hp => hH p (by simp [hp])) (by rw [setsAt_len]; exact k1) k2 h
          refine ⟨cells', ?_, q2⟩
          simp only [List.map_cons, Instr.fill]
          have : pl.toArray[i]? = some (off, size) := by simpa using hp
          rw [this]
          simp only
          have c1' : (a.eval x).cells.size = cs.length := c1
          rw [if_neg (by rw [c1']; simp; omega), ← q1]
          congr 1
          rw [← Array.foldl_toList, Array.toList_zipIdx]
        · cases h
      · cases h
    · cases h
section
variable {P : Program} {C : Ctx} {env : Env} {σ : List Ob} {t : Nat} {ty : TypeId} {pos : String} {after : Array Edge} {gd : Option (Nat × Bool)}
theorem pu_buildS {tt : TypeId} {parts : Array (Nat × Operand)} {pl : List (Nat × Nat)} {zs : List Value} {vs : List AV} [hb : TB P tt pl zs] (h : fillA pl env (zs.map fun v => .ro (.c v)) parts.toList = some vs) :
    Pur P C ⟨some t, .build tt parts, ty, pos, after, gd⟩ env σ (aggOf vs) :=
  Pur.of (fun a m hG hσ hH => by
    obtain ⟨it, fields, z, h1, h2, h3, h4, h5, h6⟩ := hb.h
    obtain ⟨cells', q1, q2, q3⟩ := fillA_ok (m := m) (a := a) parts.toList _ vs zs.toArray (fun p hp => hH p.2 (by simp [Op.operands]; exact ⟨p.1, by simpa using hp⟩)) (by simp) (fun j x hj => by
      rw [List.getElem?_map, Option.map_eq_some_iff] at hj
      obtain ⟨y, hy, rfl⟩ := hj
      exact ⟨y, by simpa using hy, h6 y (List.mem_of_getElem? hy), by simp [AV.rel, RV.rel]⟩) h
    have hbt : P.built tt (parts.map fun p => (p.1, a.eval p.2)).toList = some cells' := by
      unfold Program.built
      simp only [h1, h2, h3, h5, h4]
      rw [Array.toList_map]
      exact q1
    refine ⟨.agg cells', by simp only [execOp]; exact by simp [run_build m.w tt _ _ hbt], ?_⟩
    have hrel : AV.rels m vs cells'.toList := AV.rels_of _ _ (by simpa using q2) fun j r u hj hu => by
      obtain ⟨y, e1, _, e3⟩ := q3 j r hj
      have : y = u := by simpa [e1] using hu
      rwa [this] at e3
    unfold aggOf
    split
    · rename_i rs hrs
      rw [allRo_eq hrs] at hrel
      simp only [AV.rel, RV.rel]
      exact ⟨_, rfl, rels_ro_inv _ _ hrel⟩
    · simp only [AV.rel]
      exact ⟨_, rfl, hrel⟩)
end
end Go.Proofs.Ytnecoghfhcimeaa
/- impl.CopyValue, spec.CopyValue. -/
namespace Go.Proofs.Ytnecoghfhcimeaa
set_option linter.unusedSimpArgs false
set_option linter.unusedVariables false
open Go.RowKit
open AV (Mem Keeps)
def waitsC (o : Oper) (i : Nat) : Bool := o.after.any fun e => (match e.ground with | .data => true | _ => false) && Nat.beq e.on i
theorem waitsC_spec {o : Oper} {i : Nat} (h : waitsC o i = true) : ∃ e ∈ o.after, (∀ md, Region.binds md e = true) ∧ e.on = i := by
  unfold waitsC at h
  obtain ⟨e, he, hb⟩ := Array.any_eq_true'.1 h
  rw [Bool.and_eq_true] at hb
  refine ⟨e, he, fun md => ?_, Nat.eq_of_beq_eq_true hb.2⟩
  cases hg : e.ground <;> rw [hg] at hb <;> simp at hb
  cases md <;> simp [Region.binds, hg]
theorem staged_lateC {rs : ResU} {n : Nat} {o : Oper} {v : AV} (h : ((rs.map RE.key).all fun k => k.2.isNone || waitsC o k.1) = true) (hm : isMv o = false) : staged rs n o v := fun p r hp hr => .inr ⟨hm, by
  have := List.all_eq_true.1 h r.key (List.mem_map_of_mem (List.mem_of_getElem? hp))
  rw [Bool.or_eq_true] at this
  rcases this with h1 | h1
  · rw [show r.key.2 = r.pre from rfl] at h1
    cases hx : r.pre with
    | none => rw [hx] at hr; cases hr
    | some x => rw [hx] at h1; cases h1
  · exact waitsC_spec h1⟩
def aggC : Value → List RV
  | .agg us => us.toList.map .c
  | v => [.c v]
theorem onlys_cs (p : Nat → Prop) : ∀ us : List Value, AV.onlys p (us.map fun u => .ro (.c u))
  | [] => by simp [AV.onlys]
  | u :: us => by simp only [List.map_cons, AV.onlys, AV.only]; exact ⟨trivial, onlys_cs p us⟩
theorem onlys_rv (p : Nat → Prop) : ∀ rs : List RV, AV.onlys p (rs.map .ro)
  | [] => by simp [AV.onlys]
  | r :: rs => by simp only [List.map_cons, AV.onlys, AV.only]; exact ⟨trivial, onlys_rv p rs⟩
theorem u8_flat : ∀ l : List UInt8, ((l.map fun z => [RV.u8 z]).flatten).map AV.ro = (l.map fun z : UInt8 => Value.int .u8 (z.toNat : Int)).map fun u => AV.ro (.c u)
  | [] => rfl
  | z :: l => by simp only [List.map_cons, List.flatten_cons, List.singleton_append]; rw [u8_flat l]; first | done | rfl
def cpS (v : Tre) (us : List Value) : List Ob := [⟨29, 0, [.int v.number, .ro (bytesR v.bytes), .ro (tresR v.items)]⟩, ⟨29, 0, [.int 0, .nil, .nil]⟩, ⟨5, 1, ((v.bytes.map fun z => [RV.u8 z]).flatten).map .ro⟩, ⟨29, 3, us.map fun u => .ro (.c u)⟩, ⟨29, 0, [.int v.number, .own 2, .own 3]⟩]
theorem RunsA.withTail {P : Program} {C : Ctx} {l : List Oper} {k : List Item} {R : Act → World → Prop} {f : Nat} {listed : Array Bool} {S : St} (n : Nat) (σ : List Ob) (X : Ctx → Value → Prop) (E : Value → Env) (tail : ∀ C1 u, X C1 u → RunsL P C1 l.toArray (l.drop n) k R ⟨E u, σ⟩)
    (h : (∀ C1 u env, X C1 u → Sub (E u) env → RunsL P C1 l.toArray (l.drop n) k R ⟨env, σ⟩) → RunsA P C l k R f listed S) : RunsA P C l k R f listed S := h fun C1 u env hX hE => RunsL.keep (E u) hE (tail C1 u hX)
set_option maxRecDepth 100000 in
instance tb_value : TB Try.prog 29 [(0, 1), (1, 1), (2, 1)] [.int .i64 0, .slice none 0 0, .slice none 0 0] := ⟨_, _, _, rfl, rfl, rfl, rfl, by kernel_rfl, by decide⟩
set_option maxHeartbeats 16000000 in
theorem impl_CopyValue : ∀ v : Tre, v.total ≤ 1048576 → ACo Try.prog 13 [treR v] (treO v) := by
  refine Tre.ind fun v ih ht => ?_
  have he := v.total_eq
  have hb : (v.bytes.map fun z => [RV.u8 z]).length = v.bytes.length := List.length_map ..
  have hl' : (v.items.map Tre.cells).length = v.items.length := List.length_map ..
  refine aco_enter Try.func13 rfl _ Try.ntmps13 (by simp) fun C0 hn hm => ?_
  have hn0 := hn
  repeat' (first
 | refine Runs.toDrawV (id := 1) 30 [] [0, 1, 2, 3, 4, 5, 6, 7, 8, 9, 10, 11] 12 [⟨5, some (2, 8), 5, 1, (v.bytes.map fun z => [RV.u8 z]).flatten⟩, ⟨9, none, 29, 3, []⟩, ⟨11, none, 29, 0, [Value.int .i64 0, .slice none 0 0, .slice none 0 0].map RV.c⟩] mixed hn rfl (by kernel_rfl) rfl rfl (by kernel_rfl) ?_
 | refine RunsL.step tabOk hn rfl ?_
 | refine RunsL.nil ?_
 | refine Runs.toRegion 30 rfl ?_
 | (refine Runs.ctls 30 rfl ?_; first | ((first | refine Runs.cond_yes rfl ?_ ?_ | refine Runs.cond_nno rfl ?_ ?_); · first | omega | rfl | assumption | (simp only [List.length_map]; omega)) | ((first | refine Runs.cond_no rfl ?_ ?_ | refine Runs.cond_nyes rfl ?_ ?_); · first | omega | rfl | assumption | (simp only [List.length_map]; omega)) | refine Runs.ret (ends_ro hm rfl rfl ?_) | exact Runs.ret (ends_cellR hm rfl rfl rfl (Nat.le_of_ble_eq_true rfl) rfl rfl))
 | refine op_box rfl (tl hn rfl) ?_
 | refine op_storeF rfl rfl rfl rfl (Nat.le_of_ble_eq_true rfl) ?_
 | refine op_alloc (tl hn rfl) ?_
 | refine op_storeN rfl rfl rfl rfl (Nat.le_of_ble_eq_true rfl) ?_
 | ((first | refine RunsL.pe hn rfl rfl rfl ?_ | refine RunsD.pe rfl rfl ?_); first
 | refine ⟨_, pu_add rfl rfl (by omega), ?_⟩
 | refine ⟨_, pu_indexAddr_map rfl rfl (by omega) (by assumption), ?_⟩
 | refine ⟨_, pu_sub rfl rfl (by omega), ?_⟩
 | refine ⟨_, pu_pick_b rfl rfl rfl, ?_⟩
 | refine ⟨_, pu_mul rfl rfl (by omega), ?_⟩
 | refine ⟨_, pu_build rfl rfl rfl rfl rfl rfl, ?_⟩))
  have hz : TZ Try.prog 29 [.int .i64 0, .slice none 0 0, .slice none 0 0] := inferInstance
  refine RunsU.step tabOk rfl rfl (fun _ => rfl) rfl (fun p r hp hr => .inl (by simp [AV.only, AV.onlys] <;> omega)) ?_
  refine RunsU.step tabOk rfl rfl (fun _ => rfl) rfl (fun p r hp hr => .inl (by simp [AV.only, AV.onlys] <;> omega)) ?_
  refine RunsU.lay (t := 8) (p := 0) rfl rfl rfl rfl mk_build0 ?_
  refine RunsU.step tabOk rfl rfl (fun _ => rfl) rfl (fun p r hp hr => .inl (by simp [AV.only, AV.onlys] <;> omega)) ?_
  refine RunsU.step tabOk rfl rfl (fun _ => rfl) rfl (fun p r hp hr => .inl (by simp [AV.only, AV.onlys] <;> omega)) ?_
  refine RunsU.gro (t := 11) (p := 0) rfl rfl rfl rfl rfl (mk_append (els := v.bytes.map fun z => [RV.u8 z]) rfl (by omega) (by omega)) ?_
  refine RunsU.step tabOk rfl rfl (fun _ => rfl) rfl (fun p r hp hr => .inl (by simp [AV.only, AV.onlys] <;> omega)) ?_
  refine RunsU.step tabOk rfl rfl (fun _ => rfl) rfl (fun p r hp hr => .inl (by simp [AV.only, AV.onlys] <;> omega)) ?_
  refine RunsU.pur (fun _ => pu_len_seqN v.items.length rfl hl') rfl (fun p r hp hr => .inl (by simp [AV.only, AV.onlys] <;> omega)) rfl rfl ?_
  refine RunsU.made (t := 15) (p := 1) rfl rfl rfl rfl rfl (mk_make0 (n := v.items.length) rfl rfl (by omega) (by unfold maxLen; omega)) ?_
  refine RunsU.pur (fun _ => pu_buildS rfl) rfl (staged_lateC (by kernel_rfl) rfl) rfl rfl ?_
  refine RunsU.made (t := 3) (p := 2) rfl rfl rfl rfl rfl (mk_alloc (zs := [.int .i64 0, .slice none 0 0, .slice none 0 0]) inferInstance) ?_
  refine RunsU.nil ?_
  repeat' (first
 | refine RunsL.step tabOk hn rfl ?_
 | refine RunsL.nil ?_
 | refine Runs.toRegion 30 rfl ?_
 | ((first | refine RunsL.pe hn rfl rfl rfl ?_ | refine RunsD.pe rfl rfl ?_); first
 | refine ⟨_, pu_len_seqN v.items.length rfl hl', ?_⟩)
 | (refine Runs.ctls 30 rfl ?_; first | ((first | refine Runs.cond_yes rfl ?_ ?_ | refine Runs.cond_nno rfl ?_ ?_); · first | omega | rfl | assumption | (simp only [List.length_map]; omega)) | ((first | refine Runs.cond_no rfl ?_ ?_ | refine Runs.cond_nyes rfl ?_ ?_); · first | omega | rfl | assumption | (simp only [List.length_map]; omega)) | refine Runs.ret (ends_ro hm rfl rfl ?_) | exact Runs.ret (ends_cellR hm rfl rfl rfl (Nat.le_of_ble_eq_true rfl) rfl rfl))
 | refine op_box rfl (tl hn rfl) ?_
 | refine op_storeF rfl rfl rfl rfl (Nat.le_of_ble_eq_true rfl) ?_
 | refine op_alloc (tl hn rfl) ?_
 | refine op_storeN rfl rfl rfl rfl (Nat.le_of_ble_eq_true rfl) ?_
 | ((first | refine RunsL.pe hn rfl rfl rfl ?_ | refine RunsD.pe rfl rfl ?_); first
 | refine ⟨_, pu_add rfl rfl (by omega), ?_⟩
 | refine ⟨_, pu_indexAddr_map rfl rfl (by omega) (by assumption), ?_⟩
 | refine ⟨_, pu_sub rfl rfl (by omega), ?_⟩
 | refine ⟨_, pu_pick_b rfl rfl rfl, ?_⟩
 | refine ⟨_, pu_mul rfl rfl (by omega), ?_⟩
 | refine ⟨_, pu_build rfl rfl rfl rfl rfl rfl, ?_⟩))
  refine Runs.ctls 30 rfl (Runs.keep [(2, .obj 1 0), (3, .obj 4 0), (18, .ro (tresR v.items)), (19, .int ((v.items.map Tre.cells).length : Int)), (20, .int 0)] ⟨rfl, rfl, rfl, rfl, rfl, trivial⟩ ?_)
  refine Runs.loopV (fun n C S => ∃ (j : Nat) (us : List Value) (bs : List Nat), j + n = v.items.length ∧ C.n = C0.n ∧ Sc C0 C ∧ OV.rels C.w0 ((v.items.take j).flatMap treOs) us bs ∧ (∀ b ∈ bs, b < C.w0.heap.size ∧ ¬ C.mu b ∧ ¬ C.ok b) ∧ bs.Nodup ∧ (∀ b ∈ bs, C0.w0.heap.size ≤ b) ∧ S = ⟨[(2, .obj 1 0), (3, .obj 4 0), (18, .ro (tresR v.items)), (19, .int ((v.items.map Tre.cells).length : Int)), (20, .int (j : Int))], cpS v us⟩) ?_ v.items.length C0 _ ⟨0, [], [], by omega, rfl, Sc.start hm, by simp [OV.rels], by simp, by simp, by simp, rfl⟩
  rintro n C S ⟨j, us, bs, hj, hn, hsc, hov, hfix, hnd, hnew, rfl⟩ ih'
  have hn := hn.trans hn0
  have hul := OV.rels_len _ _ _ hov
  rw [tresO_len, List.length_take, Nat.min_eq_left (by omega)] at hul
  by_cases hlt : j < v.items.length
  · obtain ⟨x, hx⟩ : ∃ x, v.items[(j : Int).toNat]? = some x := ⟨_, List.getElem?_eq_getElem hlt⟩
    have hx' : v.items[j]? = some x := hx
    have hm' := List.mem_of_getElem? hx'
    have hcall := ih x hm' (Nat.le_trans (sum_mem_le Tre.total hm') (by omega))
    let X : Ctx → Value → Prop := fun C1 u => ∃ b1, Nx C C1 [] ∧ Gh C1 (treO x) u b1 ∧ b1.Nodup ∧ ∀ b ∈ b1, C.w0.heap.size ≤ b
    repeat' (first
 | refine Runs.toTree (id := 5) 30 mixed rfl ?_
 | refine RunsL.step tabOk hn rfl ?_
 | refine RunsL.nil ?_
 | refine Runs.toRegion 30 rfl ?_
 | ((first | refine RunsL.pe hn rfl rfl rfl ?_ | refine RunsD.pe rfl rfl ?_); first
 | refine ⟨_, pu_loadN_eq rfl (Tre.cells_eq _) rfl, ?_⟩)
 | (refine Runs.ctls 30 rfl ?_; first | ((first | refine Runs.cond_yes rfl ?_ ?_ | refine Runs.cond_nno rfl ?_ ?_); · first | omega | rfl | assumption | (simp only [List.length_map]; omega)) | ((first | refine Runs.cond_no rfl ?_ ?_ | refine Runs.cond_nyes rfl ?_ ?_); · first | omega | rfl | assumption | (simp only [List.length_map]; omega)) | refine Runs.ret (ends_ro hm rfl rfl ?_) | exact Runs.ret (ends_cellR hm rfl rfl rfl (Nat.le_of_ble_eq_true rfl) rfl rfl))
 | refine op_box rfl (tl hn rfl) ?_
 | refine op_storeF rfl rfl rfl rfl (Nat.le_of_ble_eq_true rfl) ?_
 | refine op_alloc (tl hn rfl) ?_
 | refine op_storeN rfl rfl rfl rfl (Nat.le_of_ble_eq_true rfl) ?_
 | ((first | refine RunsL.pe hn rfl rfl rfl ?_ | refine RunsD.pe rfl rfl ?_); first
 | refine ⟨_, pu_add rfl rfl (by omega), ?_⟩
 | refine ⟨_, pu_indexAddr_map rfl rfl (by omega) (by assumption), ?_⟩
 | refine ⟨_, pu_sub rfl rfl (by omega), ?_⟩
 | refine ⟨_, pu_pick_b rfl rfl rfl, ?_⟩
 | refine ⟨_, pu_mul rfl rfl (by omega), ?_⟩
 | refine ⟨_, pu_build rfl rfl rfl rfl rfl rfl, ?_⟩))
    refine RunsA.withTail 5 (cpS v us ++ [⟨29, 0, [.int x.number, .ro (bytesR x.bytes), .ro (tresR x.items)]⟩]) X (fun u => [(2, .obj 1 0), (3, .obj 4 0), (18, .ro (tresR v.items)), (19, .int ((v.items.map Tre.cells).length : Int)), (20, .int (j : Int)), (25, .own 3), (28, .ro (.seq 3 [aggC u]))]) ?_ fun tail => ?_
    · rintro C1 u ⟨b1, nx1, gh1, nd1, new1⟩
      have hn := nx1.n.trans hn
      have hz1 := nx1.size
      have hrel := gh1.rel
      simp only [treO, OV.rel] at hrel
      obtain ⟨vs, rfl, hvs⟩ := hrel
      have hvl := OV.rels_len _ _ _ hvs
      rw [treOs_len] at hvl
      refine RunsL.junk 4 2 rfl (op_append (t := 29) (i := 3) (n := j) (rs := us.map .c) (els := [vs.toList.map .c]) rfl rfl (by rw [List.map_map]; rfl) rfl rfl rfl (by rw [List.length_map]; omega) (FreeI.at_ (i := 3) ⟨by simp [AV.onlys, AV.only], by simp [AV.onlys, AV.only], onlys_rv _ _, onlys_cs _ _, by simp [AV.onlys, AV.only], by simp [AV.onlys, AV.only], trivial⟩) (by simp; omega) (by simp; omega) (tl hn rfl) ?_)
      repeat' (first
 | refine RunsL.step tabOk hn rfl ?_
 | refine RunsL.nil ?_
 | refine Runs.toRegion 30 rfl ?_
 | (refine Runs.ctls 30 rfl ?_; first | ((first | refine Runs.cond_yes rfl ?_ ?_ | refine Runs.cond_nno rfl ?_ ?_); · first | omega | rfl | assumption | (simp only [List.length_map]; omega)) | ((first | refine Runs.cond_no rfl ?_ ?_ | refine Runs.cond_nyes rfl ?_ ?_); · first | omega | rfl | assumption | (simp only [List.length_map]; omega)) | refine Runs.ret (ends_ro hm rfl rfl ?_) | exact Runs.ret (ends_cellR hm rfl rfl rfl (Nat.le_of_ble_eq_true rfl) rfl rfl))
 | refine op_box rfl (tl hn rfl) ?_
 | refine op_storeF rfl rfl rfl rfl (Nat.le_of_ble_eq_true rfl) ?_
 | refine op_alloc (tl hn rfl) ?_
 | refine op_storeN rfl rfl rfl rfl (Nat.le_of_ble_eq_true rfl) ?_
 | ((first | refine RunsL.pe hn rfl rfl rfl ?_ | refine RunsD.pe rfl rfl ?_); first
 | refine ⟨_, pu_add rfl rfl (by omega), ?_⟩
 | refine ⟨_, pu_indexAddr_map rfl rfl (by omega) (by assumption), ?_⟩
 | refine ⟨_, pu_sub rfl rfl (by omega), ?_⟩
 | refine ⟨_, pu_pick_b rfl rfl rfl, ?_⟩
 | refine ⟨_, pu_mul rfl rfl (by omega), ?_⟩
 | refine ⟨_, pu_build rfl rfl rfl rfl rfl rfl, ?_⟩))
      have e1 : (us.map RV.c ++ [vs.toList.map RV.c].flatten).map AV.ro = (us ++ vs.toList).map fun u => AV.ro (.c u) := by simp; rfl
      refine Runs.ctls 30 rfl ?_
      refine Runs.keep [(2, .obj 1 0), (3, .obj 4 0), (18, .ro (tresR v.items)), (19, .int ((v.items.map Tre.cells).length : Int)), (20, .int ((j + 1 : Nat) : Int))] ⟨rfl, rfl, rfl, rfl, rfl, trivial⟩ ?_
      show Runs _ _ _ _ ⟨_, [⟨29, 0, [.int v.number, .ro (bytesR v.bytes), .ro (tresR v.items)]⟩, ⟨29, 0, [.int 0, .nil, .nil]⟩, ⟨5, 1, ((v.bytes.map fun z => [RV.u8 z]).flatten).map .ro⟩, ⟨29, 3, (us.map RV.c ++ [vs.toList.map RV.c].flatten).map AV.ro⟩, ⟨29, 0, [.int v.number, .own 2, .own 3]⟩] ++ [⟨29, 0, [.int x.number, .ro (bytesR x.bytes), .ro (tresR x.items)]⟩]⟩
      rw [e1]
      refine Runs.drop (σ := cpS v (us ++ vs.toList)) (show Free 5 _ by simp [Free, AV.only]) (show FreeO 5 _ from ⟨by simp [AV.onlys, AV.only], by simp [AV.onlys, AV.only], onlys_rv _ _, onlys_cs _ _, by simp [AV.onlys, AV.only], trivial⟩) ?_
      refine ih' (n - 1) (by omega) C1 _ ⟨j + 1, us ++ vs.toList, bs ++ b1, by omega, hn.trans hn0.symm, hsc.next nx1 (by simp), ?_, fun b hb => ?_, ?_, fun b hb => ?_, rfl⟩
      · have e : v.items.take (j + 1) = v.items.take j ++ [x] := by rw [List.take_add_one, hx']; rfl
        rw [e, List.flatMap_append]
        refine OV.rels_append _ _ _ _ _ _ (OV.rels_keep _ _ _ hov fun b hb => nx1.block b (hfix b hb).1 (hfix b hb).2.1 (by simp)) ?_
        simpa using hvs
      · rcases List.mem_append.1 hb with hb | hb
        · refine ⟨Nat.lt_of_lt_of_le (hfix b hb).1 hz1, fun hm => ?_, fun ho => (hfix b hb).2.2 (nx1.ok b ho)⟩
          rcases nx1.mu b hm with h1 | h1
          · exact (hfix b hb).2.1 h1
          · have := (hfix b hb).1; omega
        · exact gh1.fix b hb
      · exact nodup_two C.w0.heap.size hnd nd1 (fun y hy => (hfix y hy).1) new1
      · rcases List.mem_append.1 hb with hb | hb
        · exact hnew b hb
        · have := new1 b hb; have := hsc.below.size; omega
    · have hn' := hn
      refine RunsA.node [0, 2] (by kernel_rfl) rfl rfl ⟨?_, ?_, trivial⟩
      · refine StepA.pur (pu_fieldAddr_obj rfl) rfl (tl hn rfl) ?_
        refine RunsA.node [1, 2] (by kernel_rfl) rfl rfl ⟨?_, ?_, trivial⟩
        · refine StepA.pur (pu_load_obj rfl rfl rfl) rfl (tl hn rfl) ?_
          refine RunsA.node [2] (by kernel_rfl) rfl rfl ⟨?_, trivial⟩
          refine StepA.pur (pu_loadN_objR (rs := [.int x.number, bytesR x.bytes, tresR x.items]) rfl rfl rfl rfl) rfl (tl hn rfl) ?_
          refine RunsA.node [3] (by kernel_rfl) rfl rfl ⟨?_, trivial⟩
          refine StepA.callN hcall (.cons .ro .nil) (tl hn rfl) fun C1 u1 b1 nx1 gh1 nd1 new1 => ?_
          have hX : X C1 u1 := ⟨b1, nx1, gh1, nd1, new1⟩
          have hn := nx1.n.trans hn
          obtain ⟨A1, n1, c1, A2, n2, c2, rfl⟩ := tre_val gh1.rel
          refine RunsA.node [4] (by kernel_rfl) rfl rfl ⟨?_, trivial⟩
          refine StepA.pur (pu_build rfl rfl rfl rfl rfl rfl) rfl (tl hn rfl) ?_
          refine RunsA.seq 5 rfl (by kernel_rfl) ?_
          exact tail _ _ _ hX ⟨rfl, rfl, rfl, rfl, rfl, rfl, rfl, trivial⟩
        · refine StepA.pur (pu_loadN_objR (rs := [.int x.number, bytesR x.bytes, tresR x.items]) rfl rfl rfl rfl) rfl (tl hn rfl) ?_
          refine RunsA.node [1, 3] (by kernel_rfl) rfl rfl ⟨?_, ?_, trivial⟩
          · refine StepA.pur (pu_load_obj rfl rfl rfl) rfl (tl hn rfl) ?_
            refine RunsA.node [3] (by kernel_rfl) rfl rfl ⟨?_, trivial⟩
            refine StepA.callN hcall (.cons .ro .nil) (tl hn rfl) fun C1 u1 b1 nx1 gh1 nd1 new1 => ?_
            have hX : X C1 u1 := ⟨b1, nx1, gh1, nd1, new1⟩
            have hn := nx1.n.trans hn
            obtain ⟨A1, n1, c1, A2, n2, c2, rfl⟩ := tre_val gh1.rel
            refine RunsA.node [4] (by kernel_rfl) rfl rfl ⟨?_, trivial⟩
            refine StepA.pur (pu_build rfl rfl rfl rfl rfl rfl) rfl (tl hn rfl) ?_
            refine RunsA.seq 5 rfl (by kernel_rfl) ?_
            exact tail _ _ _ hX ⟨rfl, rfl, rfl, rfl, rfl, rfl, rfl, trivial⟩
          · refine StepA.callN hcall (.cons .ro .nil) (tl hn rfl) fun C1 u1 b1 nx1 gh1 nd1 new1 => ?_
            have hX : X C1 u1 := ⟨b1, nx1, gh1, nd1, new1⟩
            have hn := nx1.n.trans hn
            obtain ⟨A1, n1, c1, A2, n2, c2, rfl⟩ := tre_val gh1.rel
            refine RunsA.node [1, 4] (by kernel_rfl) rfl rfl ⟨?_, ?_, trivial⟩
            · refine StepA.pur (pu_load_obj rfl rfl rfl) rfl (tl hn rfl) ?_
              refine RunsA.node [4] (by kernel_rfl) rfl rfl ⟨?_, trivial⟩
              refine StepA.pur (pu_build rfl rfl rfl rfl rfl rfl) rfl (tl hn rfl) ?_
              refine RunsA.seq 5 rfl (by kernel_rfl) ?_
              exact tail _ _ _ hX ⟨rfl, rfl, rfl, rfl, rfl, rfl, rfl, trivial⟩
            · refine StepA.pur (pu_build rfl rfl rfl rfl rfl rfl) rfl (tl hn rfl) ?_
              refine RunsA.node [1] (by kernel_rfl) rfl rfl ⟨?_, trivial⟩
              refine StepA.pur (pu_load_obj rfl rfl rfl) rfl (tl hn rfl) ?_
              refine RunsA.seq 5 rfl (by kernel_rfl) ?_
              exact tail _ _ _ hX ⟨rfl, rfl, rfl, rfl, rfl, rfl, rfl, trivial⟩
      · refine StepA.pur (pu_loadN_objR (rs := [.int x.number, bytesR x.bytes, tresR x.items]) rfl rfl rfl rfl) rfl (tl hn rfl) ?_
        refine RunsA.node [0, 3] (by kernel_rfl) rfl rfl ⟨?_, ?_, trivial⟩
        · refine StepA.pur (pu_fieldAddr_obj rfl) rfl (tl hn rfl) ?_
          refine RunsA.node [1, 3] (by kernel_rfl) rfl rfl ⟨?_, ?_, trivial⟩
          · refine StepA.pur (pu_load_obj rfl rfl rfl) rfl (tl hn rfl) ?_
            refine RunsA.node [3] (by kernel_rfl) rfl rfl ⟨?_, trivial⟩
            refine StepA.callN hcall (.cons .ro .nil) (tl hn rfl) fun C1 u1 b1 nx1 gh1 nd1 new1 => ?_
            have hX : X C1 u1 := ⟨b1, nx1, gh1, nd1, new1⟩
            have hn := nx1.n.trans hn
            obtain ⟨A1, n1, c1, A2, n2, c2, rfl⟩ := tre_val gh1.rel
            refine RunsA.node [4] (by kernel_rfl) rfl rfl ⟨?_, trivial⟩
            refine StepA.pur (pu_build rfl rfl rfl rfl rfl rfl) rfl (tl hn rfl) ?_
            refine RunsA.seq 5 rfl (by kernel_rfl) ?_
            exact tail _ _ _ hX ⟨rfl, rfl, rfl, rfl, rfl, rfl, rfl, trivial⟩
          · refine StepA.callN hcall (.cons .ro .nil) (tl hn rfl) fun C1 u1 b1 nx1 gh1 nd1 new1 => ?_
            have hX : X C1 u1 := ⟨b1, nx1, gh1, nd1, new1⟩
            have hn := nx1.n.trans hn
            obtain ⟨A1, n1, c1, A2, n2, c2, rfl⟩ := tre_val gh1.rel
            refine RunsA.node [1, 4] (by kernel_rfl) rfl rfl ⟨?_, ?_, trivial⟩
            · refine StepA.pur (pu_load_obj rfl rfl rfl) rfl (tl hn rfl) ?_
              refine RunsA.node [4] (by kernel_rfl) rfl rfl ⟨?_, trivial⟩
              refine StepA.pur (pu_build rfl rfl rfl rfl rfl rfl) rfl (tl hn rfl) ?_
              refine RunsA.seq 5 rfl (by kernel_rfl) ?_
              exact tail _ _ _ hX ⟨rfl, rfl, rfl, rfl, rfl, rfl, rfl, trivial⟩
            · refine StepA.pur (pu_build rfl rfl rfl rfl rfl rfl) rfl (tl hn rfl) ?_
              refine RunsA.node [1] (by kernel_rfl) rfl rfl ⟨?_, trivial⟩
              refine StepA.pur (pu_load_obj rfl rfl rfl) rfl (tl hn rfl) ?_
              refine RunsA.seq 5 rfl (by kernel_rfl) ?_
              exact tail _ _ _ hX ⟨rfl, rfl, rfl, rfl, rfl, rfl, rfl, trivial⟩
        · refine StepA.callN hcall (.cons .ro .nil) (tl hn rfl) fun C1 u1 b1 nx1 gh1 nd1 new1 => ?_
          have hX : X C1 u1 := ⟨b1, nx1, gh1, nd1, new1⟩
          have hn := nx1.n.trans hn
          obtain ⟨A1, n1, c1, A2, n2, c2, rfl⟩ := tre_val gh1.rel
          refine RunsA.node [0, 4] (by kernel_rfl) rfl rfl ⟨?_, ?_, trivial⟩
          · refine StepA.pur (pu_fieldAddr_obj rfl) rfl (tl hn rfl) ?_
            refine RunsA.node [1, 4] (by kernel_rfl) rfl rfl ⟨?_, ?_, trivial⟩
            · refine StepA.pur (pu_load_obj rfl rfl rfl) rfl (tl hn rfl) ?_
              refine RunsA.node [4] (by kernel_rfl) rfl rfl ⟨?_, trivial⟩
              refine StepA.pur (pu_build rfl rfl rfl rfl rfl rfl) rfl (tl hn rfl) ?_
              refine RunsA.seq 5 rfl (by kernel_rfl) ?_
              exact tail _ _ _ hX ⟨rfl, rfl, rfl, rfl, rfl, rfl, rfl, trivial⟩
            · refine StepA.pur (pu_build rfl rfl rfl rfl rfl rfl) rfl (tl hn rfl) ?_
              refine RunsA.node [1] (by kernel_rfl) rfl rfl ⟨?_, trivial⟩
              refine StepA.pur (pu_load_obj rfl rfl rfl) rfl (tl hn rfl) ?_
              refine RunsA.seq 5 rfl (by kernel_rfl) ?_
              exact tail _ _ _ hX ⟨rfl, rfl, rfl, rfl, rfl, rfl, rfl, trivial⟩
          · refine StepA.pur (pu_build rfl rfl rfl rfl rfl rfl) rfl (tl hn rfl) ?_
            refine RunsA.node [0] (by kernel_rfl) rfl rfl ⟨?_, trivial⟩
            refine StepA.pur (pu_fieldAddr_obj rfl) rfl (tl hn rfl) ?_
            refine RunsA.node [1] (by kernel_rfl) rfl rfl ⟨?_, trivial⟩
            refine StepA.pur (pu_load_obj rfl rfl rfl) rfl (tl hn rfl) ?_
            refine RunsA.seq 5 rfl (by kernel_rfl) ?_
            exact tail _ _ _ hX ⟨rfl, rfl, rfl, rfl, rfl, rfl, rfl, trivial⟩
  · obtain rfl : j = v.items.length := by omega
    repeat' (first
 | refine RunsL.step tabOk hn rfl ?_
 | refine RunsL.nil ?_
 | refine Runs.toRegion 30 rfl ?_
 | (refine Runs.ctls 30 rfl ?_; first | ((first | refine Runs.cond_yes rfl ?_ ?_ | refine Runs.cond_nno rfl ?_ ?_); · first | omega | rfl | assumption | (simp only [List.length_map]; omega)) | ((first | refine Runs.cond_no rfl ?_ ?_ | refine Runs.cond_nyes rfl ?_ ?_); · first | omega | rfl | assumption | (simp only [List.length_map]; omega)) | refine Runs.ret (ends_ro hm rfl rfl ?_) | exact Runs.ret (ends_cellR hm rfl rfl rfl (Nat.le_of_ble_eq_true rfl) rfl rfl))
 | refine op_box rfl (tl hn rfl) ?_
 | refine op_storeF rfl rfl rfl rfl (Nat.le_of_ble_eq_true rfl) ?_
 | refine op_alloc (tl hn rfl) ?_
 | refine op_storeN rfl rfl rfl rfl (Nat.le_of_ble_eq_true rfl) ?_
 | ((first | refine RunsL.pe hn rfl rfl rfl ?_ | refine RunsD.pe rfl rfl ?_); first
 | refine ⟨_, pu_add rfl rfl (by omega), ?_⟩
 | refine ⟨_, pu_indexAddr_map rfl rfl (by omega) (by assumption), ?_⟩
 | refine ⟨_, pu_sub rfl rfl (by omega), ?_⟩
 | refine ⟨_, pu_pick_b rfl rfl rfl, ?_⟩
 | refine ⟨_, pu_mul rfl rfl (by omega), ?_⟩
 | refine ⟨_, pu_build rfl rfl rfl rfl rfl rfl, ?_⟩))
    rw [List.take_length] at hov
    refine Runs.ctls 30 rfl (Runs.ret ?_)
    have e : treO v = .agg [.c (.int .i64 v.number), .row 5 1 ((v.bytes.map fun z => Value.int .u8 (z.toNat : Int)).map .c), .row 29 3 (v.items.flatMap treOs)] := by unfold treO; rw [treOs_eq]; rfl
    rw [e]
    intro a w hS
    refine endsO_3 (P := Try.prog) (ty := 29) (fn := Try.f13) (C := C) (S := _) (p := 2) (i0 := 1) (i1 := 2) (i2 := 3) (o := ⟨29, 0, [.int v.number, .own 2, .own 3]⟩) (us1 := v.bytes.map fun z => Value.int .u8 (z.toNat : Int)) (us2 := us) hsc ?_ ?_ ?_ ?_ ?_ ?_ (by decide) hov (fun b hb => ⟨(hfix b hb).1, (hfix b hb).2.1⟩) hnd hnew a w hS
    · rfl
    · rfl
    · rfl
    · rfl
    · rw [← u8_flat]; rfl
    · rfl
end Go.Proofs.Ytnecoghfhcimeaa
/- spec.CopyValue; copies as data. -/
namespace Go.Proofs.Ytnecoghfhcimeaa
set_option linter.unusedSimpArgs false
set_option linter.unusedVariables false
open Go.RowKit
open AV (Mem Keeps)
theorem ACo.data {P : Program} {f : FuncId} {args : List RV} {ov : OV} {r : RV} (h : ACo P f args ov) (hs : OV.Seal ov r) : ACv P f args r :=
  fun w ok us h0 hu => (h w us (RV.rels_mono ⟨Nat.le_refl _, fun b _ hb => ⟨trivial, rfl⟩⟩ _ _ hu)).mono fun _ _ ⟨u, bs, e, h1, h2, h3, h4⟩ => ⟨u, .ro r, [], e, rfl, by
    simp only [RR.rel]
    exact ⟨OV.seal_rel _ _ _ _ hs h1 fun b hb => ⟨h0 b (h3 b hb).1, by simp⟩, trivial⟩, by simp, by simp, h4⟩
theorem cells_flat (l : List Tre) : (l.flatMap Tre.cells).length = l.length * 3 := by
  induction l with
  | nil => rfl
  | cons x l ih => rw [List.flatMap_cons, List.length_append, ih, Tre.cells_len, List.length_cons]; omega
def cqS (v : Tre) (j : Nat) : List Ob := [⟨29, 0, [.int v.number, .ro (bytesR v.bytes), .ro (tresR v.items)]⟩, ⟨29, 0, [.int 0, .nil, .nil]⟩, ⟨5, 1, ((v.bytes.map fun z => [RV.u8 z]).flatten).map .ro⟩, ⟨29, 0, [.int v.number, .own 2, .own 4]⟩, ⟨29, 3, ((v.items.take j).flatMap Tre.cells).map .ro⟩]
set_option maxHeartbeats 16000000 in
theorem spec_CopyValue : ∀ v : Tre, v.total ≤ 1048576 → ACv Try.prog 11 [treR v] (treR v) := by
  refine Tre.ind fun v ih ht => ?_
  have he := v.total_eq
  have hb : (v.bytes.map fun z => [RV.u8 z]).length = v.bytes.length := List.length_map ..
  have hl' : (v.items.map Tre.cells).length = v.items.length := List.length_map ..
  refine ac_enter Try.func11 rfl _ Try.ntmps11 (by simp) fun C hn hm => ?_
  repeat' (first
 | refine Runs.toDrawV (id := 1) 30 [] [0, 1, 2, 3, 4, 5, 6, 7] 8 [⟨5, some (2, 7), 5, 1, (v.bytes.map fun z => [RV.u8 z]).flatten⟩, ⟨7, none, 29, 0, [Value.int .i64 0, .slice none 0 0, .slice none 0 0].map RV.c⟩] mixed hn rfl (by kernel_rfl) rfl rfl (by kernel_rfl) ?_
 | refine RunsL.step tabOk hn rfl ?_
 | refine RunsL.nil ?_
 | refine Runs.toRegion 30 rfl ?_
 | (refine Runs.ctls 30 rfl ?_; first | ((first | refine Runs.cond_yes rfl ?_ ?_ | refine Runs.cond_nno rfl ?_ ?_); · first | omega | rfl | assumption | (simp only [List.length_map]; omega)) | ((first | refine Runs.cond_no rfl ?_ ?_ | refine Runs.cond_nyes rfl ?_ ?_); · first | omega | rfl | assumption | (simp only [List.length_map]; omega)) | refine Runs.ret (ends_ro hm rfl rfl ?_) | exact Runs.ret (ends_cellR hm rfl rfl rfl (Nat.le_of_ble_eq_true rfl) rfl rfl))
 | refine op_box rfl (tl hn rfl) ?_
 | refine op_storeF rfl rfl rfl rfl (Nat.le_of_ble_eq_true rfl) ?_
 | refine op_alloc (tl hn rfl) ?_
 | refine op_storeN rfl rfl rfl rfl (Nat.le_of_ble_eq_true rfl) ?_
 | ((first | refine RunsL.pe hn rfl rfl rfl ?_ | refine RunsD.pe rfl rfl ?_); first
 | refine ⟨_, pu_add rfl rfl (by omega), ?_⟩
 | refine ⟨_, pu_indexAddr_map rfl rfl (by omega) (by assumption), ?_⟩
 | refine ⟨_, pu_sub rfl rfl (by omega), ?_⟩
 | refine ⟨_, pu_pick_b rfl rfl rfl, ?_⟩
 | refine ⟨_, pu_mul rfl rfl (by omega), ?_⟩
 | refine ⟨_, pu_build rfl rfl rfl rfl rfl rfl, ?_⟩))
  refine RunsU.step tabOk rfl rfl (fun _ => rfl) rfl (fun p r hp hr => .inl (by simp [AV.only, AV.onlys] <;> omega)) ?_
  refine RunsU.step tabOk rfl rfl (fun _ => rfl) rfl (fun p r hp hr => .inl (by simp [AV.only, AV.onlys] <;> omega)) ?_
  refine RunsU.lay (t := 7) (p := 0) rfl rfl rfl rfl mk_build0 ?_
  refine RunsU.step tabOk rfl rfl (fun _ => rfl) rfl (fun p r hp hr => .inl (by simp [AV.only, AV.onlys] <;> omega)) ?_
  refine RunsU.step tabOk rfl rfl (fun _ => rfl) rfl (fun p r hp hr => .inl (by simp [AV.only, AV.onlys] <;> omega)) ?_
  refine RunsU.gro (t := 10) (p := 0) rfl rfl rfl rfl rfl (mk_append (els := v.bytes.map fun z => [RV.u8 z]) rfl (by omega) (by omega)) ?_
  refine RunsU.pur (fun _ => pu_buildS rfl) rfl (staged_lateC (by kernel_rfl) rfl) rfl rfl ?_
  refine RunsU.made (t := 3) (p := 1) rfl rfl rfl rfl rfl (mk_alloc (zs := [.int .i64 0, .slice none 0 0, .slice none 0 0]) inferInstance) ?_
  refine RunsU.nil ?_
  repeat' (first
 | refine RunsL.step tabOk hn rfl ?_
 | refine RunsL.nil ?_
 | refine Runs.toRegion 30 rfl ?_
 | (refine Runs.ctls 30 rfl ?_; first | ((first | refine Runs.cond_yes rfl ?_ ?_ | refine Runs.cond_nno rfl ?_ ?_); · first | omega | rfl | assumption | (simp only [List.length_map]; omega)) | ((first | refine Runs.cond_no rfl ?_ ?_ | refine Runs.cond_nyes rfl ?_ ?_); · first | omega | rfl | assumption | (simp only [List.length_map]; omega)) | refine Runs.ret (ends_ro hm rfl rfl ?_) | exact Runs.ret (ends_cellR hm rfl rfl rfl (Nat.le_of_ble_eq_true rfl) rfl rfl))
 | refine op_box rfl (tl hn rfl) ?_
 | refine op_storeF rfl rfl rfl rfl (Nat.le_of_ble_eq_true rfl) ?_
 | refine op_alloc (tl hn rfl) ?_
 | refine op_storeN rfl rfl rfl rfl (Nat.le_of_ble_eq_true rfl) ?_
 | ((first | refine RunsL.pe hn rfl rfl rfl ?_ | refine RunsD.pe rfl rfl ?_); first
 | refine ⟨_, pu_add rfl rfl (by omega), ?_⟩
 | refine ⟨_, pu_indexAddr_map rfl rfl (by omega) (by assumption), ?_⟩
 | refine ⟨_, pu_sub rfl rfl (by omega), ?_⟩
 | refine ⟨_, pu_pick_b rfl rfl rfl, ?_⟩
 | refine ⟨_, pu_mul rfl rfl (by omega), ?_⟩
 | refine ⟨_, pu_build rfl rfl rfl rfl rfl rfl, ?_⟩))
  refine Runs.nilCell 3 2 (e := 29) (sz := 3) (by decide) rfl rfl ?_
  refine Runs.ctls 30 rfl ?_
  refine Runs.loopN 30 rfl (fun j => [(1, .obj 0 0), (2, .obj 1 0), (3, .obj 3 0), (4, .int (j : Int))]) (fun j => cqS v j) (fun _ => True) v.items.length 0 (Nat.zero_le _) trivial ⟨rfl, rfl, rfl, rfl, trivial⟩ rfl fun j hj _ next => ?_
  by_cases hlt : j < v.items.length
  · obtain ⟨x, hx⟩ : ∃ x, v.items[(j : Int).toNat]? = some x := ⟨_, List.getElem?_eq_getElem hlt⟩
    have hx' : v.items[j]? = some x := hx
    have hm' := List.mem_of_getElem? hx'
    have hcall := ih x hm' (Nat.le_trans (sum_mem_le Tre.total hm') (by omega))
    repeat' (first
 | refine Runs.toDrawT (id := 5) 30 [] [0, 1, 2, 3, 4, 5, 6, 7, 8] 9 [] mixed hn rfl (by kernel_rfl) rfl .nil (by decide) (by decide) (by decide) ?_
 | refine RunsT.nil ?_
 | refine RunsT.nil ?_
 | refine RunsT.step tabOk rfl rfl (fun _ => rfl) (by decide) ?_
 | refine RunsT.pur (fun _ => pu_loadN_eq rfl (Tre.cells_eq _) rfl) (by decide) rfl rfl ?_
 | refine RunsT.pur (fun _ => pu_callR hcall rfl) (by decide) rfl rfl ?_
 | refine RunsT.pur (fun _ => pu_build rfl rfl rfl rfl rfl rfl) (by decide) rfl rfl ?_
 | refine RunsT.pur (fun _ => pu_add rfl rfl (by omega)) (by decide) rfl rfl ?_
 | refine RunsT.pur (fun _ => pu_indexAddr_map rfl rfl (by omega) (by assumption)) (by decide) rfl rfl ?_
 | refine RunsL.step tabOk hn rfl ?_
 | refine RunsL.nil ?_
 | refine Runs.toRegion 30 rfl ?_
 | ((first | refine RunsL.pe hn rfl rfl rfl ?_ | refine RunsD.pe rfl rfl ?_); first
 | refine ⟨_, pu_loadN_eq rfl (Tre.cells_eq _) rfl, ?_⟩
 | refine ⟨_, pu_callR hcall rfl, ?_⟩
 | refine ⟨_, pu_build rfl rfl rfl rfl rfl rfl, ?_⟩)
 | (refine Runs.ctls 30 rfl ?_; first | ((first | refine Runs.cond_yes rfl ?_ ?_ | refine Runs.cond_nno rfl ?_ ?_); · first | omega | rfl | assumption | (simp only [List.length_map]; omega)) | ((first | refine Runs.cond_no rfl ?_ ?_ | refine Runs.cond_nyes rfl ?_ ?_); · first | omega | rfl | assumption | (simp only [List.length_map]; omega)) | refine Runs.ret (ends_ro hm rfl rfl ?_) | exact Runs.ret (ends_cellR hm rfl rfl rfl (Nat.le_of_ble_eq_true rfl) rfl rfl))
 | refine op_box rfl (tl hn rfl) ?_
 | refine op_storeF rfl rfl rfl rfl (Nat.le_of_ble_eq_true rfl) ?_
 | refine op_alloc (tl hn rfl) ?_
 | refine op_storeN rfl rfl rfl rfl (Nat.le_of_ble_eq_true rfl) ?_
 | ((first | refine RunsL.pe hn rfl rfl rfl ?_ | refine RunsD.pe rfl rfl ?_); first
 | refine ⟨_, pu_add rfl rfl (by omega), ?_⟩
 | refine ⟨_, pu_indexAddr_map rfl rfl (by omega) (by assumption), ?_⟩
 | refine ⟨_, pu_sub rfl rfl (by omega), ?_⟩
 | refine ⟨_, pu_pick_b rfl rfl rfl, ?_⟩
 | refine ⟨_, pu_mul rfl rfl (by omega), ?_⟩
 | refine ⟨_, pu_build rfl rfl rfl rfl rfl rfl, ?_⟩))
    refine RunsL.junk 3 2 rfl (op_append (t := 28) (i := 4) (n := j) (rs := (v.items.take j).flatMap Tre.cells) (els := [[.int x.number, bytesR x.bytes, tresR x.items]]) rfl rfl rfl rfl rfl rfl (by rw [cells_flat, List.length_take, Nat.min_eq_left (by omega)]) (FreeI.at_ (i := 4) ⟨by simp [AV.onlys, AV.only], by simp [AV.onlys, AV.only], onlys_rv _ _, by simp [AV.onlys, AV.only], onlys_rv _ _, trivial⟩) (by simp; omega) (by simp; omega) (tl hn rfl) ?_)
    repeat' (first
 | refine RunsL.step tabOk hn rfl ?_
 | refine RunsL.nil ?_
 | refine Runs.toRegion 30 rfl ?_
 | (refine Runs.ctls 30 rfl ?_; first | ((first | refine Runs.cond_yes rfl ?_ ?_ | refine Runs.cond_nno rfl ?_ ?_); · first | omega | rfl | assumption | (simp only [List.length_map]; omega)) | ((first | refine Runs.cond_no rfl ?_ ?_ | refine Runs.cond_nyes rfl ?_ ?_); · first | omega | rfl | assumption | (simp only [List.length_map]; omega)) | refine Runs.ret (ends_ro hm rfl rfl ?_) | exact Runs.ret (ends_cellR hm rfl rfl rfl (Nat.le_of_ble_eq_true rfl) rfl rfl))
 | refine op_box rfl (tl hn rfl) ?_
 | refine op_storeF rfl rfl rfl rfl (Nat.le_of_ble_eq_true rfl) ?_
 | refine op_alloc (tl hn rfl) ?_
 | refine op_storeN rfl rfl rfl rfl (Nat.le_of_ble_eq_true rfl) ?_
 | ((first | refine RunsL.pe hn rfl rfl rfl ?_ | refine RunsD.pe rfl rfl ?_); first
 | refine ⟨_, pu_add rfl rfl (by omega), ?_⟩
 | refine ⟨_, pu_indexAddr_map rfl rfl (by omega) (by assumption), ?_⟩
 | refine ⟨_, pu_sub rfl rfl (by omega), ?_⟩
 | refine ⟨_, pu_pick_b rfl rfl rfl, ?_⟩
 | refine ⟨_, pu_mul rfl rfl (by omega), ?_⟩
 | refine ⟨_, pu_build rfl rfl rfl rfl rfl rfl, ?_⟩))
    refine next _ _ ⟨rfl, rfl, rfl, rfl, trivial⟩ hlt trivial ?_
    have e : (v.items.take (j + 1)).flatMap Tre.cells = (v.items.take j).flatMap Tre.cells ++ [[RV.int x.number, bytesR x.bytes, tresR x.items]].flatten := by
      rw [List.take_add_one, hx', List.flatMap_append]
      simp [Tre.cells_eq, tresR]
    unfold cqS
    rw [e]
    rfl
  · obtain rfl : j = v.items.length := by omega
    repeat' (first
 | refine RunsL.step tabOk hn rfl ?_
 | refine RunsL.nil ?_
 | refine Runs.toRegion 30 rfl ?_
 | (refine Runs.ctls 30 rfl ?_; first | ((first | refine Runs.cond_yes rfl ?_ ?_ | refine Runs.cond_nno rfl ?_ ?_); · first | omega | rfl | assumption | (simp only [List.length_map]; omega)) | ((first | refine Runs.cond_no rfl ?_ ?_ | refine Runs.cond_nyes rfl ?_ ?_); · first | omega | rfl | assumption | (simp only [List.length_map]; omega)) | refine Runs.ret (ends_ro hm rfl rfl ?_) | exact Runs.ret (ends_cellR hm rfl rfl rfl (Nat.le_of_ble_eq_true rfl) rfl rfl))
 | refine op_box rfl (tl hn rfl) ?_
 | refine op_storeF rfl rfl rfl rfl (Nat.le_of_ble_eq_true rfl) ?_
 | refine op_alloc (tl hn rfl) ?_
 | refine op_storeN rfl rfl rfl rfl (Nat.le_of_ble_eq_true rfl) ?_
 | ((first | refine RunsL.pe hn rfl rfl rfl ?_ | refine RunsD.pe rfl rfl ?_); first
 | refine ⟨_, pu_add rfl rfl (by omega), ?_⟩
 | refine ⟨_, pu_indexAddr_map rfl rfl (by omega) (by assumption), ?_⟩
 | refine ⟨_, pu_sub rfl rfl (by omega), ?_⟩
 | refine ⟨_, pu_pick_b rfl rfl rfl, ?_⟩
 | refine ⟨_, pu_mul rfl rfl (by omega), ?_⟩
 | refine ⟨_, pu_build rfl rfl rfl rfl rfl rfl, ?_⟩))
    exact Runs.ret (ends_lend (r := treR v) hm rfl (v := .agg [.int v.number, .own 2, .own 4]) ⟨1, 0, _, rfl, rfl, .inr ⟨3, inferInstance, Nat.le_of_ble_eq_true rfl, rfl⟩⟩ rfl
      (Lends.agg (.cons .ro (.cons (Lends.own (i := 2) (o := ⟨5, 1, ((v.bytes.map fun z => [RV.u8 z]).flatten).map .ro⟩) (els := v.bytes.map fun z => [RV.u8 z]) rfl rfl fun x hx => by obtain ⟨y, _, rfl⟩ := List.mem_map.1 hx; rfl)
        (.cons (Lends.own (i := 4) (o := ⟨29, 3, ((v.items.take v.items.length).flatMap Tre.cells).map .ro⟩) (els := v.items.map Tre.cells) rfl (by rw [List.take_length, List.flatMap_def]) fun x hx => by obtain ⟨y, _, rfl⟩ := List.mem_map.1 hx; exact Tre.cells_len y) .nil)))))
end Go.Proofs.Ytnecoghfhcimeaa
/- Marks on values of the format. -/
namespace Go.Proofs.Ytnecoghfhcimeaa
set_option linter.unusedSimpArgs false
set_option linter.unusedVariables false
open Go.RowKit
open AV (Mem Keeps)
mutual
def mcost : Tre → Nat
  | .mk _ b l => b.length + mcosts l
def mcosts : List Tre → Nat
  | [] => 0
  | v :: vs => 1 + mcost v + mcosts vs
end
mutual
def mTre : Tre → Int → Tre
  | .mk _ b l, k => .mk k (seqB (k + 1) b.length) (mTres l (k + 1 + b.length))
def mTres : List Tre → Int → List Tre
  | [], _ => []
  | v :: vs, k => mTre v k :: mTres vs (k + 1 + mcost v)
end
def mTop (v : Tre) (k : Int) : Tre := .mk v.number (seqB k v.bytes.length) (mTres v.items (k + v.bytes.length))
theorem mcost_eq (v : Tre) : mcost v = v.bytes.length + mcosts v.items := by cases v; rw [mcost]; rfl
theorem mTre_eq (v : Tre) (k : Int) : mTre v k = .mk k (seqB (k + 1) v.bytes.length) (mTres v.items (k + 1 + v.bytes.length)) := by cases v; rw [mTre]; rfl
theorem mcosts_eq : ∀ l, mcosts l = (l.map fun v => 1 + mcost v).sum
  | [] => by rw [mcosts]; rfl
  | v :: vs => by rw [mcosts, mcosts_eq vs]; rfl
mutual
theorem mcost_le : ∀ v : Tre, mcost v ≤ v.total
  | .mk n b l => by have := mcosts_le l; simp only [mcost, Tre.total]; omega
theorem mcosts_le : ∀ l : List Tre, mcosts l ≤ l.length + Tre.totalL l
  | [] => by simp [mcosts]
  | v :: vs => by have := mcost_le v; have := mcosts_le vs; simp only [mcosts, Tre.totalL, List.length_cons]; omega
end
theorem mTres_len : ∀ (l : List Tre) (k : Int), (mTres l k).length = l.length
  | [], k => by rw [mTres]
  | v :: vs, k => by rw [mTres, List.length_cons, mTres_len vs, List.length_cons]
theorem mTres_at : ∀ {l : List Tre} {k : Int} {j : Nat} {x : Tre}, l[j]? = some x → (mTres l k)[j]? = some (mTre x (k + mcosts (l.take j)))
  | v :: vs, k, 0, x, h => by
    simp only [List.getElem?_cons_zero, Option.some.injEq] at h
    subst h
    simp [mTres, mcosts]
  | v :: vs, k, j + 1, x, h => by
    rw [List.getElem?_cons_succ] at h
    rw [mTres, List.getElem?_cons_succ, mTres_at h, List.take_succ_cons, mcosts]
    congr 2
    omega
theorem mTres_next {l : List Tre} {k : Int} {j : Nat} {x : Tre} (h : l[j]? = some x) : (mTres l k).take (j + 1) = (mTres l k).take j ++ [mTre x (k + mcosts (l.take j))] := by
  rw [List.take_add_one, mTres_at h]; rfl
theorem tres_one {w : World} : ∀ (l : List Tre) (us : List Value) (bs : List Nat), OV.rels w (l.flatMap treOs) us bs → ∀ x ∈ us, x.oneCell' = true
  | [], us, bs, h => by simp only [List.flatMap_nil, OV.rels] at h; simp [h.1]
  | v :: l, us, bs, h => by
    rw [List.flatMap_cons] at h
    obtain ⟨u1, u2, b1, b2, rfl, rfl, h1, h2⟩ := rels_split _ _ _ _ h
    obtain ⟨A1, n1, c1, A2, n2, c2, d1, d2, rfl, rfl, _, _⟩ := tre_open h1
    intro x hx
    rcases List.mem_append.1 hx with hx | hx
    · simp only [List.mem_cons, List.not_mem_nil, or_false] at hx
      rcases hx with rfl | rfl | rfl <;> rfl
    · exact tres_one l u2 b2 h2 x hx
theorem nodup4 {a b c d : List Nat} (h : (a ++ ((b ++ c) ++ d)).Nodup) : b.Nodup ∧ c.Nodup ∧ (∀ x ∈ a, x ∉ b) ∧ (∀ x ∈ a, x ∉ c) ∧ (∀ x ∈ c, x ∉ b) ∧ (∀ x ∈ b, x ∉ c) ∧ (∀ x ∈ d, x ∉ b) ∧ (∀ x ∈ d, x ∉ c) := by
  simp only [List.nodup_append, List.mem_append] at h
  grind
set_option maxHeartbeats 16000000 in
theorem markTreS_mk (l : List Tre) (ih0 : ∀ x ∈ l, ∀ k : Int, 0 ≤ k → k ≤ 1099513724928 → k + (mcosts x.items : Nat) ≤ 1099513724928 → x.total ≤ 1048576 → MK Try.prog 61 (tresO x.items) k (k + (mcosts x.items : Nat)) (tresO (mTres x.items k)))
    (k : Int) (h0 : 0 ≤ k) (hk : k ≤ 1099513724928) (hk' : k + (mcosts l : Nat) ≤ 1099513724928) (hl : l.length ≤ 1048576) (ht : (l.map Tre.total).sum ≤ 1048576) : MK Try.prog 61 (tresO l) k (k + (mcosts l : Nat)) (tresO (mTres l k)) := by
  intro w u bs h hnd hlt
  have hml := mTres_len l k
  rcases rowN_block h with ⟨rfl, h1, rfl⟩ | ⟨g, m, cap, cur, xs, bs', rfl, hlen, rfl, hov, hone, hh, c1, c2, c3, htk0⟩
  · have hl0 : l = [] := by
      cases l with
      | nil => rfl
      | cons x l => have := tresO_len (x :: l); rw [h1] at this; simp at this
    subst hl0
    refine mark_enter (X := fun w' => OV.rel w' (tresO (mTres [] k)) (.slice none 0 0) []) Try.func61 rfl _ Try.ntmps61 (by simp) hlt ?_
    generalize hC0 : (⟨w, fun b => b ∉ ([] : List Nat), fun _ => False, _⟩ : Ctx) = C0
    have hn : C0.n = 34 := by rw [← hC0]
    have hm0 : ∀ b, ¬ C0.mu b := by rw [← hC0]; exact fun _ h => h
    repeat' (first
 | refine RunsL.step tabOk hn rfl ?_
 | refine RunsL.nil ?_
 | refine Runs.toRegion 30 rfl ?_
 | (refine Runs.ctls 30 rfl ?_; first | refine Runs.cond_f rfl ?_ | ((first | refine Runs.cond_yes rfl ?_ ?_ | refine Runs.cond_nno rfl ?_ ?_); · first | omega | rfl | assumption | (simp only [List.length_map]; omega)) | ((first | refine Runs.cond_no rfl ?_ ?_ | refine Runs.cond_nyes rfl ?_ ?_); · first | omega | rfl | assumption | (simp only [List.length_map]; omega)) | refine Runs.ret (ends_ro hm rfl rfl ?_) | exact Runs.ret (ends_cellR hm rfl rfl rfl (Nat.le_of_ble_eq_true rfl) rfl rfl))
 | (refine RunsL.pe hn rfl rfl rfl ?_; first
 | refine ⟨_, pu_add rfl rfl (by omega), ?_⟩
        ))
    refine Runs.ctls 30 rfl (Runs.keep [(0, .ro (.c (.slice none 0 0))), (1, .int k), (5, .int 0)] ⟨rfl, rfl, rfl, trivial⟩ ?_)
    refine Runs.loopV (fun n C S => C = C0 ∧ S = ⟨[(0, .ro (.c (.slice none 0 0))), (1, .int k), (5, .int 0)], []⟩) ?_ 0 C0 _ ⟨rfl, rfl⟩
    rintro n C S ⟨rfl, rfl⟩ ih
    repeat' (first
 | refine RunsL.step tabOk hn rfl ?_
 | refine RunsL.nil ?_
 | refine Runs.toRegion 30 rfl ?_
 | (refine RunsL.pe hn rfl rfl rfl ?_; first
 | refine ⟨_, pu_lenC rfl, ?_⟩)
 | (refine Runs.ctls 30 rfl ?_; first | refine Runs.cond_f rfl ?_ | ((first | refine Runs.cond_yes rfl ?_ ?_ | refine Runs.cond_nno rfl ?_ ?_); · first | omega | rfl | assumption | (simp only [List.length_map]; omega)) | ((first | refine Runs.cond_no rfl ?_ ?_ | refine Runs.cond_nyes rfl ?_ ?_); · first | omega | rfl | assumption | (simp only [List.length_map]; omega)) | refine Runs.ret (ends_ro hm rfl rfl ?_) | exact Runs.ret (ends_cellR hm rfl rfl rfl (Nat.le_of_ble_eq_true rfl) rfl rfl))
 | (refine RunsL.pe hn rfl rfl rfl ?_; first
 | refine ⟨_, pu_add rfl rfl (by omega), ?_⟩
        ))
    refine Runs.ctls 30 rfl (Runs.ret (endsM (Nx.refl _ _) hm0 rfl (by show look _ _ = _; simp [look, mcosts]) fun φ w hG => ?_))
    simp only [tresO, mTres, OV.rel, List.flatMap_nil, OV.rels]
    exact ⟨0, [], [], rfl, by omega, ⟨rfl, rfl⟩, by simp, ⟨rfl, .inl ⟨rfl, rfl⟩⟩, rfl⟩
  · rw [tresO_len] at hlen
    have hm : m = l.length := by omega
    subst hm
    refine mark_enter (X := fun w' => OV.rel w' (tresO (mTres l k)) (.slice (some ⟨g, 0, none⟩) l.length cap) (g :: bs')) Try.func61 rfl _ Try.ntmps61 (by simp) hlt ?_
    generalize hC0 : (⟨w, fun b => b ∉ g :: bs', fun _ => False, _⟩ : Ctx) = C0
    have hn : C0.n = 34 := by rw [← hC0]
    have hw0 : C0.w0 = w := by rw [← hC0]
    have hm0 : ∀ b, ¬ C0.mu b := by rw [← hC0]; exact fun _ h => h
    have hb0 : Bk C0 g cur 29 := by rw [← hC0]; exact ⟨hh, fun h => h, fun h => h (by simp)⟩
    have hf0 : ∀ b ∈ bs', b < C0.w0.heap.size ∧ ¬ C0.mu b ∧ ¬ C0.ok b := fun b hb => by
      rw [← hC0]; exact ⟨hlt b (by simp [hb]), fun h => h, fun h => h (by simp [hb])⟩
    rw [List.nodup_cons] at hnd
    have hcap : l.length * 3 ≤ cap * 3 := Nat.mul_le_mul_right _ c1
    repeat' (first
 | refine RunsL.step tabOk hn rfl ?_
 | refine RunsL.nil ?_
 | refine Runs.toRegion 30 rfl ?_
 | (refine Runs.ctls 30 rfl ?_; first | refine Runs.cond_f rfl ?_ | ((first | refine Runs.cond_yes rfl ?_ ?_ | refine Runs.cond_nno rfl ?_ ?_); · first | omega | rfl | assumption | (simp only [List.length_map]; omega)) | ((first | refine Runs.cond_no rfl ?_ ?_ | refine Runs.cond_nyes rfl ?_ ?_); · first | omega | rfl | assumption | (simp only [List.length_map]; omega)) | refine Runs.ret (ends_ro hm rfl rfl ?_) | exact Runs.ret (ends_cellR hm rfl rfl rfl (Nat.le_of_ble_eq_true rfl) rfl rfl))
 | (refine RunsL.pe hn rfl rfl rfl ?_; first
 | refine ⟨_, pu_add rfl rfl (by omega), ?_⟩
        ))
    refine Runs.ctls 30 rfl (Runs.keep [(0, .ro (.c (.slice (some ⟨g, 0, none⟩) l.length cap))), (1, .int k), (5, .int 0)] ⟨rfl, rfl, rfl, trivial⟩ ?_)
    refine Runs.loopV (fun n C S => ∃ (j : Nat) (cu : Array Value) (ud ur : List Value) (bd br : List Nat), j + n = l.length ∧ C.n = 34 ∧ Nx C0 C (g :: bs') ∧ Bk C g cu 29 ∧ cu.size = cap * 3 ∧ Gh C (.agg (((mTres l k).take j).flatMap treOs)) (.agg ud.toArray) bd ∧ Gh C (.agg ((l.drop j).flatMap treOs)) (.agg ur.toArray) br ∧ bs' = bd ++ br ∧ cu.toList.take (l.length * 3) = ud ++ ur ∧
      S = ⟨[(0, .ro (.c (.slice (some ⟨g, 0, none⟩) l.length cap))), (1, .int (k + (mcosts (l.take j) : Nat))), (5, .int (j : Int))], []⟩) ?_ l.length C0 _ ⟨0, cur, [], xs, [], bs', by omega, hn, Nx.refl _ _, hb0, c3, Gh.aggs (by simp [OV.rels]) (by simp), Gh.aggs (by rw [List.drop_zero, hw0]; exact hov) hf0, rfl, htk0, by simp [mcosts]⟩
    rintro n C S ⟨j, cu, ud, ur, bd, br, hj, hn, hnx, hb, hcu, hgd, hgh, hbs, htk, rfl⟩ ih
    by_cases hlt' : j < l.length
    · obtain ⟨x, hx⟩ : ∃ x, l[j]? = some x := ⟨_, List.getElem?_eq_getElem hlt'⟩
      have hm' := List.mem_of_getElem? hx
      have hxt := sum_mem_le Tre.total hm'
      have hxe := x.total_eq
      have hxc := mcost_eq x
      have hst := sum_take_next (fun v => 1 + mcost v) hx
      have hsl := sum_take_le (fun v => 1 + mcost v) l (j + 1)
      rw [← mcosts_eq, ← mcosts_eq] at hst
      rw [← mcosts_eq, ← mcosts_eq] at hsl
      have e : l.drop j = x :: l.drop (j + 1) := by
        rw [List.drop_eq_getElem_cons hlt']
        rw [List.getElem?_eq_getElem hlt'] at hx
        injection hx with hx
        rw [hx]
      rw [e, List.flatMap_cons] at hgh
      obtain ⟨u1, u2, b1, b2, rfl, rfl, hr1, hr2⟩ := rels_split _ _ _ _ hgh.rels
      obtain ⟨A1, n1, q1, A2, n2, q2, d1, d2, rfl, rfl, g1, g2⟩ := tre_open hr1
      have hnd' := hnd.2
      rw [hbs] at hnd'
      obtain ⟨N1, N2, Da1, Da2, D21, D12, D31, D32⟩ := nodup4 hnd'
      have hgb : ∀ b ∈ bd ++ ((d1 ++ d2) ++ b2), b ≠ g := fun b hm e => hnd.1 (by rw [hbs, ← e]; exact hm)
      have hul := OV.rels_len _ _ _ hgd.rels
      rw [tresO_len, List.length_take, hml, Nat.min_eq_left (by omega)] at hul
      have G1 : Gh C _ _ d1 := ⟨g1, fun b hb => hgh.fix b (by simp [hb])⟩
      have G2 : Gh C _ _ d2 := ⟨g2, fun b hb => hgh.fix b (by simp [hb])⟩
      have G3 := Gh.aggs (C := C) hr2 fun b hb => hgh.fix b (by simp [hb])
      generalize hK : k + ((mcosts (l.take j) : Nat) : Int) = K
      repeat' (first
 | refine RunsL.step tabOk hn rfl ?_
 | refine RunsL.nil ?_
 | refine Runs.toRegion 30 rfl ?_
 | (refine RunsL.pe hn rfl rfl rfl ?_; first
 | refine ⟨_, pu_lenC rfl, ?_⟩
 | refine ⟨_, pu_indexC rfl rfl (by omega) (by omega), ?_⟩
 | refine ⟨_, pu_fieldC rfl, ?_⟩)
 | (refine Runs.ctls 30 rfl ?_; first | refine Runs.cond_f rfl ?_ | ((first | refine Runs.cond_yes rfl ?_ ?_ | refine Runs.cond_nno rfl ?_ ?_); · first | omega | rfl | assumption | (simp only [List.length_map]; omega)) | ((first | refine Runs.cond_no rfl ?_ ?_ | refine Runs.cond_nyes rfl ?_ ?_); · first | omega | rfl | assumption | (simp only [List.length_map]; omega)) | refine Runs.ret (ends_ro hm rfl rfl ?_) | exact Runs.ret (ends_cellR hm rfl rfl rfl (Nat.le_of_ble_eq_true rfl) rfl rfl))
 | (refine RunsL.pe hn rfl rfl rfl ?_; first
 | refine ⟨_, pu_add rfl rfl (by omega), ?_⟩
          ))
      refine op_storeC rfl rfl rfl hb (by simp only [Int.toNat_natCast]; omega) fun C1 x1 hb1 => ?_
      have hn := x1.n.trans hn
      simp only [Int.toNat_natCast, Nat.add_zero] at hb1
      have htk1 : (cu.setIfInBounds (j * 3) (.int .i64 K)).toList.take (l.length * 3) = ud ++ ([.int .i64 K, .slice A1 n1 q1, .slice A2 n2 q2] ++ u2) := by
        rw [Array.toList_setIfInBounds, List.take_set, htk, List.set_append_right _ _ (by omega), hul, Nat.sub_self]
        rfl
      have hsz1 : (cu.setIfInBounds (j * 3) (.int .i64 K)).size = cap * 3 := by simpa using hcu
      generalize cu.setIfInBounds (j * 3) (.int .i64 K) = cu1 at hb1 htk1 hsz1
      have hv1 : cu1[j * 3 + 1]? = some (.slice A1 n1 q1) := take_at htk1 (by rw [List.getElem?_append_right (by omega), hul]; simp)
      have hv2 : cu1[j * 3 + 2]? = some (.slice A2 n2 q2) := take_at htk1 (by rw [List.getElem?_append_right (by omega), hul]; simp)
      have hgd := hgd.next x1 fun b hb => by simpa using hgb b (by simp [hb])
      have G1 := G1.next x1 fun b hb => by simpa using hgb b (by simp [hb])
      have G2 := G2.next x1 fun b hb => by simpa using hgb b (by simp [hb])
      have G3 := G3.next x1 fun b hb => by simpa using hgb b (by simp [hb])
      repeat' (first
 | refine RunsL.step tabOk hn rfl ?_
 | refine RunsL.nil ?_
 | refine Runs.toRegion 30 rfl ?_
 | (refine RunsL.pe hn rfl rfl rfl ?_; first
 | refine ⟨_, pu_indexC rfl rfl (by omega) (by omega), ?_⟩
 | refine ⟨_, pu_fieldC rfl, ?_⟩
 | refine ⟨_, pu_loadC rfl hb1 (by simp only [Int.toNat_natCast]; exact hv1), ?_⟩)
 | (refine Runs.ctls 30 rfl ?_; first | refine Runs.cond_f rfl ?_ | ((first | refine Runs.cond_yes rfl ?_ ?_ | refine Runs.cond_nno rfl ?_ ?_); · first | omega | rfl | assumption | (simp only [List.length_map]; omega)) | ((first | refine Runs.cond_no rfl ?_ ?_ | refine Runs.cond_nyes rfl ?_ ?_); · first | omega | rfl | assumption | (simp only [List.length_map]; omega)) | refine Runs.ret (ends_ro hm rfl rfl ?_) | exact Runs.ret (ends_cellR hm rfl rfl rfl (Nat.le_of_ble_eq_true rfl) rfl rfl))
 | (refine RunsL.pe hn rfl rfl rfl ?_; first
 | refine ⟨_, pu_add rfl rfl (by omega), ?_⟩
          ))
      refine op_callK (markByteS_mk x.bytes (K + 1) (by omega) (by omega) (by omega)) G1 N1 rfl (tl hn rfl) fun C2 x2 G1 => ?_
      have hn := x2.n.trans hn
      have hb2 := hb1.next x2 fun h => hgb g (by simp [h]) rfl
      have hgd := hgd.next x2 Da1
      have G2 := G2.next x2 D21
      have G3 := G3.next x2 D31
      repeat' (first
 | refine RunsL.step tabOk hn rfl ?_
 | refine RunsL.nil ?_
 | refine Runs.toRegion 30 rfl ?_
 | (refine RunsL.pe hn rfl rfl rfl ?_; first
 | refine ⟨_, pu_indexC rfl rfl (by omega) (by omega), ?_⟩
 | refine ⟨_, pu_fieldC rfl, ?_⟩
 | refine ⟨_, pu_loadC rfl hb2 (by simp only [Int.toNat_natCast]; exact hv2), ?_⟩)
 | (refine Runs.ctls 30 rfl ?_; first | refine Runs.cond_f rfl ?_ | ((first | refine Runs.cond_yes rfl ?_ ?_ | refine Runs.cond_nno rfl ?_ ?_); · first | omega | rfl | assumption | (simp only [List.length_map]; omega)) | ((first | refine Runs.cond_no rfl ?_ ?_ | refine Runs.cond_nyes rfl ?_ ?_); · first | omega | rfl | assumption | (simp only [List.length_map]; omega)) | refine Runs.ret (ends_ro hm rfl rfl ?_) | exact Runs.ret (ends_cellR hm rfl rfl rfl (Nat.le_of_ble_eq_true rfl) rfl rfl))
 | (refine RunsL.pe hn rfl rfl rfl ?_; first
 | refine ⟨_, pu_add rfl rfl (by omega), ?_⟩
          ))
      refine op_callK (ih0 x hm' (K + 1 + (x.bytes.length : Nat)) (by omega) (by omega) (by omega) (by omega)) G2 N2 rfl (tl hn rfl) fun C3 x3 G2 => ?_
      have hn := x3.n.trans hn
      have hb3 := hb2.next x3 fun h => hgb g (by simp [h]) rfl
      have hgd := hgd.next x3 Da2
      have G1 := G1.next x3 D12
      have G3 := G3.next x3 D32
      repeat' (first
 | refine RunsL.step tabOk hn rfl ?_
 | refine RunsL.nil ?_
 | refine Runs.toRegion 30 rfl ?_
 | (refine Runs.ctls 30 rfl ?_; first | refine Runs.cond_f rfl ?_ | ((first | refine Runs.cond_yes rfl ?_ ?_ | refine Runs.cond_nno rfl ?_ ?_); · first | omega | rfl | assumption | (simp only [List.length_map]; omega)) | ((first | refine Runs.cond_no rfl ?_ ?_ | refine Runs.cond_nyes rfl ?_ ?_); · first | omega | rfl | assumption | (simp only [List.length_map]; omega)) | refine Runs.ret (ends_ro hm rfl rfl ?_) | exact Runs.ret (ends_cellR hm rfl rfl rfl (Nat.le_of_ble_eq_true rfl) rfl rfl))
 | (refine RunsL.pe hn rfl rfl rfl ?_; first
 | refine ⟨_, pu_add rfl rfl (by omega), ?_⟩
          ))
      refine Runs.ctls 30 rfl ?_
      refine Runs.keep [(0, .ro (.c (.slice (some ⟨g, 0, none⟩) l.length cap))), (1, .int (k + (mcosts (l.take (j + 1)) : Nat))), (5, .int ((j + 1 : Nat) : Int))] ⟨rfl, ?_, rfl, trivial⟩ ?_
      · exact av_int (by rw [hst]; omega)
      have r1 := G1.rel
      rw [seqB_O] at r1
      have hnew := tre_shut (w := C3.w0) (v := mTre x K) (by rw [mTre_eq]; exact r1) (by rw [mTre_eq]; exact G2.rel)
      rw [show (mTre x K).number = K by rw [mTre_eq]; rfl] at hnew
      refine ih (n - 1) (by omega) C3 _ ⟨j + 1, cu1, ud ++ [.int .i64 K, .slice A1 n1 q1, .slice A2 n2 q2], u2, bd ++ (d1 ++ d2), b2, by omega, hn, ?_, hb3, hsz1, ?_, G3, by rw [hbs]; simp, by rw [htk1]; simp, rfl⟩
      · refine (hnx.trans ((x1.trans x2).trans x3)).sub fun b hb => ?_
        simp only [hbs, List.mem_append, List.mem_cons, List.not_mem_nil, or_false] at hb ⊢
        grind
      · rw [mTres_next hx, List.flatMap_append, hK]
        refine Gh.aggs (OV.rels_append _ _ _ _ _ _ hgd.rels (by simpa using hnew)) fun b hb => ?_
        rcases List.mem_append.1 hb with hb | hb
        · exact hgd.fix b hb
        · rcases List.mem_append.1 hb with hb | hb
          · exact G1.fix b hb
          · exact G2.fix b hb
    · obtain rfl : j = l.length := by omega
      repeat' (first
 | refine RunsL.step tabOk hn rfl ?_
 | refine RunsL.nil ?_
 | refine Runs.toRegion 30 rfl ?_
 | (refine RunsL.pe hn rfl rfl rfl ?_; first
 | refine ⟨_, pu_lenC rfl, ?_⟩)
 | (refine Runs.ctls 30 rfl ?_; first | refine Runs.cond_f rfl ?_ | ((first | refine Runs.cond_yes rfl ?_ ?_ | refine Runs.cond_nno rfl ?_ ?_); · first | omega | rfl | assumption | (simp only [List.length_map]; omega)) | ((first | refine Runs.cond_no rfl ?_ ?_ | refine Runs.cond_nyes rfl ?_ ?_); · first | omega | rfl | assumption | (simp only [List.length_map]; omega)) | refine Runs.ret (ends_ro hm rfl rfl ?_) | exact Runs.ret (ends_cellR hm rfl rfl rfl (Nat.le_of_ble_eq_true rfl) rfl rfl))
 | (refine RunsL.pe hn rfl rfl rfl ?_; first
 | refine ⟨_, pu_add rfl rfl (by omega), ?_⟩
          ))
      refine Runs.ctls 30 rfl (Runs.ret (endsM hnx hm0 rfl (by show AV.int _ = _; rw [List.take_length]) fun φ w hG => ?_))
      have hz := hgh.rels
      rw [List.drop_of_length_le (Nat.le_refl _), List.flatMap_nil] at hz
      simp only [OV.rels] at hz
      obtain ⟨rfl, rfl⟩ := hz
      have hd := hgd.rels
      rw [List.take_of_length_le (by rw [hml]; exact Nat.le_refl _)] at hd
      rw [List.append_nil] at hbs htk
      subst hbs
      unfold tresO
      refine block_rowN (by omega) (by rw [tresO_len, hml]) (OV.rels_keep _ _ _ hd fun b hb => hG.frm.block b (hgd.fix b hb).1 (hgd.fix b hb).2.1) (tres_one _ _ _ hd) (hb.now hG) c1 c2 hcu htk
theorem markTre_mk : ∀ v : Tre, ∀ k : Int, 0 ≤ k → k ≤ 1099513724928 → k + (mcosts v.items : Nat) ≤ 1099513724928 → v.total ≤ 1048576 → MK Try.prog 61 (tresO v.items) k (k + (mcosts v.items : Nat)) (tresO (mTres v.items k)) := by
  refine Tre.ind fun v ih k h0 hk hk' ht => ?_
  have he := v.total_eq
  exact markTreS_mk v.items ih k h0 hk hk' (by omega) (by omega)
theorem mitems_le (v : Tre) : v.bytes.length + mcosts v.items ≤ v.total := by rw [← mcost_eq]; exact mcost_le v
set_option maxHeartbeats 4000000 in
theorem markValue_mk (v : Tre) (k : Int) (h0 : 0 ≤ k) (hk : k ≤ 1099511627776) (ht : v.total ≤ 1048576) : MK Try.prog 15 (treO v) k (k + (v.bytes.length : Nat) + (mcosts v.items : Nat)) (treO (mTop v k)) := by
  intro w u bs h hnd hlt
  have hc := mitems_le v
  simp only [treO, OV.rel] at h
  obtain ⟨us, rfl, h⟩ := h
  obtain ⟨us⟩ := us
  obtain ⟨A, n, c, A', n', c', b1, b2, e, rfl, g1, g2⟩ := tre_open h
  simp only at e
  subst e
  rw [List.nodup_append] at hnd
  obtain ⟨n1, n2, n3⟩ := hnd
  refine mark_enter (X := fun w' => OV.rel w' (treO (mTop v k)) (.agg #[.int .i64 v.number, .slice A n c, .slice A' n' c']) (b1 ++ b2)) Try.func15 rfl _ Try.ntmps15 (by simp) hlt ?_
  generalize hC0 : (⟨w, fun b => b ∉ b1 ++ b2, fun _ => False, _⟩ : Ctx) = C0
  have hn : C0.n = 14 := by rw [← hC0]
  have hm0 : ∀ b, ¬ C0.mu b := by rw [← hC0]; exact fun _ h => h
  have G1 : Gh C0 (bytesO v.bytes) (.slice A n c) b1 := by rw [← hC0]; exact ⟨g1, fun b hb => ⟨hlt b (by simp [hb]), fun h => h, fun h => h (by simp [hb])⟩⟩
  have G2 : Gh C0 (tresO v.items) (.slice A' n' c') b2 := by rw [← hC0]; exact ⟨g2, fun b hb => ⟨hlt b (by simp [hb]), fun h => h, fun h => h (by simp [hb])⟩⟩
  repeat' (first
 | refine RunsL.step tabOk hn rfl ?_
 | refine RunsL.nil ?_
 | refine Runs.toRegion 30 rfl ?_
 | (refine Runs.ctls 30 rfl ?_; first | ((first | refine Runs.cond_yes rfl ?_ ?_ | refine Runs.cond_nno rfl ?_ ?_); · first | omega | rfl | assumption | (simp only [List.length_map]; omega)) | ((first | refine Runs.cond_no rfl ?_ ?_ | refine Runs.cond_nyes rfl ?_ ?_); · first | omega | rfl | assumption | (simp only [List.length_map]; omega)) | refine Runs.ret (ends_ro hm rfl rfl ?_) | exact Runs.ret (ends_cellR hm rfl rfl rfl (Nat.le_of_ble_eq_true rfl) rfl rfl))
 | refine op_box rfl (tl hn rfl) ?_
    )
  refine op_callK (markByteS_mk v.bytes k h0 (by omega) (by omega)) G1 n1 rfl (tl hn rfl) fun C1 x1 G1 => ?_
  have hn := x1.n.trans hn
  have G2 := G2.next x1 fun b hb hm => n3 b hm b hb rfl
  repeat' (first
 | refine RunsL.step tabOk hn rfl ?_
 | refine RunsL.nil ?_
 | refine Runs.toRegion 30 rfl ?_
 | (refine Runs.ctls 30 rfl ?_; first | ((first | refine Runs.cond_yes rfl ?_ ?_ | refine Runs.cond_nno rfl ?_ ?_); · first | omega | rfl | assumption | (simp only [List.length_map]; omega)) | ((first | refine Runs.cond_no rfl ?_ ?_ | refine Runs.cond_nyes rfl ?_ ?_); · first | omega | rfl | assumption | (simp only [List.length_map]; omega)) | refine Runs.ret (ends_ro hm rfl rfl ?_) | exact Runs.ret (ends_cellR hm rfl rfl rfl (Nat.le_of_ble_eq_true rfl) rfl rfl))
 | refine op_box rfl (tl hn rfl) ?_
    )
  refine op_callK (markTre_mk v _ (by omega) (by omega) (by omega) ht) G2 n2 rfl (tl hn rfl) fun C2 x2 G2 => ?_
  have hn := x2.n.trans hn
  have G1 := G1.next x2 fun b hb hm => n3 b hb b hm rfl
  repeat' (first
 | refine RunsL.step tabOk hn rfl ?_
 | refine RunsL.nil ?_
 | refine Runs.toRegion 30 rfl ?_
 | (refine Runs.ctls 30 rfl ?_; first | ((first | refine Runs.cond_yes rfl ?_ ?_ | refine Runs.cond_nno rfl ?_ ?_); · first | omega | rfl | assumption | (simp only [List.length_map]; omega)) | ((first | refine Runs.cond_no rfl ?_ ?_ | refine Runs.cond_nyes rfl ?_ ?_); · first | omega | rfl | assumption | (simp only [List.length_map]; omega)) | refine Runs.ret (ends_ro hm rfl rfl ?_) | exact Runs.ret (ends_cellR hm rfl rfl rfl (Nat.le_of_ble_eq_true rfl) rfl rfl))
 | refine op_box rfl (tl hn rfl) ?_
    )
  refine Runs.ctls 30 rfl (Runs.ret (endsM (x1.trans x2) hm0 rfl rfl fun φ w hG => ?_))
  have r1 := G1.rel
  rw [seqB_O] at r1
  have hnew : OV.rel C2.w0 (treO (mTop v k)) (.agg #[.int .i64 v.number, .slice A n c, .slice A' n' c']) (b1 ++ b2) := by
    simp only [treO, OV.rel]
    exact ⟨_, rfl, tre_shut (v := mTop v k) r1 G2.rel⟩
  exact OV.rel_keep _ _ _ hnew fun b hb => hG.frm.block b (by
    rcases List.mem_append.1 hb with hb | hb
    · exact (G1.fix b hb).1
    · exact (G2.fix b hb).1) (by
    rcases List.mem_append.1 hb with hb | hb
    · exact (G1.fix b hb).2.1
    · exact (G2.fix b hb).2.1)
theorem markValue_mx (v : Tre) (k : Int) (h0 : 0 ≤ k) (hk : k ≤ 1099511627776) (ht : v.total ≤ 1048576) : MX Try.prog 15 (treO v) k (k + (v.bytes.length : Nat) + (mcosts v.items : Nat)) := (markValue_mk v k h0 hk ht).mx
theorem heldTreS_ac (l : List Tre) (ih0 : ∀ x ∈ l, ∀ k : Int, 0 ≤ k → k ≤ 1099513724928 → k + (mcosts x.items : Nat) ≤ 1099513724928 → x.total ≤ 1048576 → ACv Try.prog 63 [tresR (mTres x.items k), .int k] (.int (k + (mcosts x.items : Nat))))
    (k : Int) (h0 : 0 ≤ k) (hk : k ≤ 1099513724928) (hk' : k + (mcosts l : Nat) ≤ 1099513724928) (hl : l.length ≤ 1048576) (ht : (l.map Tre.total).sum ≤ 1048576) : ACv Try.prog 63 [tresR (mTres l k), .int k] (.int (k + (mcosts l : Nat))) := by
  have hml := mTres_len l k
  have hlm : ((mTres l k).map Tre.cells).length = (mTres l k).length := List.length_map ..
  refine ac_enter Try.func63 rfl _ Try.ntmps63 (by simp) fun C hn hm => ?_
  repeat' (first
 | refine RunsL.step tabOk hn rfl ?_
 | refine RunsL.nil ?_
 | refine Runs.toRegion 30 rfl ?_
 | (refine Runs.ctls 30 rfl ?_; first | ((first | refine Runs.cond_yes rfl ?_ ?_ | refine Runs.cond_nno rfl ?_ ?_); · first | omega | rfl | assumption | (simp only [List.length_map]; omega)) | ((first | refine Runs.cond_no rfl ?_ ?_ | refine Runs.cond_nyes rfl ?_ ?_); · first | omega | rfl | assumption | (simp only [List.length_map]; omega)) | refine Runs.ret (ends_ro hm rfl rfl ?_) | exact Runs.ret (ends_cellR hm rfl rfl rfl (Nat.le_of_ble_eq_true rfl) rfl rfl))
 | (refine RunsL.pe hn rfl rfl rfl ?_; first
 | refine ⟨_, pu_add rfl rfl (by omega), ?_⟩
 | refine ⟨_, pu_indexAddr_map rfl rfl (by omega) (by assumption), ?_⟩
      ))
  refine Runs.loopN 30 rfl (fun j => [(0, .ro (tresR (mTres l k))), (1, .int (k + (mcosts (l.take j) : Nat))), (5, .int (j : Int))]) (fun _ => []) (fun _ => True) l.length 0 (Nat.zero_le _) trivial ⟨rfl, by simp [look, mcosts]; rfl, rfl, trivial⟩ rfl fun j hj _ next => ?_
  by_cases hlt : j < l.length
  · obtain ⟨x, hx⟩ : ∃ x, l[j]? = some x := ⟨_, List.getElem?_eq_getElem hlt⟩
    have hm' := List.mem_of_getElem? hx
    have hxt := sum_mem_le Tre.total hm'
    have hxe := x.total_eq
    have hxc := mcost_eq x
    have hst := sum_take_next (fun v => 1 + mcost v) hx
    have hsl := sum_take_le (fun v => 1 + mcost v) l (j + 1)
    rw [← mcosts_eq, ← mcosts_eq] at hst
    rw [← mcosts_eq, ← mcosts_eq] at hsl
    have hx0 := mTres_at (k := k) hx
    generalize hK : k + ((mcosts (l.take j) : Nat) : Int) = K at hx0 ⊢
    have hx' : (mTres l k)[(j : Int).toNat]? = some (.mk K (seqB (K + 1) x.bytes.length) (mTres x.items (K + 1 + (x.bytes.length : Nat)))) := by rw [← mTre_eq]; exact hx0
    have hb := heldByteS_ac x.bytes.length (K + 1) (by omega) (by omega) (by omega)
    have hi := ih0 x hm' (K + 1 + (x.bytes.length : Nat)) (by omega) (by omega) (by omega) (by omega)
    unfold tresR at hi
    rw [← Tre.cellsL_eq] at hi
    repeat' (first
 | refine RunsL.step tabOk hn rfl ?_
 | refine RunsL.nil ?_
 | refine Runs.toRegion 30 rfl ?_
 | (refine RunsL.pe hn rfl rfl rfl ?_; first
 | refine ⟨_, pu_callR hb rfl, ?_⟩
 | refine ⟨_, pu_callR hi rfl, ?_⟩)
 | (refine Runs.ctls 30 rfl ?_; first | ((first | refine Runs.cond_yes rfl ?_ ?_ | refine Runs.cond_nno rfl ?_ ?_); · first | omega | rfl | assumption | (simp only [List.length_map]; omega)) | ((first | refine Runs.cond_no rfl ?_ ?_ | refine Runs.cond_nyes rfl ?_ ?_); · first | omega | rfl | assumption | (simp only [List.length_map]; omega)) | refine Runs.ret (ends_ro hm rfl rfl ?_) | exact Runs.ret (ends_cellR hm rfl rfl rfl (Nat.le_of_ble_eq_true rfl) rfl rfl))
 | (refine RunsL.pe hn rfl rfl rfl ?_; first
 | refine ⟨_, pu_add rfl rfl (by omega), ?_⟩
 | refine ⟨_, pu_indexAddr_map rfl rfl (by omega) (by assumption), ?_⟩
        ))
    all_goals first
      | exact next _ _ ⟨rfl, by simp only [look]; exact av_int (by omega), rfl, trivial⟩ hlt trivial rfl
      | (exfalso; omega)
  · obtain rfl : j = l.length := by omega
    repeat' (first
 | refine RunsL.step tabOk hn rfl ?_
 | refine RunsL.nil ?_
 | refine Runs.toRegion 30 rfl ?_
 | (refine Runs.ctls 30 rfl ?_; first | ((first | refine Runs.cond_yes rfl ?_ ?_ | refine Runs.cond_nno rfl ?_ ?_); · first | omega | rfl | assumption | (simp only [List.length_map]; omega)) | ((first | refine Runs.cond_no rfl ?_ ?_ | refine Runs.cond_nyes rfl ?_ ?_); · first | omega | rfl | assumption | (simp only [List.length_map]; omega)) | refine Runs.ret (ends_ro hm rfl rfl ?_) | exact Runs.ret (ends_cellR hm rfl rfl rfl (Nat.le_of_ble_eq_true rfl) rfl rfl))
 | (refine RunsL.pe hn rfl rfl rfl ?_; first
 | refine ⟨_, pu_add rfl rfl (by omega), ?_⟩
 | refine ⟨_, pu_indexAddr_map rfl rfl (by omega) (by assumption), ?_⟩
        ))
    all_goals first
      | (rw [List.take_length]; first | done | exact rr_int rfl)
      | (exfalso; omega)
theorem heldTre_ac : ∀ v : Tre, ∀ k : Int, 0 ≤ k → k ≤ 1099513724928 → k + (mcosts v.items : Nat) ≤ 1099513724928 → v.total ≤ 1048576 → ACv Try.prog 63 [tresR (mTres v.items k), .int k] (.int (k + (mcosts v.items : Nat))) := by
  refine Tre.ind fun v ih k h0 hk hk' ht => ?_
  have he := v.total_eq
  exact heldTreS_ac v.items ih k h0 hk hk' (by omega) (by omega)
theorem heldValue_ac (v : Tre) (k : Int) (h0 : 0 ≤ k) (hk : k ≤ 1099511627776) (ht : v.total ≤ 1048576) : ACv Try.prog 16 [treR (mTop v k), .int k] (.int (k + (v.bytes.length : Nat) + (mcosts v.items : Nat))) := by
  have hc := mitems_le v
  have e : treR (mTop v k) = .agg [.int v.number, bytesR (seqB k v.bytes.length), tresR (mTres v.items (k + (v.bytes.length : Nat)))] := by unfold mTop; rfl
  have hb := heldByteS_ac v.bytes.length k (by omega) (by omega) (by omega)
  have hi := heldTre_ac v (k + (v.bytes.length : Nat)) (by omega) (by omega) (by omega) ht
  rw [e]
  refine ac_enter Try.func16 rfl _ Try.ntmps16 (by simp) fun C hn hm => ?_
  repeat' (first
 | refine RunsL.step tabOk hn rfl ?_
 | refine RunsL.nil ?_
 | refine Runs.toRegion 30 rfl ?_
 | (refine RunsL.pe hn rfl rfl rfl ?_; first
 | refine ⟨_, pu_callR hb rfl, ?_⟩
 | refine ⟨_, pu_callR hi rfl, ?_⟩)
 | (refine Runs.ctls 30 rfl ?_; first | ((first | refine Runs.cond_yes rfl ?_ ?_ | refine Runs.cond_nno rfl ?_ ?_); · first | omega | rfl | assumption | (simp only [List.length_map]; omega)) | ((first | refine Runs.cond_no rfl ?_ ?_ | refine Runs.cond_nyes rfl ?_ ?_); · first | omega | rfl | assumption | (simp only [List.length_map]; omega)) | refine Runs.ret (ends_ro hm rfl rfl ?_) | exact Runs.ret (ends_cellR hm rfl rfl rfl (Nat.le_of_ble_eq_true rfl) rfl rfl))
 | refine op_box rfl (tl hn rfl) ?_
    )
  all_goals first
    | exact rr_int rfl
    | (exfalso; omega)
end Go.Proofs.Ytnecoghfhcimeaa
