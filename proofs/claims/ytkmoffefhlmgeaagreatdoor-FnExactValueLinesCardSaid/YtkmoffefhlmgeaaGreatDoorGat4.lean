/- Gathered texts. -/
import Derived.Test.YtkmoffefhlmgeaaGreatDoorGat0
import Derived.Test.YtkmoffefhlmgeaaGreatDoorGat1
import Derived.Test.YtkmoffefhlmgeaaGreatDoorGat2
import Derived.Test.YtkmoffefhlmgeaaGreatDoorGat3
import Derived.Shelf.Lays
import Derived.Shelf.Strings.OnBuilder
import Derived.Test.YtkmoffefhlmgeaaGreatDoorProg
import Derived.Laws.Tables
/- Names of errors, texts of numbers, of errors and of instructions: both sides. -/
namespace Go.Proofs.YtkmoffefhlmgeaaGreatDoor
set_option linter.unusedSimpArgs false
set_option linter.unusedVariables false
set_option linter.unusedSectionVars false
set_option maxRecDepth 100000
open Go.RowKit
def fmtI (n : Int) : ByteArray := ⟨(Lib.itoa n).toArray⟩
theorem fmtI_len (n : Int) (hI : I64 n) : (fmtI n).size ≤ 20 := by unfold fmtI; rw [ba_size]; exact itoa_len n hI.1 hI.2
theorem cat_size (a b : ByteArray) : (a ++ b).size = a.size + b.size := by simp
theorem impl_FormatNumberText (n : Int) (hI : I64 n) (a b c : ByteArray) (ha : a.size ≤ 4398046511104) (hb' : b.size ≤ 4398046511104) (hc : c.size ≤ 4398046511104) : ACtv TabT Tryz.prog 49 [.int n, .str a, .str b, .str c] (.str (((fmtI n ++ a) ++ b) ++ c)) := by
  have hf := impl_FormatInt n hI
  have hl := fmtI_len n hI
  have e1 := cat_size (fmtI n) a
  have e2 := cat_size (fmtI n ++ a) b
  refine act_enter tabT_lasts Tryz.func49 rfl _ Tryz.ntmps49 (by simp) fun C hn hm hb => ?_
  repeat' (first
 | refine RunsL.step tabOk hn rfl ?_
 | refine RunsL.nil ?_
 | refine Runs.toRegion 30 rfl ?_
 | (refine RunsL.pe hn rfl rfl rfl ?_; first
 | refine ⟨_, pu_callW (r := .str (fmtI n)) hb hf rfl, ?_⟩
 | refine ⟨_, pu_cat rfl rfl (by omega), ?_⟩)
 | (refine Runs.ctls 30 rfl ?_; first | ((first | refine Runs.cond_yes rfl ?_ ?_ | refine Runs.cond_nno rfl ?_ ?_); · first | omega | rfl | assumption | (simp only [List.length_map]; omega)) | ((first | refine Runs.cond_no rfl ?_ ?_ | refine Runs.cond_nyes rfl ?_ ?_); · first | omega | rfl | assumption | (simp only [List.length_map]; omega)) | refine Runs.ret (ends_ro hm rfl rfl ?_) | exact Runs.ret (ends_cellR hm rfl rfl rfl (Nat.le_of_ble_eq_true rfl) rfl rfl))
    )
  exact rr_ro rfl
theorem spec_FormatNumberText (n : Int) (hI : I64 n) (a b c : ByteArray) (ha : a.size ≤ 4398046511104) (hb' : b.size ≤ 4398046511104) (hc : c.size ≤ 4398046511104) : ACv Tryz.prog 39 [.int n, .str a, .str b, .str c] (.str (((fmtI n ++ a) ++ b) ++ c)) := by
  have hf := spec_FormatInt n hI
  have hl := fmtI_len n hI
  have e1 := cat_size (fmtI n) a
  have e2 := cat_size (fmtI n ++ a) b
  refine ac_enter Tryz.func39 rfl _ Tryz.ntmps39 (by simp) fun C hn hm => ?_
  repeat' (first
 | refine RunsL.step tabOk hn rfl ?_
 | refine RunsL.nil ?_
 | refine Runs.toRegion 30 rfl ?_
 | (refine RunsL.pe hn rfl rfl rfl ?_; first
 | refine ⟨_, pu_callR (r := .str (fmtI n)) hf rfl, ?_⟩
 | refine ⟨_, pu_cat rfl rfl (by omega), ?_⟩)
 | (refine Runs.ctls 30 rfl ?_; first | ((first | refine Runs.cond_yes rfl ?_ ?_ | refine Runs.cond_nno rfl ?_ ?_); · first | omega | rfl | assumption | (simp only [List.length_map]; omega)) | ((first | refine Runs.cond_no rfl ?_ ?_ | refine Runs.cond_nyes rfl ?_ ?_); · first | omega | rfl | assumption | (simp only [List.length_map]; omega)) | refine Runs.ret (ends_ro hm rfl rfl ?_) | exact Runs.ret (ends_cellR hm rfl rfl rfl (Nat.le_of_ble_eq_true rfl) rfl rfl))
    )
  exact rr_ro rfl
end Go.Proofs.YtkmoffefhlmgeaaGreatDoor
/- The shelf's contract of strings.Join, laid at this program (by the kit's lay-shelf and lay-plain). -/
namespace Go.Proofs.YtkmoffefhlmgeaaGreatDoor
set_option linter.unusedSimpArgs false
set_option linter.unusedVariables false
set_option linter.unusedSectionVars false
set_option maxRecDepth 100000
open Go.Shelf
def lays156_ren : Go.Shelf.Ren := ⟨fun | 156 => 65 | 165 => 76 | 166 => 77 | 169 => 78 | 240 => 86 | 241 => 87 | 276 => 98 | 277 => 99 | n => n, fun | 31 => 31 | 9 => 9 | 3 => 3 | 4 => 4 | 0 => 0 | 20 => 20 | 72 => 103 | 76 => 107 | 70 => 101 | 37 => 25 | 75 => 106 | 127 => 115 | 164 => 125 | 5 => 5 | 80 => 109 | n => n, fun | n => n⟩
theorem lays156 : Go.Proofs.Lays.n156 Tryz.prog lays156_ren := {
  mixed := by kernel_rfl
  f156 := Tryz.func65.trans (congrArg some (by kernel_rfl))
  f165 := Tryz.func76.trans (congrArg some (by kernel_rfl))
  f166 := Tryz.func77.trans (congrArg some (by kernel_rfl))
  f169 := Tryz.func78.trans (congrArg some (by kernel_rfl))
  f240 := Tryz.func86.trans (congrArg some (by kernel_rfl))
  f241 := Tryz.func87.trans (congrArg some (by kernel_rfl))
  f276 := Tryz.func98.trans (congrArg some (by kernel_rfl))
  f277 := Tryz.func99.trans (congrArg some (by kernel_rfl))
  t0 := Tryz.underlying0
  a0 := Tryz.isAgg0
  z0 := Tryz.sizeOf0
  v0 := Tryz.zeroValue0
  t3 := Tryz.underlying3
  a3 := Tryz.isAgg3
  z3 := Tryz.sizeOf3
  v3 := Tryz.zeroValue3
  t4 := Tryz.underlying4
  a4 := Tryz.isAgg4
  z4 := Tryz.sizeOf4
  v4 := Tryz.zeroValue4
  t9 := Tryz.underlying9
  a9 := Tryz.isAgg9
  z9 := Tryz.sizeOf9
  v9 := Tryz.zeroValue9
  t20 := Tryz.underlying20
  a20 := Tryz.isAgg20
  z20 := Tryz.sizeOf20
  v20 := Tryz.zeroValue20
  t31 := Tryz.underlying31
  a31 := Tryz.isAgg31
  z31 := Tryz.sizeOf31
  v31 := Tryz.zeroValue31
  t37 := Tryz.underlying25
  a37 := Tryz.isAgg25
  z37 := Tryz.sizeOf25
  v37 := Tryz.zeroValue25
  t70 := Tryz.underlying101
  a70 := Tryz.isAgg101
  z70 := Tryz.sizeOf101
  v70 := Tryz.zeroValue101
  t72 := Tryz.underlying103
  a72 := Tryz.isAgg103
  z72 := Tryz.sizeOf103
  v72 := Tryz.zeroValue103
  t75 := Tryz.underlying106
  a75 := Tryz.isAgg106
  z75 := Tryz.sizeOf106
  v75 := Tryz.zeroValue106
  t76 := Tryz.underlying107
  a76 := Tryz.isAgg107
  z76 := Tryz.sizeOf107
  v76 := Tryz.zeroValue107
  t127 := Tryz.underlying115
  a127 := Tryz.isAgg115
  z127 := Tryz.sizeOf115
  v127 := Tryz.zeroValue115
  t164 := Tryz.underlying125
  a164 := Tryz.isAgg125
  z164 := Tryz.sizeOf125
  v164 := Tryz.zeroValue125 }
theorem Builder_Extra_156 : Builder.Extra Tryz.prog lays156_ren := {
  sizeBuilder := by kernel_rfl
  liesBuilder := by kernel_rfl
  t5 := Tryz.underlying5
  a5 := Tryz.isAgg5
  z5 := Tryz.sizeOf5
  v5 := Tryz.zeroValue5
  infoByte := by kernel_rfl
  cellsByte := by kernel_rfl
  sizeByte := by kernel_rfl
  neB5 := by decide }
end Go.Proofs.YtkmoffefhlmgeaaGreatDoor
/- Texts joined with a separator: the library's strings.Join on rows of texts. -/
namespace Go.Proofs.YtkmoffefhlmgeaaGreatDoor
set_option linter.unusedSimpArgs false
set_option linter.unusedVariables false
set_option linter.unusedSectionVars false
set_option maxRecDepth 100000
open Go.RowKit
def strsR' (ss : List ByteArray) : RV := .seq 1 (ss.map fun s => [RV.str s])
def joinT (ss : List ByteArray) (sep : ByteArray) : ByteArray := ⟨(Lib.join (ss.map (·.data.toList)) sep.data.toList).toArray⟩
theorem ext_ba {a b : ByteArray} (h : a.data.toList = b.data.toList) : a = b := by
  cases a; cases b
  simp only at h
  rw [Array.toList_inj] at h
  rw [h]
theorem joinT_nil (sep : ByteArray) : joinT [] sep = ⟨#[]⟩ := rfl
theorem joinT_one (s sep : ByteArray) : joinT [s] sep = s := ext_ba (by unfold joinT; simp [Lib.join_one])
theorem joinT_app (ss : List ByteArray) (s sep : ByteArray) (h : ss ≠ []) : joinT (ss ++ [s]) sep = (joinT ss sep ++ sep) ++ s := by
  obtain ⟨x, r, rfl⟩ : ∃ x r, ss = x :: r := by cases ss with
    | nil => exact absurd rfl h
    | cons x r => exact ⟨x, r, rfl⟩
  refine ext_ba ?_
  unfold joinT
  rw [List.cons_append, List.map_cons, List.map_cons, Lib.join_cons, Lib.join_cons]
  simp [Lib.joinTail]
theorem joinT_size (ss : List ByteArray) (sep : ByteArray) : (joinT ss sep).size ≤ (ss.map fun s => s.size + sep.size).sum := by
  have hs : ∀ a : ByteArray, a.data.toList.length = a.size := fun a => by rw [Array.length_toList]; rfl
  cases ss with
  | nil => exact Nat.zero_le _
  | cons x r =>
    have h1 : (joinT (x :: r) sep).size = x.size + (Lib.joinTail sep.data.toList (r.map (·.data.toList))).length := by
      rw [← hs]
      unfold joinT
      rw [List.map_cons, Lib.join_cons]
      simp only [List.length_append, hs]
    have h2 : ∀ r : List ByteArray, (Lib.joinTail sep.data.toList (r.map (·.data.toList))).length = (r.map fun s => s.size + sep.size).sum := fun r => by
      induction r with
      | nil => rfl
      | cons y r ih =>
        have e : Lib.joinTail sep.data.toList ((y :: r).map (·.data.toList)) = (sep.data.toList ++ y.data.toList) ++ Lib.joinTail sep.data.toList (r.map (·.data.toList)) := rfl
        rw [e, List.length_append, List.length_append, ih, hs, hs, List.map_cons, List.sum_cons]
        omega
    rw [h1, h2, List.map_cons, List.sum_cons]
    omega
theorem strings_Join_ac (ss : List ByteArray) (sep : ByteArray) (hN : ss.length ≤ 140737488355328) (hlen : (joinT ss sep).size ≤ 140737488355328) : ACv Tryz.prog 65 [strsR' ss, .str sep] (.str (joinT ss sep)) := by
  intro w ok us h0 hu
  obtain ⟨v, rest, hus, hv, hr⟩ := hu
  obtain ⟨z, rest2, hz, hz1, hz2⟩ := hr
  have hz2' : rest2 = [] := hz2
  subst hz2'
  have hz1' : z = .string sep := hz1
  subst hz1'
  obtain ⟨A, n, c, hA, hn, hc, hcm, hb⟩ := hv
  subst hA
  have hua : us = #[.slice A n c, .string sep] := by
    cases us
    simp only at hus
    rw [hus, hz]
  subst hua
  have hnl : n = ss.length := by rw [hn, List.length_map]
  have hsz : (Lib.join (ss.map (·.data.toList)) sep.data.toList).length ≤ 140737488355328 := by
    have : (joinT ss sep).size = (Lib.join (ss.map (·.data.toList)) sep.data.toList).length := by unfold joinT; show Array.size _ = _; simp
    omega
  by_cases h : ss = []
  · subst h
    have hn0 : n = 0 := by simpa using hnl
    subst hn0
    refine (Go.Proofs.Any.strings_Join_none lays156 Builder_Extra_156 A c sep w).mono ?_
    rintro e w' ⟨rfl, rfl⟩
    exact ⟨_, _, [], rfl, rfl, ⟨rfl, rfl⟩, List.nodup_nil, by simp, Below.refl _ _⟩
  · have hpos : 0 < n := by rw [hnl]; exact List.length_pos_iff.2 h
    obtain ⟨b, o, hAb, hbl, hbo, hE⟩ := hb hpos
    subst hAb
    subst hnl
    refine (Go.Proofs.Any.strings_Join lays156 Builder_Extra_156 b o c ss sep w (fun j x hx => ?_) hbl hN hc hsz).mono ?_
    · have hj : (ss.map fun s => [RV.str s])[j]? = some [RV.str x] := by rw [List.getElem?_map, hx]; rfl
      obtain ⟨_, hat⟩ := RV.relE_at _ o 1 hE j _ hj
      obtain ⟨⟨u, h1, _, h3⟩, _⟩ := hat
      rw [Nat.mul_one] at h1
      rw [h1]
      exact congrArg some h3
    · rintro e w' ⟨rfl, hB⟩
      exact ⟨_, _, [], rfl, rfl, ⟨rfl, rfl⟩, List.nodup_nil, by simp, hB⟩
instance fn_join : FN Tryz.prog 65 Tryz.f65 := ⟨Tryz.func65, by kernel_rfl, by kernel_rfl⟩
theorem impl_JoinText (ss : List ByteArray) (sep : ByteArray) (hN : ss.length ≤ 140737488355328) (hlen : (joinT ss sep).size ≤ 140737488355328) : ACv Tryz.prog 48 [strsR' ss, .str sep] (.str (joinT ss sep)) := by
  have hj := strings_Join_ac ss sep hN hlen
  refine ac_enter Tryz.func48 rfl _ Tryz.ntmps48 (by simp) fun C hn hm => ?_
  repeat' (first
 | refine RunsL.step tabOk hn rfl ?_
 | refine RunsL.nil ?_
 | refine Runs.toRegion 30 rfl ?_
 | (refine RunsL.pe hn rfl rfl rfl ?_; first
 | refine ⟨_, pu_callR hj rfl, ?_⟩)
 | (refine Runs.ctls 30 rfl ?_; first | ((first | refine Runs.cond_yes rfl ?_ ?_ | refine Runs.cond_nno rfl ?_ ?_); · first | omega | rfl | assumption | (simp only [List.length_map]; omega)) | ((first | refine Runs.cond_no rfl ?_ ?_ | refine Runs.cond_nyes rfl ?_ ?_); · first | omega | rfl | assumption | (simp only [List.length_map]; omega)) | refine Runs.ret (ends_ro hm rfl rfl ?_) | exact Runs.ret (ends_cellR hm rfl rfl rfl (Nat.le_of_ble_eq_true rfl) rfl rfl))
    )
  exact rr_ro rfl
end Go.Proofs.YtkmoffefhlmgeaaGreatDoor
/- Struct literals. Over any program. -/
namespace Go.Proofs.YtkmoffefhlmgeaaGreatDoor
set_option linter.unusedSimpArgs false
set_option linter.unusedVariables false
set_option linter.unusedSectionVars false
set_option maxRecDepth 100000
open Go.RowKit
open AV (Mem Keeps)
class TB (P : Program) (t : TypeId) (pl : outParam (List (Nat × Nat))) (zs : outParam (List Value)) : Prop where
  h : ∃ it fields z, P.info? t = some it ∧ P.underlying t = some (.struct fields) ∧ it.zero = some z ∧ z.cells = zs.toArray ∧ fields.toList.mapM (fun f => (P.info? f.type).map fun i => (f.offset, i.size)) = some pl ∧ ∀ x ∈ zs, x.oneCell' = true
def fillA (pl : List (Nat × Nat)) (env : Env) : List AV → List (Nat × Operand) → Option (List AV)
  | cells, [] => some cells
  | cells, (i, x) :: l => match pl[i]? with
    | some (off, size) => match cells? (ev env x) with
      | some cs => match Nat.beq cs.length size, Nat.ble (off + size) cells.length with
        | true, true => fillA pl env (setsAt cells off cs) l
        | _, _ => none
      | none => none
    | none => none
def aggOf (vs : List AV) : AV := match allRo vs with
  | some rs => .ro (.agg rs)
  | none => .agg vs
theorem sets_array {m : Mem} : ∀ (us : List Value) (k : Nat) (cells : Array Value) (off : Nat) (cs vs : List AV), us.length = cs.length → (∀ (j : Nat) x, cs[j]? = some x → ∃ y, us[j]? = some y ∧ y.oneCell' = true ∧ AV.rel m x y) →
    off + k + cs.length ≤ vs.length → cells.size = vs.length → (∀ (j : Nat) x, vs[j]? = some x → ∃ y, cells[j]? = some y ∧ y.oneCell' = true ∧ AV.rel m x y) →
    ((us.zipIdx k).foldl (fun cs (c, j) => cs.setIfInBounds (off + j) c) cells).size = vs.length ∧ ∀ (j : Nat) x, (setsAt vs (off + k) cs)[j]? = some x → ∃ y, ((us.zipIdx k).foldl (fun cs (c, j) => cs.setIfInBounds (off + j) c) cells)[j]? = some y ∧ y.oneCell' = true ∧ AV.rel m x y
  | [], k, cells, off, cs, vs, hl, hc, hle, hs, hv => by
    have : cs = [] := List.eq_nil_of_length_eq_zero (by simpa using hl.symm)
    subst this
    exact ⟨hs, hv⟩
  | u :: us, k, cells, off, [], vs, hl, hc, hle, hs, hv => by simp at hl
  | u :: us, k, cells, off, c :: cs, vs, hl, hc, hle, hs, hv => by
    simp only [List.length_cons] at hl hle
    rw [List.zipIdx_cons, List.foldl_cons, setsAt]
    have := sets_array us (k + 1) (cells.setIfInBounds (off + k) u) off cs (vs.set (off + k) c) (by omega) (fun j x hj => hc (j + 1) x (by simpa using hj)) (by simp; omega) (by simpa using hs) (fun j x hj => by
      rw [List.getElem?_set] at hj
      split at hj
      · rename_i e
        subst e
        split at hj
        · injection hj with hj; subst hj
          obtain ⟨y, e1, e2, e3⟩ := hc 0 c (by simp)
          simp only [List.getElem?_cons_zero, Option.some.injEq] at e1
          subst e1
          exact ⟨u, Array.getElem?_setIfInBounds_self_of_lt (by omega), e2, e3⟩
        · cases hj
      · rename_i e
        obtain ⟨y, e1, e2, e3⟩ := hv j x hj
        exact ⟨y, by rw [Array.getElem?_setIfInBounds_ne e]; exact e1, e2, e3⟩)
    rw [List.length_set] at this
    rwa [show off + (k + 1) = off + k + 1 by omega] at this
theorem fillA_ok {m : Mem} {env : Env} {a : Act} {pl : List (Nat × Nat)} : ∀ (l : List (Nat × Operand)) (vs vs' : List AV) (cells : Array Value), (∀ p ∈ l, AV.rel m (ev env p.2) (a.eval p.2)) → cells.size = vs.length → (∀ (j : Nat) x, vs[j]? = some x → ∃ y, cells[j]? = some y ∧ y.oneCell' = true ∧ AV.rel m x y) →
    fillA pl env vs l = some vs' → ∃ cells', Instr.fill (pl.toArray[·]?) cells (l.map fun p => (p.1, a.eval p.2)) = some cells' ∧ cells'.size = vs'.length ∧ ∀ (j : Nat) x, vs'[j]? = some x → ∃ y, cells'[j]? = some y ∧ y.oneCell' = true ∧ AV.rel m x y
  | [], vs, vs', cells, _, hs, hv, h => by
    simp only [fillA, Option.some.injEq] at h
    subst h
    exact ⟨cells, rfl, hs, hv⟩
  | (i, x) :: l, vs, vs', cells, hH, hs, hv, h => by
    unfold fillA at h
    split at h
    · rename_i off size hp
      split at h
      · rename_i cs hc
        split at h
        · rename_i hb1 hb2
          have e1 := Nat.eq_of_beq_eq_true hb1
          have e2 := Nat.le_of_ble_eq_true hb2
          obtain ⟨c1, c2⟩ := cells_rel (hH (i, x) (by simp)) hc
          obtain ⟨k1, k2⟩ := sets_array (m := m) (a.eval x).cells.toList 0 cells off cs vs (by simpa using c1) (fun j y hj => by simpa using c2 j y hj) (by omega) hs hv
          rw [Nat.add_zero] at k2
          obtain ⟨cells', q1, q2⟩ := fillA_ok l _ vs' _ (fun p hp => hH p (by simp [hp])) (by rw [setsAt_len]; exact k1) k2 h
          refine ⟨cells', ?_, q2⟩
          simp only [List.map_cons, Instr.fill]
          have : pl.toArray[i]? = some (off, size) := by simpa using hp
          rw [this]
          simp only
          have c1' : (a.eval x).cells.size = cs.length := c1
          rw [if_neg (by rw [c1']; simp; omega), ← q1]
          congr 1
          rw [← Array.foldl_toList, Array.toList_zipIdx]
        · cases h
      · cases h
    · cases h
section
variable {P : Program} {C : Ctx} {env : Env} {σ : List Ob} {t : Nat} {ty : TypeId} {pos : String} {after : Array Edge} {gd : Option (Nat × Bool)}
theorem pu_buildS {tt : TypeId} {parts : Array (Nat × Operand)} {pl : List (Nat × Nat)} {zs : List Value} {vs : List AV} [hb : TB P tt pl zs] (h : fillA pl env (zs.map fun v => .ro (.c v)) parts.toList = some vs) :
    Pur P C ⟨some t, .build tt parts, ty, pos, after, gd⟩ env σ (aggOf vs) :=
  Pur.of (fun a m hG hσ hH => by
    obtain ⟨it, fields, z, h1, h2, h3, h4, h5, h6⟩ := hb.h
    obtain ⟨cells', q1, q2, q3⟩ := fillA_ok (m := m) (a := a) parts.toList _ vs zs.toArray (fun p hp => hH p.2 (by simp [Op.operands]; exact ⟨p.1, by simpa using hp⟩)) (by simp) (fun j x hj => by
      rw [List.getElem?_map, Option.map_eq_some_iff] at hj
      obtain ⟨y, hy, rfl⟩ := hj
      exact ⟨y, by simpa using hy, h6 y (List.mem_of_getElem? hy), by simp [AV.rel, RV.rel]⟩) h
    have hbt : P.built tt (parts.map fun p => (p.1, a.eval p.2)).toList = some cells' := by
      unfold Program.built
      simp only [h1, h2, h3, h5, h4]
      rw [Array.toList_map]
      exact q1
    refine ⟨.agg cells', by simp only [execOp]; exact by simp [run_build m.w tt _ _ hbt], ?_⟩
    have hrel : AV.rels m vs cells'.toList := AV.rels_of _ _ (by simpa using q2) fun j r u hj hu => by
      obtain ⟨y, e1, _, e3⟩ := q3 j r hj
      have : y = u := by simpa [e1] using hu
      rwa [this] at e3
    unfold aggOf
    split
    · rename_i rs hrs
      rw [allRo_eq hrs] at hrel
      simp only [AV.rel, RV.rel]
      exact ⟨_, rfl, rels_ro_inv _ _ hrel⟩
    · simp only [AV.rel]
      exact ⟨_, rfl, hrel⟩)
end
end Go.Proofs.YtkmoffefhlmgeaaGreatDoor
/- Values behind an interface: made, and asked for their type; calls of closures that want a fact of the world. Over any program. -/
namespace Go.Proofs.YtkmoffefhlmgeaaGreatDoor
set_option linter.unusedSimpArgs false
set_option linter.unusedVariables false
set_option linter.unusedSectionVars false
set_option maxRecDepth 100000
open Go.RowKit
open AV (Mem Keeps)
class ST (P : Program) (t : TypeId) (z : outParam Value) : Prop where
  h : ∃ it fields, P.info? t = some it ∧ P.underlying t = some (.struct fields) ∧ it.zero = some z
section
variable {T : World → Prop} {P : Program} {C : Ctx} {env : Env} {σ : List Ob} {t : Nat} {ty : TypeId} {pos : String} {after : Array Edge} {gd : Option (Nat × Bool)}
theorem pu_makeIfc {xt : TypeId} {x : Operand} {r : RV} {z : Value} [hs : ST P xt z] (hx : ev env x = .ro r) : Pur P C ⟨some t, .makeInterface xt x, ty, pos, after, gd⟩ env σ (.ro (.ifc xt r)) :=
  Pur.of fun a m hG hσ hH => by
    obtain ⟨it, fields, h1, h2, h3⟩ := hs.h
    have h := hH x (by simp [Op.operands, Call.operands])
    rw [hx] at h
    simp only [AV.rel] at h
    refine ⟨.iface xt (a.eval x), by simp [execOp, Instr.makeInterface, run_underlying h2], ?_⟩
    simp only [AV.rel, RV.rel]
    exact ⟨_, rfl, h⟩
theorem pu_tsHit {xt u : TypeId} {x : Operand} {r : RV} {z : Value} [hs : ST P u z] (hx : ev env x = .ro (.ifc u r)) : Pur P C ⟨some t, .typeAssert x xt u true, ty, pos, after, gd⟩ env σ (.ro (.tup [r, .bool true])) :=
  Pur.of fun a m hG hσ hH => by
    obtain ⟨it, fields, h1, h2, h3⟩ := hs.h
    have h := hH x (by simp [Op.operands, Call.operands])
    rw [hx] at h
    simp only [AV.rel, RV.rel] at h
    obtain ⟨v, e, h⟩ := h
    refine ⟨.tuple #[v, .bool true], by simp [execOp, e, Instr.typeAssert, run_underlying h2], ?_⟩
    simp only [AV.rel, RV.rel, RV.rels]
    exact ⟨_, rfl, _, _, rfl, h, _, _, rfl, rfl, rfl⟩
theorem pu_tsMiss {xt u u' : TypeId} {x : Operand} {r : RV} {z : Value} [hs : ST P u z] (hx : ev env x = .ro (.ifc u' r)) (hne : Nat.beq u' u = false) : Pur P C ⟨some t, .typeAssert x xt u true, ty, pos, after, gd⟩ env σ (.ro (.tup [constRV z, .bool false])) :=
  Pur.of fun a m hG hσ hH => by
    obtain ⟨it, fields, h1, h2, h3⟩ := hs.h
    have h := hH x (by simp [Op.operands, Call.operands])
    rw [hx] at h
    simp only [AV.rel, RV.rel] at h
    obtain ⟨v, e, h⟩ := h
    have hn : ¬ u' = u := fun e => by subst e; simp at hne
    refine ⟨.tuple #[z, .bool false], by simp [execOp, e, Instr.typeAssert, run_underlying h2, hn, zeroValue, typeInfo, h1, h3], ?_⟩
    simp only [AV.rel, RV.rel, RV.rels]
    exact ⟨_, rfl, _, _, rfl, const_rel z, _, _, rfl, rfl, rfl⟩
theorem pu_callFW {f : FuncId} {fn : Func} {x : Operand} {xs : Array Operand} {ats : Array TypeId} {args : List RV} {v : Value} {first cap : List AV} [hfn : FN P f fn] (hb : Bears T C) (hx : ev env x = .fn (.func f) first cap) (hf : ACtv T P f args (.c v)) (ha : LendsL C σ (first ++ xs.toList.map (ev env) ++ cap) args) :
    Pur P C ⟨some t, .call { callee := .value x, args := xs, argTypes := ats }, ty, pos, after, gd⟩ env σ (.ro (.c v)) := by
  refine ⟨fun a m hG hσ hH K Q hK => ?_⟩
  have h0 := hH x (by simp [Op.operands, Call.operands])
  rw [hx] at h0
  simp only [AV.rel] at h0
  obtain ⟨us, vs, e, hu, hv⟩ := h0
  have hm := rels_eval (a := a) (m := m) xs.toList fun x hx => hH x (by simp [Op.operands, Call.operands]; exact .inr (by simpa using hx))
  have app : ∀ {xs ys : List AV} {us vs : List Value}, AV.rels m xs us → AV.rels m ys vs → AV.rels m (xs ++ ys) (us ++ vs) := by
    intro xs
    induction xs with
    | nil => intro ys us vs h1 h2; simp only [AV.rels] at h1; subst h1; simpa using h2
    | cons x xs ih =>
      intro ys us vs h1 h2
      simp only [AV.rels] at h1
      obtain ⟨u, us', rfl, k1, k2⟩ := h1
      simp only [List.cons_append, AV.rels]
      exact ⟨u, us' ++ vs, rfl, k1, ih k2 h2⟩
  have hr := LendsL.rels (ok' := fun _ => True) hG hσ (fun _ _ => trivial) (fun _ _ _ _ => trivial) ha _ (app (app hu hm) hv)
  unfold Oper.wp execOp
  simp only [resolve, e, Deferred.ofValue, Sem.run_bind, Sem.run_pure, Result.andThen_ok, invoke]
  rw [run_call hfn]
  simp only [Oper.upon]
  refine (hf m.w (fun _ => True) _ (hb m hG) (fun _ _ => trivial) (by simpa using hr)).mono ?_
  rintro e w' ⟨u, rr, bs, rfl, rfl, h1, _, _, h4⟩
  simp only [RR.rel, RV.rel] at h1
  refine hK u w' h4 ?_
  simp only [AV.rel, RV.rel]
  exact h1.1
theorem pu_callLW {f : FuncId} {fn : Func} {xs : Array Operand} {ats : Array TypeId} {args : List RV} {v : Value} [hfn : FN P f fn] (hb : Bears T C) (hf : ACtv T P f args (.c v)) (ha : LendsL C σ (xs.toList.map (ev env)) args) :
    Pur P C ⟨some t, .call { callee := .value (.func f), args := xs, argTypes := ats }, ty, pos, after, gd⟩ env σ (.ro (.c v)) := by
  refine ⟨fun a m hG hσ hH K Q hK => ?_⟩
  have hm := rels_eval (a := a) (m := m) xs.toList fun x hx => hH x (by simp [Op.operands, Call.operands]; exact .inr (by simpa using hx))
  have hr := LendsL.rels (ok' := fun _ => True) hG hσ (fun _ _ => trivial) (fun _ _ _ _ => trivial) ha _ hm
  unfold Oper.wp
  rw [execOp_call_go, run_call hfn]
  simp only [Oper.upon]
  refine (hf m.w (fun _ => True) _ (hb m hG) (fun _ _ => trivial) (by simpa using hr)).mono ?_
  rintro e w' ⟨u, rr, bs, rfl, rfl, h1, _, _, h4⟩
  simp only [RR.rel, RV.rel] at h1
  refine hK u w' h4 ?_
  simp only [AV.rel, RV.rel]
  exact h1.1
end
end Go.Proofs.YtkmoffefhlmgeaaGreatDoor
/- Values as texts: the parts, both sides. -/
namespace Go.Proofs.YtkmoffefhlmgeaaGreatDoor
set_option linter.unusedSimpArgs false
set_option linter.unusedVariables false
set_option linter.unusedSectionVars false
set_option maxRecDepth 100000
open Go.RowKit
open AV (Mem Keeps)
theorem list_pick {α : Type} {Q : Nat → α → ByteArray → Prop} : ∀ (l : List α), (∀ (i : Nat) y, l[i]? = some y → ∃ s, Q i y s) → ∃ ss : List ByteArray, ss.length = l.length ∧ ∀ (i : Nat) y s, l[i]? = some y → ss[i]? = some s → Q i y s := by
  intro l
  induction l generalizing Q with
  | nil => exact fun _ => ⟨[], rfl, fun i y s h => by simp at h⟩
  | cons y l ih =>
    intro h
    obtain ⟨s, hs⟩ := h 0 y rfl
    obtain ⟨ss, h1, h2⟩ := ih (Q := fun i => Q (i + 1)) fun i z hz => h (i + 1) z (by simpa using hz)
    refine ⟨s :: ss, by simp [h1], fun i z t hz ht => ?_⟩
    cases i with
    | zero => simp at hz ht; subst hz; subst ht; exact hs
    | succ i => exact h2 i z t (by simpa using hz) (by simpa using ht)
def sComma : ByteArray := ⟨#[44]⟩
def sColon : ByteArray := ⟨#[58]⟩
def partT (x : Rul) (i : Nat) (s : ByteArray) : ByteArray := if x.kind = 6 then (((x.names[i]?).getD ⟨#[]⟩) ++ sColon) ++ s else s
def partsT (x : Rul) (ss : List ByteArray) : List ByteArray := (List.range ss.length).map fun i => partT x i ((ss[i]?).getD ⟨#[]⟩)
theorem partsT_len (x : Rul) (ss : List ByteArray) : (partsT x ss).length = ss.length := by simp [partsT]
theorem partsT_at {x : Rul} {ss : List ByteArray} {i : Nat} {s : ByteArray} (h : ss[i]? = some s) : (partsT x ss)[i]? = some (partT x i s) := by
  have hi := (List.getElem?_eq_some_iff.1 h).1
  unfold partsT
  rw [List.getElem?_map, List.getElem?_range hi, Option.map_some, h]
  rfl
theorem partsT_id {x : Rul} (k : x.kind ≠ 6) (ss : List ByteArray) : partsT x ss = ss := by
  apply List.ext_getElem?
  intro i
  by_cases hi : i < ss.length
  · rw [partsT_at (List.getElem?_eq_getElem hi), List.getElem?_eq_getElem hi]
    unfold partT; rw [if_neg k]
  · rw [List.getElem?_eq_none (by rw [partsT_len]; omega), List.getElem?_eq_none (by omega)]
theorem joinT_next {ss : List ByteArray} {j : Nat} {s sep : ByteArray} (h : ss[j]? = some s) : joinT (ss.take (j + 1)) sep = if j = 0 then s else (joinT (ss.take j) sep ++ sep) ++ s := by
  have hj := (List.getElem?_eq_some_iff.1 h).1
  rw [List.take_add_one, h]
  show joinT (ss.take j ++ [s]) sep = _
  by_cases e : j = 0
  · subst e
    rw [if_pos rfl, List.take_zero, List.nil_append, joinT_one]
  · rw [if_neg e, joinT_app]
    intro h0
    have := congrArg List.length h0
    rw [List.length_take] at this
    simp at this
    rcases this with h | h
    · omega
    · subst h; simp at hj
theorem av_str {a b : ByteArray} (h : a = b) : AV.str a = AV.str b := by rw [h]
theorem sum_take_size (l : List ByteArray) (j n : Nat) (h : ((l.map fun s => s.size + 1).sum) ≤ n) : (((l.take j).map fun s => s.size + 1).sum) ≤ n := by
  have := sum_take_le (fun s : ByteArray => s.size + 1) l j
  omega
def shapeR (x : Rul) : RV :=
  if x.kind = 1 then .ifc 78 (.agg []) else if x.kind = 2 then .ifc 79 (.agg []) else if x.kind = 5 then .ifc 80 (.agg [])
  else if x.kind = 6 then .ifc 83 (.agg [strsR x.names]) else if x.kind = 7 then .ifc 84 (.agg []) else if x.kind = 8 then .ifc 85 (.agg [])
  else if x.kind = 9 then .ifc 86 (.agg []) else .ifc 96 (.agg [])
set_option maxRecDepth 100000 in
instance st_number : ST Tryz.prog 78 (.agg #[]) := ⟨_, _, rfl, rfl, rfl⟩
set_option maxRecDepth 100000 in
instance st_const : ST Tryz.prog 79 (.agg #[]) := ⟨_, _, rfl, rfl, rfl⟩
set_option maxRecDepth 100000 in
instance st_list : ST Tryz.prog 80 (.agg #[]) := ⟨_, _, rfl, rfl, rfl⟩
set_option maxRecDepth 100000 in
instance st_parts : ST Tryz.prog 83 (.agg #[.slice none 0 0]) := ⟨_, _, rfl, rfl, rfl⟩
set_option maxRecDepth 100000 in
instance st_choice : ST Tryz.prog 84 (.agg #[]) := ⟨_, _, rfl, rfl, rfl⟩
set_option maxRecDepth 100000 in
instance st_option : ST Tryz.prog 85 (.agg #[]) := ⟨_, _, rfl, rfl, rfl⟩
set_option maxRecDepth 100000 in
instance st_group : ST Tryz.prog 86 (.agg #[]) := ⟨_, _, rfl, rfl, rfl⟩
set_option maxRecDepth 100000 in
instance st_bytes : ST Tryz.prog 96 (.agg #[]) := ⟨_, _, rfl, rfl, rfl⟩
set_option maxRecDepth 100000 in
instance tb_number : TB Tryz.prog 78 [] [] := ⟨_, _, _, rfl, rfl, rfl, rfl, by kernel_rfl, by simp⟩
set_option maxRecDepth 100000 in
instance tb_const : TB Tryz.prog 79 [] [] := ⟨_, _, _, rfl, rfl, rfl, rfl, by kernel_rfl, by simp⟩
set_option maxRecDepth 100000 in
instance tb_list : TB Tryz.prog 80 [] [] := ⟨_, _, _, rfl, rfl, rfl, rfl, by kernel_rfl, by simp⟩
set_option maxRecDepth 100000 in
instance tb_parts : TB Tryz.prog 83 [(0, 1)] [.slice none 0 0] := ⟨_, _, _, rfl, rfl, rfl, rfl, by kernel_rfl, by decide⟩
set_option maxRecDepth 100000 in
instance tb_choice : TB Tryz.prog 84 [] [] := ⟨_, _, _, rfl, rfl, rfl, rfl, by kernel_rfl, by simp⟩
set_option maxRecDepth 100000 in
instance tb_option : TB Tryz.prog 85 [] [] := ⟨_, _, _, rfl, rfl, rfl, rfl, by kernel_rfl, by simp⟩
set_option maxRecDepth 100000 in
instance tb_group : TB Tryz.prog 86 [] [] := ⟨_, _, _, rfl, rfl, rfl, rfl, by kernel_rfl, by simp⟩
set_option maxRecDepth 100000 in
instance tb_bytes : TB Tryz.prog 96 [] [] := ⟨_, _, _, rfl, rfl, rfl, rfl, by kernel_rfl, by simp⟩
set_option maxRecDepth 100000 in
instance tz_number : TZ Tryz.prog 78 [] := ⟨_, _, rfl, rfl, rfl, by simp⟩
set_option maxRecDepth 100000 in
instance tn_number : TN Tryz.prog 78 0 := ⟨by kernel_rfl⟩
set_option maxRecDepth 100000 in
instance tz_const : TZ Tryz.prog 79 [] := ⟨_, _, rfl, rfl, rfl, by simp⟩
set_option maxRecDepth 100000 in
instance tn_const : TN Tryz.prog 79 0 := ⟨by kernel_rfl⟩
set_option maxRecDepth 100000 in
instance tz_list : TZ Tryz.prog 80 [] := ⟨_, _, rfl, rfl, rfl, by simp⟩
set_option maxRecDepth 100000 in
instance tn_list : TN Tryz.prog 80 0 := ⟨by kernel_rfl⟩
set_option maxRecDepth 100000 in
instance tz_choice : TZ Tryz.prog 84 [] := ⟨_, _, rfl, rfl, rfl, by simp⟩
set_option maxRecDepth 100000 in
instance tn_choice : TN Tryz.prog 84 0 := ⟨by kernel_rfl⟩
set_option maxRecDepth 100000 in
instance tz_option : TZ Tryz.prog 85 [] := ⟨_, _, rfl, rfl, rfl, by simp⟩
set_option maxRecDepth 100000 in
instance tn_option : TN Tryz.prog 85 0 := ⟨by kernel_rfl⟩
set_option maxRecDepth 100000 in
instance tz_group : TZ Tryz.prog 86 [] := ⟨_, _, rfl, rfl, rfl, by simp⟩
set_option maxRecDepth 100000 in
instance tn_group : TN Tryz.prog 86 0 := ⟨by kernel_rfl⟩
set_option maxRecDepth 100000 in
instance tz_bytes : TZ Tryz.prog 96 [] := ⟨_, _, rfl, rfl, rfl, by simp⟩
set_option maxRecDepth 100000 in
instance tn_bytes : TN Tryz.prog 96 0 := ⟨by kernel_rfl⟩
set_option maxRecDepth 100000 in
instance tz_parts : TZ Tryz.prog 83 [.slice none 0 0] := ⟨_, _, rfl, rfl, rfl, by decide⟩
set_option maxRecDepth 100000 in
instance tn_parts : TN Tryz.prog 83 1 := ⟨by kernel_rfl⟩
set_option maxHeartbeats 8000000 in
theorem shapeOf_ac (x : Rul) : ACv Tryz.prog 46 [.agg (rulR x)] (shapeR x) := by
  refine ac_enter Tryz.func46 rfl _ Tryz.ntmps46 (by simp) fun C hn hm => ?_
  repeat' (first
 | refine RunsL.step tabOk hn rfl ?_
 | refine RunsL.nil ?_
 | refine Runs.toRegion 30 rfl ?_
 | (refine RunsL.pe hn rfl rfl rfl ?_; first
 | refine ⟨_, pu_buildS rfl, ?_⟩
 | refine ⟨_, pu_makeIfc rfl, ?_⟩)
 | (refine Runs.ctls 30 rfl ?_; first | ((first | refine Runs.cond_yes rfl ?_ ?_ | refine Runs.cond_nno rfl ?_ ?_); · first | omega | rfl | assumption | (simp only [List.length_map]; omega)) | ((first | refine Runs.cond_no rfl ?_ ?_ | refine Runs.cond_nyes rfl ?_ ?_); · first | omega | rfl | assumption | (simp only [List.length_map]; omega)) | refine Runs.cond_dec rfl (fun h => ?_) (fun h => ?_) | refine Runs.ret (ends_ro hm rfl rfl ?_) | exact Runs.ret (ends_cellR hm rfl rfl rfl (Nat.le_of_ble_eq_true rfl) rfl rfl))
 | refine op_box rfl (tl hn rfl) ?_
    )
  all_goals exact rr_ro (by unfold shapeR; simp [*]; try rfl)
set_option maxHeartbeats 8000000 in
theorem l10List_ac (d : Des) (x : Rul) (hk : KindOk d x) (v : Tre) (hv : v.Ok) (ss : List ByteArray) (hl : ss.length = v.items.length) (hi : x.kind = 6 → v.items.length ≤ x.names.length) (hsz : ((partsT x ss).map fun s => s.size + 1).sum ≤ 4398046511104)
    (IH : ∀ (i : Nat) y s, v.items[i]? = some y → ss[i]? = some s → ACv Tryz.prog 21 [desR d, .int (itemR x v.number (i : Int)), treR y] (.str s)) :
    ACv Tryz.prog 37 [desR d, .agg (rulR x), treR v] (.str (joinT (partsT x ss) sComma)) := by
  obtain ⟨o1, o2, o3, o4⟩ := hv.out
  have o3' := o3
  unfold maxLen at o3'
  have hlv : (v.items.map Tre.cells).length = v.items.length := List.length_map ..
  have hpl := partsT_len x ss
  refine ac_enter Tryz.func37 rfl _ Tryz.ntmps37 (by simp) fun C hn hm => ?_
  repeat' (first
 | ((first | refine RunsL.pe hn rfl rfl rfl ?_ | refine RunsD.pe rfl rfl ?_); first
 | refine ⟨_, pu_len_seqN v.items.length rfl hlv, ?_⟩)
 | refine RunsL.step tabOk hn rfl ?_
 | refine RunsL.nil ?_
 | refine Runs.toRegion 30 rfl ?_
 | (refine Runs.ctls 30 rfl ?_; first | refine Runs.cond_f rfl ?_ | ((first | refine Runs.cond_yes rfl ?_ ?_ | refine Runs.cond_nno rfl ?_ ?_); · first | omega | rfl | assumption | (simp only [List.length_map]; omega)) | ((first | refine Runs.cond_no rfl ?_ ?_ | refine Runs.cond_nyes rfl ?_ ?_); · first | omega | rfl | assumption | (simp only [List.length_map]; omega)) | refine Runs.ret (ends_ro hm rfl rfl ?_) | exact Runs.ret (ends_cellR hm rfl rfl rfl (Nat.le_of_ble_eq_true rfl) rfl rfl))
 | refine op_box rfl (tl hn rfl) ?_
 | refine RunsD.step tabOk hn rfl rfl ?_
 | refine RunsD.nil ?_
 | refine Runs.toDraw 30 mixed hn rfl (by kernel_rfl) rfl ?_
 | ((first | refine RunsL.pe hn rfl rfl rfl ?_ | refine RunsD.pe rfl rfl ?_); first
 | refine ⟨_, pu_add rfl rfl (by omega), ?_⟩
 | refine ⟨_, pu_indexAddr_map rfl rfl (by omega) (by assumption), ?_⟩
 | refine ⟨_, pu_sub rfl rfl (by omega), ?_⟩
 | refine ⟨_, pu_pick_b rfl rfl rfl, ?_⟩
 | refine ⟨_, pu_mul rfl rfl (by omega), ?_⟩
 | refine ⟨_, pu_build rfl rfl rfl rfl rfl rfl, ?_⟩))
  refine Runs.loopN 30 rfl (fun j => [(3, .obj 0 0), (4, .obj 1 0), (5, .obj 2 0), (7, .str (joinT ((partsT x ss).take j) sComma)), (8, .int (j : Int))]) (fun _ => [⟨35, 0, [.ro (rulsR d)]⟩, ⟨54, 0, (rulR x).map .ro⟩, ⟨39, 0, [.int v.number, .ro (bytesR v.bytes), .ro (tresR v.items)]⟩]) (fun _ => True) v.items.length 0 (Nat.zero_le _) trivial ⟨rfl, rfl, rfl, rfl, rfl, trivial⟩ rfl fun j hj _ next => ?_
  by_cases hlt : j < v.items.length
  · obtain ⟨y, hy⟩ : ∃ y, v.items[(j : Int).toNat]? = some y := ⟨_, List.getElem?_eq_getElem hlt⟩
    have hy' : v.items[j]? = some y := hy
    have hs : ss[j]? = some (ss[j]'(by omega)) := List.getElem?_eq_getElem _
    generalize ss[j]'(by omega) = s at hs
    have c44 : (⟨#[44]⟩ : ByteArray).size = 1 := rfl
    have c58 : (⟨#[58]⟩ : ByteArray).size = 1 := rfl
    have k44 : sComma.size = 1 := rfl
    have k58 : sColon.size = 1 := rfl
    have hI := l9Item_ac hk v.number (j : Int) (by omega)
    have hc := IH j y s hy' hs
    have hn1 := joinT_next (sep := sComma) (partsT_at (x := x) hs)
    have hs1 := joinT_size ((partsT x ss).take j) sComma
    have hs2 := joinT_size ((partsT x ss).take (j + 1)) sComma
    have hs3 := sum_take_size _ j _ hsz
    have hs4 := sum_take_size _ (j + 1) _ hsz
    rw [k44] at hs1 hs2
    by_cases k6 : x.kind = 6
    · obtain ⟨nm, hnm⟩ : ∃ nm, x.names[(j : Int).toNat]? = some nm := ⟨_, List.getElem?_eq_getElem (by have := hi k6; simp; omega)⟩
      have hpt : partT x j s = (nm ++ sColon) ++ s := by
        unfold partT
        rw [if_pos k6, show x.names[j]? = some nm from hnm]; rfl
      rw [hpt] at hn1
      have e1 := cat_size nm sColon
      by_cases j0 : j = 0
      · subst j0
        rw [if_pos rfl] at hn1
        simp only [Nat.zero_add] at hs2 hs4 hn1
        have hn2 := congrArg ByteArray.size hn1
        try simp only [cat_size, k44, k58] at hn2
        repeat' (first
 | ((first | refine RunsL.pe hn rfl rfl rfl ?_ | refine RunsD.pe rfl rfl ?_); first
 | refine ⟨_, pu_len_seqN v.items.length rfl hlv, ?_⟩)
 | refine RunsL.step tabOk hn rfl ?_
 | refine RunsL.nil ?_
 | refine Runs.toRegion 30 rfl ?_
 | ((first | refine RunsL.pe hn rfl rfl rfl ?_ | refine RunsD.pe rfl rfl ?_); first
 | refine ⟨_, pu_callR hI rfl, ?_⟩
 | refine ⟨_, pu_callR hc rfl, ?_⟩
 | refine ⟨_, pu_loadN_eq rfl (Tre.cells_eq _) rfl, ?_⟩
 | refine ⟨_, pu_cat rfl rfl (by first | omega | (simp only [cat_size, c44, c58]; omega)), ?_⟩)
 | (refine Runs.ctls 30 rfl ?_; first | refine Runs.cond_f rfl ?_ | ((first | refine Runs.cond_yes rfl ?_ ?_ | refine Runs.cond_nno rfl ?_ ?_); · first | omega | rfl | assumption | (simp only [List.length_map]; omega)) | ((first | refine Runs.cond_no rfl ?_ ?_ | refine Runs.cond_nyes rfl ?_ ?_); · first | omega | rfl | assumption | (simp only [List.length_map]; omega)) | refine Runs.ret (ends_ro hm rfl rfl ?_) | exact Runs.ret (ends_cellR hm rfl rfl rfl (Nat.le_of_ble_eq_true rfl) rfl rfl))
 | refine op_box rfl (tl hn rfl) ?_
 | refine RunsD.step tabOk hn rfl rfl ?_
 | refine RunsD.nil ?_
 | refine Runs.toDraw 30 mixed hn rfl (by kernel_rfl) rfl ?_
 | ((first | refine RunsL.pe hn rfl rfl rfl ?_ | refine RunsD.pe rfl rfl ?_); first
 | refine ⟨_, pu_add rfl rfl (by omega), ?_⟩
 | refine ⟨_, pu_indexAddr_map rfl rfl (by omega) (by assumption), ?_⟩
 | refine ⟨_, pu_sub rfl rfl (by omega), ?_⟩
 | refine ⟨_, pu_pick_b rfl rfl rfl, ?_⟩
 | refine ⟨_, pu_mul rfl rfl (by omega), ?_⟩
 | refine ⟨_, pu_build rfl rfl rfl rfl rfl rfl, ?_⟩))
        refine next _ _ ?_ hlt trivial rfl
        refine ⟨rfl, rfl, rfl, av_str ?_, rfl, trivial⟩
        rw [Nat.zero_add, hn1]
        apply ByteArray.ext
        simp [sComma, sColon, joinT_nil]
      · rw [if_neg j0] at hn1
        have hn2 := congrArg ByteArray.size hn1
        try simp only [cat_size, k44, k58] at hn2
        repeat' (first
 | ((first | refine RunsL.pe hn rfl rfl rfl ?_ | refine RunsD.pe rfl rfl ?_); first
 | refine ⟨_, pu_len_seqN v.items.length rfl hlv, ?_⟩)
 | refine RunsL.step tabOk hn rfl ?_
 | refine RunsL.nil ?_
 | refine Runs.toRegion 30 rfl ?_
 | ((first | refine RunsL.pe hn rfl rfl rfl ?_ | refine RunsD.pe rfl rfl ?_); first
 | refine ⟨_, pu_callR hI rfl, ?_⟩
 | refine ⟨_, pu_callR hc rfl, ?_⟩
 | refine ⟨_, pu_loadN_eq rfl (Tre.cells_eq _) rfl, ?_⟩
 | refine ⟨_, pu_cat rfl rfl (by first | omega | (simp only [cat_size, c44, c58]; omega)), ?_⟩)
 | (refine Runs.ctls 30 rfl ?_; first | refine Runs.cond_f rfl ?_ | ((first | refine Runs.cond_yes rfl ?_ ?_ | refine Runs.cond_nno rfl ?_ ?_); · first | omega | rfl | assumption | (simp only [List.length_map]; omega)) | ((first | refine Runs.cond_no rfl ?_ ?_ | refine Runs.cond_nyes rfl ?_ ?_); · first | omega | rfl | assumption | (simp only [List.length_map]; omega)) | refine Runs.ret (ends_ro hm rfl rfl ?_) | exact Runs.ret (ends_cellR hm rfl rfl rfl (Nat.le_of_ble_eq_true rfl) rfl rfl))
 | refine op_box rfl (tl hn rfl) ?_
 | refine RunsD.step tabOk hn rfl rfl ?_
 | refine RunsD.nil ?_
 | refine Runs.toDraw 30 mixed hn rfl (by kernel_rfl) rfl ?_
 | ((first | refine RunsL.pe hn rfl rfl rfl ?_ | refine RunsD.pe rfl rfl ?_); first
 | refine ⟨_, pu_add rfl rfl (by omega), ?_⟩
 | refine ⟨_, pu_indexAddr_map rfl rfl (by omega) (by assumption), ?_⟩
 | refine ⟨_, pu_sub rfl rfl (by omega), ?_⟩
 | refine ⟨_, pu_pick_b rfl rfl rfl, ?_⟩
 | refine ⟨_, pu_mul rfl rfl (by omega), ?_⟩
 | refine ⟨_, pu_build rfl rfl rfl rfl rfl rfl, ?_⟩))
        refine next _ _ ?_ hlt trivial rfl
        refine ⟨rfl, rfl, rfl, av_str ?_, rfl, trivial⟩
        rw [hn1]
        apply ByteArray.ext
        simp [sComma, sColon, joinT_nil]
    · have hpt : partT x j s = s := by unfold partT; rw [if_neg k6]
      rw [hpt] at hn1
      by_cases j0 : j = 0
      · subst j0
        rw [if_pos rfl] at hn1
        simp only [Nat.zero_add] at hs2 hs4 hn1
        have hn2 := congrArg ByteArray.size hn1
        try simp only [cat_size, k44, k58] at hn2
        repeat' (first
 | ((first | refine RunsL.pe hn rfl rfl rfl ?_ | refine RunsD.pe rfl rfl ?_); first
 | refine ⟨_, pu_len_seqN v.items.length rfl hlv, ?_⟩)
 | refine RunsL.step tabOk hn rfl ?_
 | refine RunsL.nil ?_
 | refine Runs.toRegion 30 rfl ?_
 | ((first | refine RunsL.pe hn rfl rfl rfl ?_ | refine RunsD.pe rfl rfl ?_); first
 | refine ⟨_, pu_callR hI rfl, ?_⟩
 | refine ⟨_, pu_callR hc rfl, ?_⟩
 | refine ⟨_, pu_loadN_eq rfl (Tre.cells_eq _) rfl, ?_⟩
 | refine ⟨_, pu_cat rfl rfl (by first | omega | (simp only [cat_size, c44, c58]; omega)), ?_⟩)
 | (refine Runs.ctls 30 rfl ?_; first | refine Runs.cond_f rfl ?_ | ((first | refine Runs.cond_yes rfl ?_ ?_ | refine Runs.cond_nno rfl ?_ ?_); · first | omega | rfl | assumption | (simp only [List.length_map]; omega)) | ((first | refine Runs.cond_no rfl ?_ ?_ | refine Runs.cond_nyes rfl ?_ ?_); · first | omega | rfl | assumption | (simp only [List.length_map]; omega)) | refine Runs.ret (ends_ro hm rfl rfl ?_) | exact Runs.ret (ends_cellR hm rfl rfl rfl (Nat.le_of_ble_eq_true rfl) rfl rfl))
 | refine op_box rfl (tl hn rfl) ?_
 | refine RunsD.step tabOk hn rfl rfl ?_
 | refine RunsD.nil ?_
 | refine Runs.toDraw 30 mixed hn rfl (by kernel_rfl) rfl ?_
 | ((first | refine RunsL.pe hn rfl rfl rfl ?_ | refine RunsD.pe rfl rfl ?_); first
 | refine ⟨_, pu_add rfl rfl (by omega), ?_⟩
 | refine ⟨_, pu_indexAddr_map rfl rfl (by omega) (by assumption), ?_⟩
 | refine ⟨_, pu_sub rfl rfl (by omega), ?_⟩
 | refine ⟨_, pu_pick_b rfl rfl rfl, ?_⟩
 | refine ⟨_, pu_mul rfl rfl (by omega), ?_⟩
 | refine ⟨_, pu_build rfl rfl rfl rfl rfl rfl, ?_⟩))
        refine next _ _ ?_ hlt trivial rfl
        refine ⟨rfl, rfl, rfl, av_str ?_, rfl, trivial⟩
        rw [Nat.zero_add, hn1]
        apply ByteArray.ext
        simp [sComma, sColon, joinT_nil]
      · rw [if_neg j0] at hn1
        have hn2 := congrArg ByteArray.size hn1
        try simp only [cat_size, k44, k58] at hn2
        repeat' (first
 | ((first | refine RunsL.pe hn rfl rfl rfl ?_ | refine RunsD.pe rfl rfl ?_); first
 | refine ⟨_, pu_len_seqN v.items.length rfl hlv, ?_⟩)
 | refine RunsL.step tabOk hn rfl ?_
 | refine RunsL.nil ?_
 | refine Runs.toRegion 30 rfl ?_
 | ((first | refine RunsL.pe hn rfl rfl rfl ?_ | refine RunsD.pe rfl rfl ?_); first
 | refine ⟨_, pu_callR hI rfl, ?_⟩
 | refine ⟨_, pu_callR hc rfl, ?_⟩
 | refine ⟨_, pu_loadN_eq rfl (Tre.cells_eq _) rfl, ?_⟩
 | refine ⟨_, pu_cat rfl rfl (by first | omega | (simp only [cat_size, c44, c58]; omega)), ?_⟩)
 | (refine Runs.ctls 30 rfl ?_; first | refine Runs.cond_f rfl ?_ | ((first | refine Runs.cond_yes rfl ?_ ?_ | refine Runs.cond_nno rfl ?_ ?_); · first | omega | rfl | assumption | (simp only [List.length_map]; omega)) | ((first | refine Runs.cond_no rfl ?_ ?_ | refine Runs.cond_nyes rfl ?_ ?_); · first | omega | rfl | assumption | (simp only [List.length_map]; omega)) | refine Runs.ret (ends_ro hm rfl rfl ?_) | exact Runs.ret (ends_cellR hm rfl rfl rfl (Nat.le_of_ble_eq_true rfl) rfl rfl))
 | refine op_box rfl (tl hn rfl) ?_
 | refine RunsD.step tabOk hn rfl rfl ?_
 | refine RunsD.nil ?_
 | refine Runs.toDraw 30 mixed hn rfl (by kernel_rfl) rfl ?_
 | ((first | refine RunsL.pe hn rfl rfl rfl ?_ | refine RunsD.pe rfl rfl ?_); first
 | refine ⟨_, pu_add rfl rfl (by omega), ?_⟩
 | refine ⟨_, pu_indexAddr_map rfl rfl (by omega) (by assumption), ?_⟩
 | refine ⟨_, pu_sub rfl rfl (by omega), ?_⟩
 | refine ⟨_, pu_pick_b rfl rfl rfl, ?_⟩
 | refine ⟨_, pu_mul rfl rfl (by omega), ?_⟩
 | refine ⟨_, pu_build rfl rfl rfl rfl rfl rfl, ?_⟩))
        refine next _ _ ?_ hlt trivial rfl
        refine ⟨rfl, rfl, rfl, av_str ?_, rfl, trivial⟩
        rw [hn1]
        apply ByteArray.ext
        simp [sComma, sColon, joinT_nil]
  · obtain rfl : j = v.items.length := by omega
    repeat' (first
 | ((first | refine RunsL.pe hn rfl rfl rfl ?_ | refine RunsD.pe rfl rfl ?_); first
 | refine ⟨_, pu_len_seqN v.items.length rfl hlv, ?_⟩)
 | refine RunsL.step tabOk hn rfl ?_
 | refine RunsL.nil ?_
 | refine Runs.toRegion 30 rfl ?_
 | (refine Runs.ctls 30 rfl ?_; first | refine Runs.cond_f rfl ?_ | ((first | refine Runs.cond_yes rfl ?_ ?_ | refine Runs.cond_nno rfl ?_ ?_); · first | omega | rfl | assumption | (simp only [List.length_map]; omega)) | ((first | refine Runs.cond_no rfl ?_ ?_ | refine Runs.cond_nyes rfl ?_ ?_); · first | omega | rfl | assumption | (simp only [List.length_map]; omega)) | refine Runs.ret (ends_ro hm rfl rfl ?_) | exact Runs.ret (ends_cellR hm rfl rfl rfl (Nat.le_of_ble_eq_true rfl) rfl rfl))
 | refine op_box rfl (tl hn rfl) ?_
 | refine RunsD.step tabOk hn rfl rfl ?_
 | refine RunsD.nil ?_
 | refine Runs.toDraw 30 mixed hn rfl (by kernel_rfl) rfl ?_
 | ((first | refine RunsL.pe hn rfl rfl rfl ?_ | refine RunsD.pe rfl rfl ?_); first
 | refine ⟨_, pu_add rfl rfl (by omega), ?_⟩
 | refine ⟨_, pu_indexAddr_map rfl rfl (by omega) (by assumption), ?_⟩
 | refine ⟨_, pu_sub rfl rfl (by omega), ?_⟩
 | refine ⟨_, pu_pick_b rfl rfl rfl, ?_⟩
 | refine ⟨_, pu_mul rfl rfl (by omega), ?_⟩
 | refine ⟨_, pu_build rfl rfl rfl rfl rfl rfl, ?_⟩))
    exact rr_ro (by rw [List.take_of_length_le (by omega)])
set_option maxHeartbeats 8000000 in
theorem item_act (d : Des) (hdl : d.length ≤ maxLen) (r : Nat) (x : Rul) (hx : d[(r : Int).toNat]? = some x) (hk : KindOk d x) (v : Tre) (hv : v.Ok) (i : Nat) (y : Tre) (hy : v.items[(i : Int).toNat]? = some y) (s : ByteArray)
    (h : ACtv TabT Tryz.prog 26 [desR d, .int (itemR x v.number (i : Int)), .rp y.cells] (.str s)) :
    ACtv TabT Tryz.prog 44 [.int (i : Int), .rp [rulsR d], .rp [.int (r : Int)], .rp [.rp [.int v.number, bytesR v.bytes, tresR v.items]]] (.str s) := by
  obtain ⟨o1, o2, o3, o4⟩ := hv.out
  have hlv : (v.items.map Tre.cells).length = v.items.length := List.length_map ..
  have hI := childRule_ac hdl hx hk v.number (bytesR v.bytes) (tresR v.items) (i : Int) (by omega)
  refine act_enter tabT_lasts Tryz.func44 rfl _ Tryz.ntmps44 (by simp) fun C hn hm hb => ?_
  repeat' (first
 | refine RunsL.step tabOk hn rfl ?_
 | refine RunsL.nil ?_
 | refine Runs.toRegion 30 rfl ?_
 | ((first | refine RunsL.pe hn rfl rfl rfl ?_ | refine RunsD.pe rfl rfl ?_); first
 | refine ⟨_, pu_callR hI rfl, ?_⟩
 | refine ⟨_, pu_callW hb h rfl, ?_⟩
 | refine ⟨_, pu_nilCheck rfl, ?_⟩)
 | (refine Runs.ctls 30 rfl ?_; first | ((first | refine Runs.cond_yes rfl ?_ ?_ | refine Runs.cond_nno rfl ?_ ?_); · first | omega | rfl | assumption | (simp only [List.length_map]; omega)) | ((first | refine Runs.cond_no rfl ?_ ?_ | refine Runs.cond_nyes rfl ?_ ?_); · first | omega | rfl | assumption | (simp only [List.length_map]; omega)) | refine Runs.ret (ends_ro hm rfl rfl ?_) | exact Runs.ret (ends_cellR hm rfl rfl rfl (Nat.le_of_ble_eq_true rfl) rfl rfl))
 | refine RunsD.step tabOk hn rfl rfl ?_
 | refine RunsD.nil ?_
 | refine Runs.toDraw 30 mixed hn rfl (by kernel_rfl) rfl ?_
 | ((first | refine RunsL.pe hn rfl rfl rfl ?_ | refine RunsD.pe rfl rfl ?_); first
 | refine ⟨_, pu_add rfl rfl (by omega), ?_⟩
 | refine ⟨_, pu_indexAddr_map rfl rfl (by omega) (by assumption), ?_⟩
 | refine ⟨_, pu_sub rfl rfl (by omega), ?_⟩
 | refine ⟨_, pu_pick_b rfl rfl rfl, ?_⟩
 | refine ⟨_, pu_mul rfl rfl (by omega), ?_⟩
 | refine ⟨_, pu_build rfl rfl rfl rfl rfl rfl, ?_⟩))
  exact rr_ro rfl
end Go.Proofs.YtkmoffefhlmgeaaGreatDoor
/- Values as texts: a value, both sides. -/
namespace Go.Proofs.YtkmoffefhlmgeaaGreatDoor
set_option linter.unusedSimpArgs false
set_option linter.unusedVariables false
set_option linter.unusedSectionVars false
set_option maxRecDepth 100000
open Go.RowKit
open AV (Mem Keeps)
def textT (x : Rul) (v : Tre) (ss : List ByteArray) : ByteArray :=
  if x.kind = 1 then fmtI v.number else if x.kind = 2 then ⟨#[33]⟩
  else if x.kind = 5 then ((⟨#[91]⟩ : ByteArray) ++ joinT (partsT x ss) sComma) ++ ⟨#[93]⟩
  else if x.kind = 6 then ((⟨#[123]⟩ : ByteArray) ++ joinT (partsT x ss) sComma) ++ ⟨#[125]⟩
  else if x.kind = 7 then ((fmtI v.number ++ ⟨#[60]⟩) ++ joinT (partsT x ss) sComma) ++ ⟨#[62]⟩
  else if x.kind = 8 then (if (v.items.length : Int) = 0 then ⟨#[45]⟩ else (⟨#[63]⟩ : ByteArray) ++ joinT (partsT x ss) sComma)
  else if x.kind = 9 then ((⟨#[40]⟩ : ByteArray) ++ joinT (partsT x ss) sComma) ++ ⟨#[41]⟩
  else (⟨#[120]⟩ : ByteArray) ++ hexT v.bytes
theorem joinT_parts (x : Rul) (ss : List ByteArray) (n : Nat) (h : ((partsT x ss).map fun s => s.size + 1).sum ≤ n) : (joinT (partsT x ss) sComma).size ≤ n := by
  have := joinT_size (partsT x ss) sComma
  rw [show sComma.size = 1 from rfl] at this
  omega
set_option maxHeartbeats 16000000 in
theorem l10Text_ac {d : Des} (hl' : d.length ≤ 1048576) {r : Nat} {x : Rul} (hx : d[(r : Int).toNat]? = some x) (hk : KindOk d x) (v : Tre) (hv : v.Ok) (hb : v.bytes.length ≤ 1048576) (ss : List ByteArray) (hl : ss.length = v.items.length) (hi : x.kind = 6 → v.items.length ≤ x.names.length) (hsz : ((partsT x ss).map fun s => s.size + 1).sum ≤ 4398046511104)
    (IH : ∀ (i : Nat) y s, v.items[i]? = some y → ss[i]? = some s → ACv Tryz.prog 21 [desR d, .int (itemR x v.number (i : Int)), treR y] (.str s)) :
    ACv Tryz.prog 21 [desR d, .int (r : Int), treR v] (.str (textT x v ss)) := by
  obtain ⟨o1, o2, o3, o4⟩ := hv.out
  unfold maxLen at o3
  have hlm : (d.map rulR).length = d.length := List.length_map ..
  have hlv : (v.items.map Tre.cells).length = v.items.length := List.length_map ..
  have hL := l10List_ac d x hk v hv ss hl hi hsz IH
  have hj := joinT_parts x ss _ hsz
  have hF := spec_FormatInt v.number o1
  have hH := spec_FormatHex v.bytes hb
  have hN := spec_FormatNumberText v.number o1 ⟨#[60]⟩ (joinT (partsT x ss) sComma) ⟨#[62]⟩ (by decide) (by omega) (by decide)
  have hhx := hexT_size v.bytes
  have c91 : (⟨#[91]⟩ : ByteArray).size = 1 := rfl
  have c93 : (⟨#[93]⟩ : ByteArray).size = 1 := rfl
  have c123 : (⟨#[123]⟩ : ByteArray).size = 1 := rfl
  have c125 : (⟨#[125]⟩ : ByteArray).size = 1 := rfl
  have c63 : (⟨#[63]⟩ : ByteArray).size = 1 := rfl
  have c40 : (⟨#[40]⟩ : ByteArray).size = 1 := rfl
  have c41 : (⟨#[41]⟩ : ByteArray).size = 1 := rfl
  have c120 : (⟨#[120]⟩ : ByteArray).size = 1 := rfl
  refine ac_enter Tryz.func21 rfl _ Tryz.ntmps21 (by simp) fun C hn hm => ?_
  repeat' (first
 | (refine RunsL.pe hn rfl rfl rfl ?_; first
 | refine ⟨_, pu_len_seqN v.items.length rfl hlv, ?_⟩)
 | refine RunsL.step tabOk hn rfl ?_
 | refine RunsL.nil ?_
 | refine Runs.toRegion 30 rfl ?_
 | (refine RunsL.pe hn rfl rfl rfl ?_; first
 | refine ⟨_, pu_callR hL rfl, ?_⟩
 | refine ⟨_, pu_callR hF rfl, ?_⟩
 | refine ⟨_, pu_callR hH rfl, ?_⟩
 | refine ⟨_, pu_callR hN rfl, ?_⟩
 | refine ⟨_, pu_cat rfl rfl (by first | omega | (simp only [cat_size, c91, c93, c123, c125, c63, c40, c41, c120]; omega)), ?_⟩)
 | (refine Runs.ctls 30 rfl ?_; first | ((first | refine Runs.cond_yes rfl ?_ ?_ | refine Runs.cond_nno rfl ?_ ?_); · first | omega | rfl | assumption | (simp only [List.length_map]; omega)) | ((first | refine Runs.cond_no rfl ?_ ?_ | refine Runs.cond_nyes rfl ?_ ?_); · first | omega | rfl | assumption | (simp only [List.length_map]; omega)) | refine Runs.cond_dec rfl (fun h => ?_) (fun h => ?_) | refine Runs.ret (ends_ro hm rfl rfl ?_) | exact Runs.ret (ends_cellR hm rfl rfl rfl (Nat.le_of_ble_eq_true rfl) rfl rfl))
 | refine op_box rfl (tl hn rfl) ?_
 | refine op_alloc (tl hn rfl) ?_
 | refine op_storeN rfl rfl rfl rfl (Nat.le_of_ble_eq_true rfl) ?_
 | (refine RunsL.pe hn rfl rfl rfl ?_; first
 | refine ⟨_, pu_indexAddr_map rfl rfl (by omega) (by assumption), ?_⟩
      ))
  all_goals exact rr_ro (congrArg RV.str (by unfold textT; first | (simp only [*, if_true, if_false]; done) | (simp only [*, if_true, if_false]; rfl) | (simp [*]; done) | (simp [*]; rfl)))
theorem strs_flats : ∀ l : List ByteArray, (l.map fun z => [RV.str z]).flatten = l.map RV.str := fun l => by induction l <;> simp_all
section
variable {d : Des} (hl' : d.length ≤ 1048576) {r : Nat} {x : Rul} (hx : d[(r : Int).toNat]? = some x) (hk : KindOk d x) (v : Tre) (hv : v.Ok) (hbl : v.bytes.length ≤ 1048576) (hil : v.items.length ≤ 1048576) (ss : List ByteArray) (hl : ss.length = v.items.length) (hsz : ((partsT x ss).map fun s => s.size + 1).sum ≤ 4398046511104)
    (IH : ∀ (i : Nat) y s, v.items[i]? = some y → ss[i]? = some s → ACtv TabT Tryz.prog 26 [desR d, .int (itemR x v.number (i : Int)), .rp y.cells] (.str s))
include hl' hx hk hv hbl hil hl hsz IH
set_option maxHeartbeats 16000000 in
theorem vtext_leaf (k : x.kind = 1 ∨ x.kind = 2 ∨ x.kind = 3 ∨ x.kind = 4 ∨ x.kind = 10) : ACtv TabT Tryz.prog 26 [desR d, .int (r : Int), .rp v.cells] (.str (textT x v ss)) := by
  obtain ⟨o1, o2, o3, o4⟩ := hv.out
  have hlm : (d.map rulR).length = d.length := List.length_map ..
  have hS := shapeOf_ac x
  have hF := impl_FormatInt v.number o1
  have hH := impl_FormatHex v.bytes hbl
  have hhx := hexT_size v.bytes
  have c120 : (⟨#[120]⟩ : ByteArray).size = 1 := rfl
  rw [Tre.cells_eq]
  rcases (show x.kind = 1 ∨ x.kind = 2 ∨ (x.kind = 3 ∨ x.kind = 4 ∨ x.kind = 10) by omega) with k | k | k
  · rw [show shapeR x = .ifc 78 (.agg []) by unfold shapeR; rw [if_pos k]] at hS
    rw [show textT x v ss = fmtI v.number by unfold textT; rw [if_pos k]]
    refine act_enter tabT_lasts Tryz.func26 rfl _ Tryz.ntmps26 (by simp) fun C hn hm hb => ?_
    repeat' (first
 | refine op_alloc (tl hn rfl) ?_
 | refine op_storeN (n := 0) (vs := []) rfl rfl rfl rfl (Nat.le_refl _) ?_
 | refine RunsL.step tabOk hn rfl ?_
 | refine RunsL.nil ?_
 | refine Runs.toRegion 30 rfl ?_
 | ((first | refine RunsL.pe hn rfl rfl rfl ?_ | refine RunsD.pe rfl rfl ?_); first
 | refine ⟨_, pu_makeFunc, ?_⟩
 | refine ⟨_, pu_callR hS rfl, ?_⟩
 | refine ⟨_, pu_tsHit rfl, ?_⟩
 | refine ⟨_, pu_tsMiss rfl rfl, ?_⟩
 | refine ⟨_, pu_nilCheck rfl, ?_⟩
 | refine ⟨_, pu_callW (r := .str (fmtI v.number)) hb hF rfl, ?_⟩)
 | (refine Runs.ctls 30 rfl ?_; first | refine Runs.cond_t rfl ?_ | refine Runs.cond_f rfl ?_ | ((first | refine Runs.cond_yes rfl ?_ ?_ | refine Runs.cond_nno rfl ?_ ?_); · first | omega | rfl | assumption | (simp only [List.length_map]; omega)) | ((first | refine Runs.cond_no rfl ?_ ?_ | refine Runs.cond_nyes rfl ?_ ?_); · first | omega | rfl | assumption | (simp only [List.length_map]; omega)) | refine Runs.ret (ends_ro hm rfl rfl ?_) | exact Runs.ret (ends_cellR hm rfl rfl rfl (Nat.le_of_ble_eq_true rfl) rfl rfl))
 | refine op_box rfl (tl hn rfl) ?_
 | refine op_alloc (tl hn rfl) ?_
 | refine op_storeN rfl rfl rfl rfl (Nat.le_of_ble_eq_true rfl) ?_
 | ((first | refine RunsL.pe hn rfl rfl rfl ?_ | refine RunsD.pe rfl rfl ?_); first
 | refine ⟨_, pu_add rfl rfl (by omega), ?_⟩
 | refine ⟨_, pu_indexAddr_map rfl rfl (by omega) (by assumption), ?_⟩
 | refine ⟨_, pu_sub rfl rfl (by omega), ?_⟩
 | refine ⟨_, pu_pick_b rfl rfl rfl, ?_⟩
 | refine ⟨_, pu_mul rfl rfl (by omega), ?_⟩
 | refine ⟨_, pu_build rfl rfl rfl rfl rfl rfl, ?_⟩))
    exact rr_ro rfl
  · rw [show shapeR x = .ifc 79 (.agg []) by unfold shapeR; rw [if_neg (by omega), if_pos k]] at hS
    rw [show textT x v ss = ⟨#[33]⟩ by unfold textT; rw [if_neg (by omega), if_pos k]]
    refine act_enter tabT_lasts Tryz.func26 rfl _ Tryz.ntmps26 (by simp) fun C hn hm hb => ?_
    repeat' (first
 | refine op_alloc (tl hn rfl) ?_
 | refine op_storeN (n := 0) (vs := []) rfl rfl rfl rfl (Nat.le_refl _) ?_
 | refine RunsL.step tabOk hn rfl ?_
 | refine RunsL.nil ?_
 | refine Runs.toRegion 30 rfl ?_
 | ((first | refine RunsL.pe hn rfl rfl rfl ?_ | refine RunsD.pe rfl rfl ?_); first
 | refine ⟨_, pu_makeFunc, ?_⟩
 | refine ⟨_, pu_callR hS rfl, ?_⟩
 | refine ⟨_, pu_tsHit rfl, ?_⟩
 | refine ⟨_, pu_tsMiss rfl rfl, ?_⟩
 | refine ⟨_, pu_nilCheck rfl, ?_⟩)
 | (refine Runs.ctls 30 rfl ?_; first | refine Runs.cond_t rfl ?_ | refine Runs.cond_f rfl ?_ | ((first | refine Runs.cond_yes rfl ?_ ?_ | refine Runs.cond_nno rfl ?_ ?_); · first | omega | rfl | assumption | (simp only [List.length_map]; omega)) | ((first | refine Runs.cond_no rfl ?_ ?_ | refine Runs.cond_nyes rfl ?_ ?_); · first | omega | rfl | assumption | (simp only [List.length_map]; omega)) | refine Runs.ret (ends_ro hm rfl rfl ?_) | exact Runs.ret (ends_cellR hm rfl rfl rfl (Nat.le_of_ble_eq_true rfl) rfl rfl))
 | refine op_box rfl (tl hn rfl) ?_
 | refine op_alloc (tl hn rfl) ?_
 | refine op_storeN rfl rfl rfl rfl (Nat.le_of_ble_eq_true rfl) ?_
 | ((first | refine RunsL.pe hn rfl rfl rfl ?_ | refine RunsD.pe rfl rfl ?_); first
 | refine ⟨_, pu_add rfl rfl (by omega), ?_⟩
 | refine ⟨_, pu_indexAddr_map rfl rfl (by omega) (by assumption), ?_⟩
 | refine ⟨_, pu_sub rfl rfl (by omega), ?_⟩
 | refine ⟨_, pu_pick_b rfl rfl rfl, ?_⟩
 | refine ⟨_, pu_mul rfl rfl (by omega), ?_⟩
 | refine ⟨_, pu_build rfl rfl rfl rfl rfl rfl, ?_⟩))
    exact rr_ro rfl
  · rw [show shapeR x = .ifc 96 (.agg []) by unfold shapeR; rw [if_neg (by omega), if_neg (by omega), if_neg (by omega), if_neg (by omega), if_neg (by omega), if_neg (by omega), if_neg (by omega)]] at hS
    rw [show textT x v ss = (⟨#[120]⟩ : ByteArray) ++ hexT v.bytes by unfold textT; rw [if_neg (by omega), if_neg (by omega), if_neg (by omega), if_neg (by omega), if_neg (by omega), if_neg (by omega), if_neg (by omega)]]
    refine act_enter tabT_lasts Tryz.func26 rfl _ Tryz.ntmps26 (by simp) fun C hn hm hb => ?_
    repeat' (first
 | refine op_alloc (tl hn rfl) ?_
 | refine op_storeN (n := 0) (vs := []) rfl rfl rfl rfl (Nat.le_refl _) ?_
 | refine RunsL.step tabOk hn rfl ?_
 | refine RunsL.nil ?_
 | refine Runs.toRegion 30 rfl ?_
 | ((first | refine RunsL.pe hn rfl rfl rfl ?_ | refine RunsD.pe rfl rfl ?_); first
 | refine ⟨_, pu_makeFunc, ?_⟩
 | refine ⟨_, pu_callR hS rfl, ?_⟩
 | refine ⟨_, pu_tsHit rfl, ?_⟩
 | refine ⟨_, pu_tsMiss rfl rfl, ?_⟩
 | refine ⟨_, pu_nilCheck rfl, ?_⟩
 | refine ⟨_, pu_callR hH rfl, ?_⟩
 | refine ⟨_, pu_cat rfl rfl (by first | omega | (simp only [c120]; omega)), ?_⟩)
 | (refine Runs.ctls 30 rfl ?_; first | refine Runs.cond_t rfl ?_ | refine Runs.cond_f rfl ?_ | ((first | refine Runs.cond_yes rfl ?_ ?_ | refine Runs.cond_nno rfl ?_ ?_); · first | omega | rfl | assumption | (simp only [List.length_map]; omega)) | ((first | refine Runs.cond_no rfl ?_ ?_ | refine Runs.cond_nyes rfl ?_ ?_); · first | omega | rfl | assumption | (simp only [List.length_map]; omega)) | refine Runs.ret (ends_ro hm rfl rfl ?_) | exact Runs.ret (ends_cellR hm rfl rfl rfl (Nat.le_of_ble_eq_true rfl) rfl rfl))
 | refine op_box rfl (tl hn rfl) ?_
 | refine op_alloc (tl hn rfl) ?_
 | refine op_storeN rfl rfl rfl rfl (Nat.le_of_ble_eq_true rfl) ?_
 | ((first | refine RunsL.pe hn rfl rfl rfl ?_ | refine RunsD.pe rfl rfl ?_); first
 | refine ⟨_, pu_add rfl rfl (by omega), ?_⟩
 | refine ⟨_, pu_indexAddr_map rfl rfl (by omega) (by assumption), ?_⟩
 | refine ⟨_, pu_sub rfl rfl (by omega), ?_⟩
 | refine ⟨_, pu_pick_b rfl rfl rfl, ?_⟩
 | refine ⟨_, pu_mul rfl rfl (by omega), ?_⟩
 | refine ⟨_, pu_build rfl rfl rfl rfl rfl rfl, ?_⟩))
    exact rr_ro rfl
set_option maxHeartbeats 16000000 in
theorem vtext_one (k : x.kind = 7 ∨ x.kind = 8 ∨ x.kind = 9) (hn1 : x.kind = 7 ∨ x.kind = 9 → v.items.length = 1) (hn8 : v.items.length ≤ 1) : ACtv TabT Tryz.prog 26 [desR d, .int (r : Int), .rp v.cells] (.str (textT x v ss)) := by
  obtain ⟨o1, o2, o3, o4⟩ := hv.out
  have hlm : (d.map rulR).length = d.length := List.length_map ..
  have hlv : (v.items.map Tre.cells).length = v.items.length := List.length_map ..
  have hS := shapeOf_ac x
  have hp := partsT_id (x := x) (by omega) ss
  have hj := joinT_parts x ss _ hsz
  have c63 : (⟨#[63]⟩ : ByteArray).size = 1 := rfl
  have c40 : (⟨#[40]⟩ : ByteArray).size = 1 := rfl
  have c41 : (⟨#[41]⟩ : ByteArray).size = 1 := rfl
  have key : v.items.length = 1 → ∃ y s, v.items[((0 : Nat) : Int).toNat]? = some y ∧ joinT (partsT x ss) sComma = s ∧ ACtv TabT Tryz.prog 44 [.int 0, .rp [rulsR d], .rp [.int (r : Int)], .rp [.rp [.int v.number, bytesR v.bytes, tresR v.items]]] (.str s) := fun h1 => by
    obtain ⟨y, hy⟩ : ∃ y, v.items[0]? = some y := ⟨_, List.getElem?_eq_getElem (by omega)⟩
    obtain ⟨s, hs⟩ : ∃ s, ss[0]? = some s := ⟨_, List.getElem?_eq_getElem (by omega)⟩
    have e : ss = [s] := by
      cases ss with
      | nil => simp at hs
      | cons a r =>
        simp at hs; subst hs
        have : r = [] := List.eq_nil_of_length_eq_zero (by simp at hl; omega)
        rw [this]
    refine ⟨y, s, hy, by rw [hp, e, joinT_one], ?_⟩
    exact item_act d (by unfold maxLen; omega) r x hx hk v hv 0 y hy s (IH 0 y s hy hs)
  rw [Tre.cells_eq]
  rcases k with k | k | k
  · obtain ⟨y, s, hy, hs, hc⟩ := key (hn1 (.inl k))
    rw [hs] at hj
    have hN := impl_FormatNumberText v.number o1 ⟨#[60]⟩ s ⟨#[62]⟩ (by decide) (by omega) (by decide)
    rw [show shapeR x = .ifc 84 (.agg []) by unfold shapeR; rw [if_neg (by omega), if_neg (by omega), if_neg (by omega), if_neg (by omega), if_pos k]] at hS
    rw [show textT x v ss = ((fmtI v.number ++ ⟨#[60]⟩) ++ s) ++ ⟨#[62]⟩ by unfold textT; rw [if_neg (by omega), if_neg (by omega), if_neg (by omega), if_neg (by omega), if_pos k, hs]]
    refine act_enter tabT_lasts Tryz.func26 rfl _ Tryz.ntmps26 (by simp) fun C hn hm hb => ?_
    repeat' (first
 | refine op_alloc (tl hn rfl) ?_
 | refine op_storeN (n := 0) (vs := []) rfl rfl rfl rfl (Nat.le_refl _) ?_
 | refine RunsL.step tabOk hn rfl ?_
 | refine RunsL.nil ?_
 | refine Runs.toRegion 30 rfl ?_
 | ((first | refine RunsL.pe hn rfl rfl rfl ?_ | refine RunsD.pe rfl rfl ?_); first
 | refine ⟨_, pu_makeFunc, ?_⟩
 | refine ⟨_, pu_callR hS rfl, ?_⟩
 | refine ⟨_, pu_tsHit rfl, ?_⟩
 | refine ⟨_, pu_tsMiss rfl rfl, ?_⟩
 | refine ⟨_, pu_nilCheck rfl, ?_⟩
 | refine ⟨_, pu_callFW (cap := [.obj 0 0, .obj 1 0, .obj 2 0]) (first := []) hb rfl hc (.cons .ro (.cons (Lends.obj rfl (.cons .ro .nil)) (.cons (Lends.obj rfl (.cons .ro .nil)) (.cons (Lends.obj rfl (.cons .ro .nil)) .nil)))), ?_⟩
 | refine ⟨_, pu_callW hb hN rfl, ?_⟩)
 | (refine Runs.ctls 30 rfl ?_; first | refine Runs.cond_t rfl ?_ | refine Runs.cond_f rfl ?_ | ((first | refine Runs.cond_yes rfl ?_ ?_ | refine Runs.cond_nno rfl ?_ ?_); · first | omega | rfl | assumption | (simp only [List.length_map]; omega)) | ((first | refine Runs.cond_no rfl ?_ ?_ | refine Runs.cond_nyes rfl ?_ ?_); · first | omega | rfl | assumption | (simp only [List.length_map]; omega)) | refine Runs.ret (ends_ro hm rfl rfl ?_) | exact Runs.ret (ends_cellR hm rfl rfl rfl (Nat.le_of_ble_eq_true rfl) rfl rfl))
 | refine op_box rfl (tl hn rfl) ?_
 | refine op_alloc (tl hn rfl) ?_
 | refine op_storeN rfl rfl rfl rfl (Nat.le_of_ble_eq_true rfl) ?_
 | refine RunsD.step tabOk hn rfl rfl ?_
 | refine RunsD.nil ?_
 | refine Runs.toDraw 30 mixed hn rfl (by kernel_rfl) rfl ?_
 | ((first | refine RunsL.pe hn rfl rfl rfl ?_ | refine RunsD.pe rfl rfl ?_); first
 | refine ⟨_, pu_add rfl rfl (by omega), ?_⟩
 | refine ⟨_, pu_indexAddr_map rfl rfl (by omega) (by assumption), ?_⟩
 | refine ⟨_, pu_sub rfl rfl (by omega), ?_⟩
 | refine ⟨_, pu_pick_b rfl rfl rfl, ?_⟩
 | refine ⟨_, pu_mul rfl rfl (by omega), ?_⟩
 | refine ⟨_, pu_build rfl rfl rfl rfl rfl rfl, ?_⟩))
    exact rr_ro rfl
  · by_cases h0 : v.items.length = 0
    · rw [show shapeR x = .ifc 85 (.agg []) by unfold shapeR; rw [if_neg (by omega), if_neg (by omega), if_neg (by omega), if_neg (by omega), if_neg (by omega), if_pos k]] at hS
      rw [show textT x v ss = ⟨#[45]⟩ by unfold textT; rw [if_neg (by omega), if_neg (by omega), if_neg (by omega), if_neg (by omega), if_neg (by omega), if_pos k, if_pos (by omega)]]
      refine act_enter tabT_lasts Tryz.func26 rfl _ Tryz.ntmps26 (by simp) fun C hn hm hb => ?_
      repeat' (first
 | refine op_alloc (tl hn rfl) ?_
 | refine op_storeN (n := 0) (vs := []) rfl rfl rfl rfl (Nat.le_refl _) ?_
 | ((first | refine RunsL.pe hn rfl rfl rfl ?_ | refine RunsD.pe rfl rfl ?_); first
 | refine ⟨_, pu_len_seqN v.items.length rfl hlv, ?_⟩)
 | refine RunsL.step tabOk hn rfl ?_
 | refine RunsL.nil ?_
 | refine Runs.toRegion 30 rfl ?_
 | ((first | refine RunsL.pe hn rfl rfl rfl ?_ | refine RunsD.pe rfl rfl ?_); first
 | refine ⟨_, pu_makeFunc, ?_⟩
 | refine ⟨_, pu_callR hS rfl, ?_⟩
 | refine ⟨_, pu_tsHit rfl, ?_⟩
 | refine ⟨_, pu_tsMiss rfl rfl, ?_⟩
 | refine ⟨_, pu_nilCheck rfl, ?_⟩)
 | (refine Runs.ctls 30 rfl ?_; first | refine Runs.cond_t rfl ?_ | refine Runs.cond_f rfl ?_ | ((first | refine Runs.cond_yes rfl ?_ ?_ | refine Runs.cond_nno rfl ?_ ?_); · first | omega | rfl | assumption | (simp only [List.length_map]; omega)) | ((first | refine Runs.cond_no rfl ?_ ?_ | refine Runs.cond_nyes rfl ?_ ?_); · first | omega | rfl | assumption | (simp only [List.length_map]; omega)) | refine Runs.ret (ends_ro hm rfl rfl ?_) | exact Runs.ret (ends_cellR hm rfl rfl rfl (Nat.le_of_ble_eq_true rfl) rfl rfl))
 | refine op_box rfl (tl hn rfl) ?_
 | refine op_alloc (tl hn rfl) ?_
 | refine op_storeN rfl rfl rfl rfl (Nat.le_of_ble_eq_true rfl) ?_
 | refine RunsD.step tabOk hn rfl rfl ?_
 | refine RunsD.nil ?_
 | refine Runs.toDraw 30 mixed hn rfl (by kernel_rfl) rfl ?_
 | ((first | refine RunsL.pe hn rfl rfl rfl ?_ | refine RunsD.pe rfl rfl ?_); first
 | refine ⟨_, pu_add rfl rfl (by omega), ?_⟩
 | refine ⟨_, pu_indexAddr_map rfl rfl (by omega) (by assumption), ?_⟩
 | refine ⟨_, pu_sub rfl rfl (by omega), ?_⟩
 | refine ⟨_, pu_pick_b rfl rfl rfl, ?_⟩
 | refine ⟨_, pu_mul rfl rfl (by omega), ?_⟩
 | refine ⟨_, pu_build rfl rfl rfl rfl rfl rfl, ?_⟩))
      exact rr_ro rfl
    · obtain ⟨y, s, hy, hs, hc⟩ := key (by omega)
      rw [hs] at hj
      rw [show shapeR x = .ifc 85 (.agg []) by unfold shapeR; rw [if_neg (by omega), if_neg (by omega), if_neg (by omega), if_neg (by omega), if_neg (by omega), if_pos k]] at hS
      rw [show textT x v ss = (⟨#[63]⟩ : ByteArray) ++ s by unfold textT; rw [if_neg (by omega), if_neg (by omega), if_neg (by omega), if_neg (by omega), if_neg (by omega), if_pos k, if_neg (by omega), hs]]
      refine act_enter tabT_lasts Tryz.func26 rfl _ Tryz.ntmps26 (by simp) fun C hn hm hb => ?_
      repeat' (first
 | refine op_alloc (tl hn rfl) ?_
 | refine op_storeN (n := 0) (vs := []) rfl rfl rfl rfl (Nat.le_refl _) ?_
 | ((first | refine RunsL.pe hn rfl rfl rfl ?_ | refine RunsD.pe rfl rfl ?_); first
 | refine ⟨_, pu_len_seqN v.items.length rfl hlv, ?_⟩)
 | refine RunsL.step tabOk hn rfl ?_
 | refine RunsL.nil ?_
 | refine Runs.toRegion 30 rfl ?_
 | ((first | refine RunsL.pe hn rfl rfl rfl ?_ | refine RunsD.pe rfl rfl ?_); first
 | refine ⟨_, pu_makeFunc, ?_⟩
 | refine ⟨_, pu_callR hS rfl, ?_⟩
 | refine ⟨_, pu_tsHit rfl, ?_⟩
 | refine ⟨_, pu_tsMiss rfl rfl, ?_⟩
 | refine ⟨_, pu_nilCheck rfl, ?_⟩
 | refine ⟨_, pu_callFW (cap := [.obj 0 0, .obj 1 0, .obj 2 0]) (first := []) hb rfl hc (.cons .ro (.cons (Lends.obj rfl (.cons .ro .nil)) (.cons (Lends.obj rfl (.cons .ro .nil)) (.cons (Lends.obj rfl (.cons .ro .nil)) .nil)))), ?_⟩
 | refine ⟨_, pu_cat rfl rfl (by first | omega | (simp only [cat_size, c63]; omega)), ?_⟩)
 | (refine Runs.ctls 30 rfl ?_; first | refine Runs.cond_t rfl ?_ | refine Runs.cond_f rfl ?_ | ((first | refine Runs.cond_yes rfl ?_ ?_ | refine Runs.cond_nno rfl ?_ ?_); · first | omega | rfl | assumption | (simp only [List.length_map]; omega)) | ((first | refine Runs.cond_no rfl ?_ ?_ | refine Runs.cond_nyes rfl ?_ ?_); · first | omega | rfl | assumption | (simp only [List.length_map]; omega)) | refine Runs.ret (ends_ro hm rfl rfl ?_) | exact Runs.ret (ends_cellR hm rfl rfl rfl (Nat.le_of_ble_eq_true rfl) rfl rfl))
 | refine op_box rfl (tl hn rfl) ?_
 | refine op_alloc (tl hn rfl) ?_
 | refine op_storeN rfl rfl rfl rfl (Nat.le_of_ble_eq_true rfl) ?_
 | refine RunsD.step tabOk hn rfl rfl ?_
 | refine RunsD.nil ?_
 | refine Runs.toDraw 30 mixed hn rfl (by kernel_rfl) rfl ?_
 | ((first | refine RunsL.pe hn rfl rfl rfl ?_ | refine RunsD.pe rfl rfl ?_); first
 | refine ⟨_, pu_add rfl rfl (by omega), ?_⟩
 | refine ⟨_, pu_indexAddr_map rfl rfl (by omega) (by assumption), ?_⟩
 | refine ⟨_, pu_sub rfl rfl (by omega), ?_⟩
 | refine ⟨_, pu_pick_b rfl rfl rfl, ?_⟩
 | refine ⟨_, pu_mul rfl rfl (by omega), ?_⟩
 | refine ⟨_, pu_build rfl rfl rfl rfl rfl rfl, ?_⟩))
      exact rr_ro rfl
  · obtain ⟨y, s, hy, hs, hc⟩ := key (hn1 (.inr k))
    rw [hs] at hj
    rw [show shapeR x = .ifc 86 (.agg []) by unfold shapeR; rw [if_neg (by omega), if_neg (by omega), if_neg (by omega), if_neg (by omega), if_neg (by omega), if_neg (by omega), if_pos k]] at hS
    rw [show textT x v ss = ((⟨#[40]⟩ : ByteArray) ++ s) ++ ⟨#[41]⟩ by unfold textT; rw [if_neg (by omega), if_neg (by omega), if_neg (by omega), if_neg (by omega), if_neg (by omega), if_neg (by omega), if_pos k, hs]]
    refine act_enter tabT_lasts Tryz.func26 rfl _ Tryz.ntmps26 (by simp) fun C hn hm hb => ?_
    repeat' (first
 | refine op_alloc (tl hn rfl) ?_
 | refine op_storeN (n := 0) (vs := []) rfl rfl rfl rfl (Nat.le_refl _) ?_
 | refine RunsL.step tabOk hn rfl ?_
 | refine RunsL.nil ?_
 | refine Runs.toRegion 30 rfl ?_
 | ((first | refine RunsL.pe hn rfl rfl rfl ?_ | refine RunsD.pe rfl rfl ?_); first
 | refine ⟨_, pu_makeFunc, ?_⟩
 | refine ⟨_, pu_callR hS rfl, ?_⟩
 | refine ⟨_, pu_tsHit rfl, ?_⟩
 | refine ⟨_, pu_tsMiss rfl rfl, ?_⟩
 | refine ⟨_, pu_nilCheck rfl, ?_⟩
 | refine ⟨_, pu_callFW (cap := [.obj 0 0, .obj 1 0, .obj 2 0]) (first := []) hb rfl hc (.cons .ro (.cons (Lends.obj rfl (.cons .ro .nil)) (.cons (Lends.obj rfl (.cons .ro .nil)) (.cons (Lends.obj rfl (.cons .ro .nil)) .nil)))), ?_⟩
 | refine ⟨_, pu_cat rfl rfl (by first | omega | (simp only [cat_size, c40, c41]; omega)), ?_⟩)
 | (refine Runs.ctls 30 rfl ?_; first | refine Runs.cond_t rfl ?_ | refine Runs.cond_f rfl ?_ | ((first | refine Runs.cond_yes rfl ?_ ?_ | refine Runs.cond_nno rfl ?_ ?_); · first | omega | rfl | assumption | (simp only [List.length_map]; omega)) | ((first | refine Runs.cond_no rfl ?_ ?_ | refine Runs.cond_nyes rfl ?_ ?_); · first | omega | rfl | assumption | (simp only [List.length_map]; omega)) | refine Runs.ret (ends_ro hm rfl rfl ?_) | exact Runs.ret (ends_cellR hm rfl rfl rfl (Nat.le_of_ble_eq_true rfl) rfl rfl))
 | refine op_box rfl (tl hn rfl) ?_
 | refine op_alloc (tl hn rfl) ?_
 | refine op_storeN rfl rfl rfl rfl (Nat.le_of_ble_eq_true rfl) ?_
 | refine RunsD.step tabOk hn rfl rfl ?_
 | refine RunsD.nil ?_
 | refine Runs.toDraw 30 mixed hn rfl (by kernel_rfl) rfl ?_
 | ((first | refine RunsL.pe hn rfl rfl rfl ?_ | refine RunsD.pe rfl rfl ?_); first
 | refine ⟨_, pu_add rfl rfl (by omega), ?_⟩
 | refine ⟨_, pu_indexAddr_map rfl rfl (by omega) (by assumption), ?_⟩
 | refine ⟨_, pu_sub rfl rfl (by omega), ?_⟩
 | refine ⟨_, pu_pick_b rfl rfl rfl, ?_⟩
 | refine ⟨_, pu_mul rfl rfl (by omega), ?_⟩
 | refine ⟨_, pu_build rfl rfl rfl rfl rfl rfl, ?_⟩))
    exact rr_ro rfl
set_option maxHeartbeats 16000000 in
theorem vtext_list (k : x.kind = 5) : ACtv TabT Tryz.prog 26 [desR d, .int (r : Int), .rp v.cells] (.str (textT x v ss)) := by
  obtain ⟨o1, o2, o3, o4⟩ := hv.out
  unfold maxLen at o3
  have hlm : (d.map rulR).length = d.length := List.length_map ..
  have hlv : (v.items.map Tre.cells).length = v.items.length := List.length_map ..
  have hS := shapeOf_ac x
  have hp := partsT_id (x := x) (by omega) ss
  have hj := joinT_parts x ss _ hsz
  rw [hp] at hj
  have hJ := impl_JoinText ss sComma (by omega) (by omega)
  have c91 : (⟨#[91]⟩ : ByteArray).size = 1 := rfl
  have c93 : (⟨#[93]⟩ : ByteArray).size = 1 := rfl
  rw [Tre.cells_eq]
  rw [show shapeR x = .ifc 80 (.agg []) by unfold shapeR; rw [if_neg (by omega), if_neg (by omega), if_pos k]] at hS
  rw [show textT x v ss = ((⟨#[91]⟩ : ByteArray) ++ joinT ss sComma) ++ ⟨#[93]⟩ by unfold textT; rw [if_neg (by omega), if_neg (by omega), if_pos k, hp]]
  refine act_enter tabT_lasts Tryz.func26 rfl _ Tryz.ntmps26 (by simp) fun C hn hm hb => ?_
  repeat' (first
 | refine op_build0 (tl hn rfl) ?_
 | refine op_alloc (tl hn rfl) ?_
 | refine op_storeN (n := 0) (vs := []) rfl rfl rfl rfl (Nat.le_refl _) ?_
 | ((first | refine RunsL.pe hn rfl rfl rfl ?_ | refine RunsD.pe rfl rfl ?_); first
 | refine ⟨_, pu_len_seqN v.items.length rfl hlv, ?_⟩)
 | refine RunsL.step tabOk hn rfl ?_
 | refine RunsL.nil ?_
 | refine Runs.toRegion 30 rfl ?_
 | ((first | refine RunsL.pe hn rfl rfl rfl ?_ | refine RunsD.pe rfl rfl ?_); first
 | refine ⟨_, pu_makeFunc, ?_⟩
 | refine ⟨_, pu_callR hS rfl, ?_⟩
 | refine ⟨_, pu_tsHit rfl, ?_⟩
 | refine ⟨_, pu_tsMiss rfl rfl, ?_⟩
 | refine ⟨_, pu_nilCheck rfl, ?_⟩)
 | (refine Runs.ctls 30 rfl ?_; first | refine Runs.cond_t rfl ?_ | refine Runs.cond_f rfl ?_ | ((first | refine Runs.cond_yes rfl ?_ ?_ | refine Runs.cond_nno rfl ?_ ?_); · first | omega | rfl | assumption | (simp only [List.length_map]; omega)) | ((first | refine Runs.cond_no rfl ?_ ?_ | refine Runs.cond_nyes rfl ?_ ?_); · first | omega | rfl | assumption | (simp only [List.length_map]; omega)) | refine Runs.ret (ends_ro hm rfl rfl ?_) | exact Runs.ret (ends_cellR hm rfl rfl rfl (Nat.le_of_ble_eq_true rfl) rfl rfl))
 | refine op_box rfl (tl hn rfl) ?_
 | refine op_alloc (tl hn rfl) ?_
 | refine op_storeN rfl rfl rfl rfl (Nat.le_of_ble_eq_true rfl) ?_
 | ((first | refine RunsL.pe hn rfl rfl rfl ?_ | refine RunsD.pe rfl rfl ?_); first
 | refine ⟨_, pu_add rfl rfl (by omega), ?_⟩
 | refine ⟨_, pu_indexAddr_map rfl rfl (by omega) (by assumption), ?_⟩
 | refine ⟨_, pu_sub rfl rfl (by omega), ?_⟩
 | refine ⟨_, pu_pick_b rfl rfl rfl, ?_⟩
 | refine ⟨_, pu_mul rfl rfl (by omega), ?_⟩
 | refine ⟨_, pu_build rfl rfl rfl rfl rfl rfl, ?_⟩))
  refine Runs.loopN 30 rfl (fun j => [(7, .fn (.func 44) [] [.obj 0 0, .obj 1 0, .obj 2 0]), (11, .own 4), (46, .int (v.items.length : Int)), (47, .int (j : Int))]) (fun j => [⟨35, 0, [.ro (rulsR d)]⟩, ⟨3, 0, [.int (r : Int)]⟩, ⟨60, 0, [.ro (.rp [.int v.number, bytesR v.bytes, tresR v.items])]⟩, ⟨80, 0, []⟩, ⟨9, 1, ((ss.take j).map RV.str).map .ro⟩]) (fun _ => True) v.items.length 0 (Nat.zero_le _) trivial ⟨rfl, rfl, rfl, rfl, trivial⟩ rfl fun j hj' _ next => ?_
  by_cases hlt : j < v.items.length
  · obtain ⟨y, hy⟩ : ∃ y, v.items[(j : Int).toNat]? = some y := ⟨_, List.getElem?_eq_getElem hlt⟩
    have hs : ss[j]? = some (ss[j]'(by omega)) := List.getElem?_eq_getElem _
    generalize ss[j]'(by omega) = s at hs
    have hc := item_act d (by unfold maxLen; omega) r x hx hk v hv j y hy s (IH j y s hy hs)
    repeat' (first
 | refine RunsL.step tabOk hn rfl ?_
 | refine RunsL.nil ?_
 | refine Runs.toRegion 30 rfl ?_
 | ((first | refine RunsL.pe hn rfl rfl rfl ?_ | refine RunsD.pe rfl rfl ?_); first
 | refine ⟨_, pu_callFW (cap := [.obj 0 0, .obj 1 0, .obj 2 0]) (first := []) hb rfl hc (.cons .ro (.cons (Lends.obj rfl (.cons .ro .nil)) (.cons (Lends.obj rfl (.cons .ro .nil)) (.cons (Lends.obj rfl (.cons .ro .nil)) .nil)))), ?_⟩
 | refine ⟨_, pu_build rfl rfl rfl rfl rfl rfl, ?_⟩)
 | (refine Runs.ctls 30 rfl ?_; first | refine Runs.cond_t rfl ?_ | refine Runs.cond_f rfl ?_ | ((first | refine Runs.cond_yes rfl ?_ ?_ | refine Runs.cond_nno rfl ?_ ?_); · first | omega | rfl | assumption | (simp only [List.length_map]; omega)) | ((first | refine Runs.cond_no rfl ?_ ?_ | refine Runs.cond_nyes rfl ?_ ?_); · first | omega | rfl | assumption | (simp only [List.length_map]; omega)) | refine Runs.ret (ends_ro hm rfl rfl ?_) | exact Runs.ret (ends_cellR hm rfl rfl rfl (Nat.le_of_ble_eq_true rfl) rfl rfl))
 | refine op_box rfl (tl hn rfl) ?_
 | refine op_alloc (tl hn rfl) ?_
 | refine op_storeN rfl rfl rfl rfl (Nat.le_of_ble_eq_true rfl) ?_
 | ((first | refine RunsL.pe hn rfl rfl rfl ?_ | refine RunsD.pe rfl rfl ?_); first
 | refine ⟨_, pu_add rfl rfl (by omega), ?_⟩
 | refine ⟨_, pu_indexAddr_map rfl rfl (by omega) (by assumption), ?_⟩
 | refine ⟨_, pu_sub rfl rfl (by omega), ?_⟩
 | refine ⟨_, pu_pick_b rfl rfl rfl, ?_⟩
 | refine ⟨_, pu_mul rfl rfl (by omega), ?_⟩
 | refine ⟨_, pu_build rfl rfl rfl rfl rfl rfl, ?_⟩))
    refine op_append (t := 55) (i := 4) (n := j) (rs := (ss.take j).map RV.str) (els := [[RV.str s]]) rfl rfl rfl rfl rfl rfl (by rw [List.length_map, List.length_take]; omega) (FreeI.at_ (i := 4) (by repeat' (first | exact trivial | exact onlys_ro _ _ | refine ⟨?_, ?_⟩))) (by simp; omega) (by simp; omega) (tl hn rfl) ?_
    repeat' (first
 | refine RunsL.step tabOk hn rfl ?_
 | refine RunsL.nil ?_
 | refine Runs.toRegion 30 rfl ?_
 | (refine Runs.ctls 30 rfl ?_; first | refine Runs.cond_t rfl ?_ | refine Runs.cond_f rfl ?_ | ((first | refine Runs.cond_yes rfl ?_ ?_ | refine Runs.cond_nno rfl ?_ ?_); · first | omega | rfl | assumption | (simp only [List.length_map]; omega)) | ((first | refine Runs.cond_no rfl ?_ ?_ | refine Runs.cond_nyes rfl ?_ ?_); · first | omega | rfl | assumption | (simp only [List.length_map]; omega)) | refine Runs.ret (ends_ro hm rfl rfl ?_) | exact Runs.ret (ends_cellR hm rfl rfl rfl (Nat.le_of_ble_eq_true rfl) rfl rfl))
 | refine op_box rfl (tl hn rfl) ?_
 | refine op_alloc (tl hn rfl) ?_
 | refine op_storeN rfl rfl rfl rfl (Nat.le_of_ble_eq_true rfl) ?_
 | ((first | refine RunsL.pe hn rfl rfl rfl ?_ | refine RunsD.pe rfl rfl ?_); first
 | refine ⟨_, pu_add rfl rfl (by omega), ?_⟩
 | refine ⟨_, pu_indexAddr_map rfl rfl (by omega) (by assumption), ?_⟩
 | refine ⟨_, pu_sub rfl rfl (by omega), ?_⟩
 | refine ⟨_, pu_pick_b rfl rfl rfl, ?_⟩
 | refine ⟨_, pu_mul rfl rfl (by omega), ?_⟩
 | refine ⟨_, pu_build rfl rfl rfl rfl rfl rfl, ?_⟩))
    refine next _ _ ⟨rfl, rfl, rfl, rfl, trivial⟩ hlt trivial ?_
    rw [List.take_add_one, hs, List.map_append]
    rfl
  · obtain rfl : j = v.items.length := by omega
    repeat' (first
 | refine RunsL.step tabOk hn rfl ?_
 | refine RunsL.nil ?_
 | refine Runs.toRegion 30 rfl ?_
 | ((first | refine RunsL.pe hn rfl rfl rfl ?_ | refine RunsD.pe rfl rfl ?_); first
 | refine ⟨_, pu_callL hJ (.cons (Lends.own (i := 4) (o := ⟨9, 1, ((ss.take v.items.length).map RV.str).map .ro⟩) (els := ss.map fun s => [RV.str s]) rfl (by rw [List.take_of_length_le (by omega), strs_flats]) fun x hx => by obtain ⟨y, _, rfl⟩ := List.mem_map.1 hx; rfl) (.cons .ro .nil)), ?_⟩
 | refine ⟨_, pu_cat rfl rfl (by first | omega | (simp only [cat_size, c91, c93]; omega)), ?_⟩)
 | (refine Runs.ctls 30 rfl ?_; first | refine Runs.cond_t rfl ?_ | refine Runs.cond_f rfl ?_ | ((first | refine Runs.cond_yes rfl ?_ ?_ | refine Runs.cond_nno rfl ?_ ?_); · first | omega | rfl | assumption | (simp only [List.length_map]; omega)) | ((first | refine Runs.cond_no rfl ?_ ?_ | refine Runs.cond_nyes rfl ?_ ?_); · first | omega | rfl | assumption | (simp only [List.length_map]; omega)) | refine Runs.ret (ends_ro hm rfl rfl ?_) | exact Runs.ret (ends_cellR hm rfl rfl rfl (Nat.le_of_ble_eq_true rfl) rfl rfl))
 | refine op_box rfl (tl hn rfl) ?_
 | refine op_alloc (tl hn rfl) ?_
 | refine op_storeN rfl rfl rfl rfl (Nat.le_of_ble_eq_true rfl) ?_
 | ((first | refine RunsL.pe hn rfl rfl rfl ?_ | refine RunsD.pe rfl rfl ?_); first
 | refine ⟨_, pu_add rfl rfl (by omega), ?_⟩
 | refine ⟨_, pu_indexAddr_map rfl rfl (by omega) (by assumption), ?_⟩
 | refine ⟨_, pu_sub rfl rfl (by omega), ?_⟩
 | refine ⟨_, pu_pick_b rfl rfl rfl, ?_⟩
 | refine ⟨_, pu_mul rfl rfl (by omega), ?_⟩
 | refine ⟨_, pu_build rfl rfl rfl rfl rfl rfl, ?_⟩))
    exact rr_ro rfl
set_option maxHeartbeats 16000000 in
theorem vtext_parts (k : x.kind = 6) (hnm : x.names.length = v.items.length) : ACtv TabT Tryz.prog 26 [desR d, .int (r : Int), .rp v.cells] (.str (textT x v ss)) := by
  obtain ⟨o1, o2, o3, o4⟩ := hv.out
  unfold maxLen at o3
  have hlm : (d.map rulR).length = d.length := List.length_map ..
  have hlv : (v.items.map Tre.cells).length = v.items.length := List.length_map ..
  have hS := shapeOf_ac x
  have hpl := partsT_len x ss
  have hln : (x.names.map fun z => [RV.str z]).length = x.names.length := List.length_map ..
  have hj := joinT_parts x ss _ hsz
  have hJ := impl_JoinText (partsT x ss) sComma (by omega) (by omega)
  have c91 : (⟨#[123]⟩ : ByteArray).size = 1 := rfl
  have c93 : (⟨#[125]⟩ : ByteArray).size = 1 := rfl
  rw [Tre.cells_eq]
  rw [show shapeR x = .ifc 83 (.agg [strsR x.names]) by unfold shapeR; rw [if_neg (by omega), if_neg (by omega), if_neg (by omega), if_pos k]] at hS
  rw [show textT x v ss = ((⟨#[123]⟩ : ByteArray) ++ joinT (partsT x ss) sComma) ++ ⟨#[125]⟩ by unfold textT; rw [if_neg (by omega), if_neg (by omega), if_neg (by omega), if_pos k]]
  refine act_enter tabT_lasts Tryz.func26 rfl _ Tryz.ntmps26 (by simp) fun C hn hm hb => ?_
  repeat' (first
 | refine op_build0 (tl hn rfl) ?_
 | refine op_alloc (tl hn rfl) ?_
 | refine op_storeN (n := 0) (vs := []) rfl rfl rfl rfl (Nat.le_refl _) ?_
 | ((first | refine RunsL.pe hn rfl rfl rfl ?_ | refine RunsD.pe rfl rfl ?_); first
 | refine ⟨_, pu_len_seqN x.names.length rfl hln, ?_⟩)
 | refine RunsL.step tabOk hn rfl ?_
 | refine RunsL.nil ?_
 | refine Runs.toRegion 30 rfl ?_
 | ((first | refine RunsL.pe hn rfl rfl rfl ?_ | refine RunsD.pe rfl rfl ?_); first
 | refine ⟨_, pu_makeFunc, ?_⟩
 | refine ⟨_, pu_callR hS rfl, ?_⟩
 | refine ⟨_, pu_tsHit rfl, ?_⟩
 | refine ⟨_, pu_tsMiss rfl rfl, ?_⟩
 | refine ⟨_, pu_nilCheck rfl, ?_⟩)
 | (refine Runs.ctls 30 rfl ?_; first | refine Runs.cond_t rfl ?_ | refine Runs.cond_f rfl ?_ | ((first | refine Runs.cond_yes rfl ?_ ?_ | refine Runs.cond_nno rfl ?_ ?_); · first | omega | rfl | assumption | (simp only [List.length_map]; omega)) | ((first | refine Runs.cond_no rfl ?_ ?_ | refine Runs.cond_nyes rfl ?_ ?_); · first | omega | rfl | assumption | (simp only [List.length_map]; omega)) | refine Runs.ret (ends_ro hm rfl rfl ?_) | exact Runs.ret (ends_cellR hm rfl rfl rfl (Nat.le_of_ble_eq_true rfl) rfl rfl))
 | refine op_box rfl (tl hn rfl) ?_
 | refine op_alloc (tl hn rfl) ?_
 | refine op_storeN rfl rfl rfl rfl (Nat.le_of_ble_eq_true rfl) ?_
 | ((first | refine RunsL.pe hn rfl rfl rfl ?_ | refine RunsD.pe rfl rfl ?_); first
 | refine ⟨_, pu_add rfl rfl (by omega), ?_⟩
 | refine ⟨_, pu_indexAddr_map rfl rfl (by omega) (by assumption), ?_⟩
 | refine ⟨_, pu_sub rfl rfl (by omega), ?_⟩
 | refine ⟨_, pu_pick_b rfl rfl rfl, ?_⟩
 | refine ⟨_, pu_mul rfl rfl (by omega), ?_⟩
 | refine ⟨_, pu_build rfl rfl rfl rfl rfl rfl, ?_⟩))
  refine Runs.loopN 30 rfl (fun j => [(7, .fn (.func 44) [] [.obj 0 0, .obj 1 0, .obj 2 0]), (14, .own 4), (66, .ro (strsR x.names)), (67, .int (x.names.length : Int)), (68, .int (j : Int))]) (fun j => [⟨35, 0, [.ro (rulsR d)]⟩, ⟨3, 0, [.int (r : Int)]⟩, ⟨60, 0, [.ro (.rp [.int v.number, bytesR v.bytes, tresR v.items])]⟩, ⟨83, 0, [.ro (strsR x.names)]⟩, ⟨9, 1, (((partsT x ss).take j).map RV.str).map .ro⟩]) (fun _ => True) v.items.length 0 (Nat.zero_le _) trivial ⟨rfl, rfl, rfl, rfl, rfl, trivial⟩ rfl fun j hj' _ next => ?_
  by_cases hlt : j < v.items.length
  · obtain ⟨y, hy⟩ : ∃ y, v.items[(j : Int).toNat]? = some y := ⟨_, List.getElem?_eq_getElem hlt⟩
    have hs : ss[j]? = some (ss[j]'(by omega)) := List.getElem?_eq_getElem _
    generalize ss[j]'(by omega) = s at hs
    obtain ⟨nm, hnmj⟩ : ∃ nm, x.names[(j : Int).toNat]? = some nm := ⟨_, List.getElem?_eq_getElem (by simp; omega)⟩
    have hpt : partT x j s = (nm ++ sColon) ++ s := by unfold partT; rw [if_pos k, show x.names[j]? = some nm from hnmj]; rfl
    have hpa := partsT_at (x := x) hs
    have hps : (partT x j s).size ≤ 4398046511104 := by
      have := sum_mem_le (fun s : ByteArray => s.size + 1) (List.mem_of_getElem? hpa)
      omega
    have hps2 := congrArg ByteArray.size hpt
    have c58 : (⟨#[58]⟩ : ByteArray).size = 1 := rfl
    have k58 : sColon.size = 1 := rfl
    simp only [cat_size, k58] at hps2
    have hc := item_act d (by unfold maxLen; omega) r x hx hk v hv j y hy s (IH j y s hy hs)
    repeat' (first
 | refine RunsL.step tabOk hn rfl ?_
 | refine RunsL.nil ?_
 | refine Runs.toRegion 30 rfl ?_
 | ((first | refine RunsL.pe hn rfl rfl rfl ?_ | refine RunsD.pe rfl rfl ?_); first
 | refine ⟨_, pu_cat rfl rfl (by first | omega | (simp only [cat_size, c58]; omega)), ?_⟩
 | refine ⟨_, pu_callFW (cap := [.obj 0 0, .obj 1 0, .obj 2 0]) (first := []) hb rfl hc (.cons .ro (.cons (Lends.obj rfl (.cons .ro .nil)) (.cons (Lends.obj rfl (.cons .ro .nil)) (.cons (Lends.obj rfl (.cons .ro .nil)) .nil)))), ?_⟩
 | refine ⟨_, pu_build rfl rfl rfl rfl rfl rfl, ?_⟩)
 | (refine Runs.ctls 30 rfl ?_; first | refine Runs.cond_t rfl ?_ | refine Runs.cond_f rfl ?_ | ((first | refine Runs.cond_yes rfl ?_ ?_ | refine Runs.cond_nno rfl ?_ ?_); · first | omega | rfl | assumption | (simp only [List.length_map]; omega)) | ((first | refine Runs.cond_no rfl ?_ ?_ | refine Runs.cond_nyes rfl ?_ ?_); · first | omega | rfl | assumption | (simp only [List.length_map]; omega)) | refine Runs.ret (ends_ro hm rfl rfl ?_) | exact Runs.ret (ends_cellR hm rfl rfl rfl (Nat.le_of_ble_eq_true rfl) rfl rfl))
 | refine op_box rfl (tl hn rfl) ?_
 | refine op_alloc (tl hn rfl) ?_
 | refine op_storeN rfl rfl rfl rfl (Nat.le_of_ble_eq_true rfl) ?_
 | ((first | refine RunsL.pe hn rfl rfl rfl ?_ | refine RunsD.pe rfl rfl ?_); first
 | refine ⟨_, pu_add rfl rfl (by omega), ?_⟩
 | refine ⟨_, pu_indexAddr_map rfl rfl (by omega) (by assumption), ?_⟩
 | refine ⟨_, pu_sub rfl rfl (by omega), ?_⟩
 | refine ⟨_, pu_pick_b rfl rfl rfl, ?_⟩
 | refine ⟨_, pu_mul rfl rfl (by omega), ?_⟩
 | refine ⟨_, pu_build rfl rfl rfl rfl rfl rfl, ?_⟩))
    refine op_append (t := 81) (i := 4) (n := j) (rs := ((partsT x ss).take j).map RV.str) (els := [[RV.str ((nm ++ sColon) ++ s)]]) rfl rfl rfl rfl rfl rfl (by rw [List.length_map, List.length_take]; omega) (FreeI.at_ (i := 4) (by repeat' (first | exact trivial | exact onlys_ro _ _ | refine ⟨?_, ?_⟩))) (by simp; omega) (by simp; omega) (tl hn rfl) ?_
    repeat' (first
 | refine RunsL.step tabOk hn rfl ?_
 | refine RunsL.nil ?_
 | refine Runs.toRegion 30 rfl ?_
 | (refine Runs.ctls 30 rfl ?_; first | refine Runs.cond_t rfl ?_ | refine Runs.cond_f rfl ?_ | ((first | refine Runs.cond_yes rfl ?_ ?_ | refine Runs.cond_nno rfl ?_ ?_); · first | omega | rfl | assumption | (simp only [List.length_map]; omega)) | ((first | refine Runs.cond_no rfl ?_ ?_ | refine Runs.cond_nyes rfl ?_ ?_); · first | omega | rfl | assumption | (simp only [List.length_map]; omega)) | refine Runs.ret (ends_ro hm rfl rfl ?_) | exact Runs.ret (ends_cellR hm rfl rfl rfl (Nat.le_of_ble_eq_true rfl) rfl rfl))
 | refine op_box rfl (tl hn rfl) ?_
 | refine op_alloc (tl hn rfl) ?_
 | refine op_storeN rfl rfl rfl rfl (Nat.le_of_ble_eq_true rfl) ?_
 | ((first | refine RunsL.pe hn rfl rfl rfl ?_ | refine RunsD.pe rfl rfl ?_); first
 | refine ⟨_, pu_add rfl rfl (by omega), ?_⟩
 | refine ⟨_, pu_indexAddr_map rfl rfl (by omega) (by assumption), ?_⟩
 | refine ⟨_, pu_sub rfl rfl (by omega), ?_⟩
 | refine ⟨_, pu_pick_b rfl rfl rfl, ?_⟩
 | refine ⟨_, pu_mul rfl rfl (by omega), ?_⟩
 | refine ⟨_, pu_build rfl rfl rfl rfl rfl rfl, ?_⟩))
    refine next _ _ ⟨rfl, rfl, rfl, rfl, rfl, trivial⟩ hlt trivial ?_
    rw [List.take_add_one, hpa, hpt, List.map_append]
    rfl
  · obtain rfl : j = v.items.length := by omega
    repeat' (first
 | refine RunsL.step tabOk hn rfl ?_
 | refine RunsL.nil ?_
 | refine Runs.toRegion 30 rfl ?_
 | ((first | refine RunsL.pe hn rfl rfl rfl ?_ | refine RunsD.pe rfl rfl ?_); first
 | refine ⟨_, pu_callL hJ (.cons (Lends.own (i := 4) (o := ⟨9, 1, (((partsT x ss).take v.items.length).map RV.str).map .ro⟩) (els := (partsT x ss).map fun s => [RV.str s]) rfl (by rw [List.take_of_length_le (by omega), strs_flats]) fun x hx => by obtain ⟨y, _, rfl⟩ := List.mem_map.1 hx; rfl) (.cons .ro .nil)), ?_⟩
 | refine ⟨_, pu_cat rfl rfl (by first | omega | (simp only [cat_size, c91, c93]; omega)), ?_⟩)
 | (refine Runs.ctls 30 rfl ?_; first | refine Runs.cond_t rfl ?_ | refine Runs.cond_f rfl ?_ | ((first | refine Runs.cond_yes rfl ?_ ?_ | refine Runs.cond_nno rfl ?_ ?_); · first | omega | rfl | assumption | (simp only [List.length_map]; omega)) | ((first | refine Runs.cond_no rfl ?_ ?_ | refine Runs.cond_nyes rfl ?_ ?_); · first | omega | rfl | assumption | (simp only [List.length_map]; omega)) | refine Runs.ret (ends_ro hm rfl rfl ?_) | exact Runs.ret (ends_cellR hm rfl rfl rfl (Nat.le_of_ble_eq_true rfl) rfl rfl))
 | refine op_box rfl (tl hn rfl) ?_
 | refine op_alloc (tl hn rfl) ?_
 | refine op_storeN rfl rfl rfl rfl (Nat.le_of_ble_eq_true rfl) ?_
 | ((first | refine RunsL.pe hn rfl rfl rfl ?_ | refine RunsD.pe rfl rfl ?_); first
 | refine ⟨_, pu_add rfl rfl (by omega), ?_⟩
 | refine ⟨_, pu_indexAddr_map rfl rfl (by omega) (by assumption), ?_⟩
 | refine ⟨_, pu_sub rfl rfl (by omega), ?_⟩
 | refine ⟨_, pu_pick_b rfl rfl rfl, ?_⟩
 | refine ⟨_, pu_mul rfl rfl (by omega), ?_⟩
 | refine ⟨_, pu_build rfl rfl rfl rfl rfl rfl, ?_⟩))
    exact rr_ro rfl
end
end Go.Proofs.YtkmoffefhlmgeaaGreatDoor
/- Values as texts: any value of a rule, both sides; FormatValue. -/
namespace Go.Proofs.YtkmoffefhlmgeaaGreatDoor
set_option linter.unusedSimpArgs false
set_option linter.unusedVariables false
set_option linter.unusedSectionVars false
set_option maxRecDepth 100000
open Go.RowKit
open AV (Mem Keeps)
theorem name_size {d : Des} {x : Rul} (hx : x ∈ d) {s : ByteArray} (hs : s ∈ x.names) : s.size ≤ dtotal d := by
  have e1 : dtotal d = d.length + (d.map Rul.total).sum := rfl
  have e2 : x.total = x.name.size + x.bytes.length + (x.names.length + (x.names.map ByteArray.size).sum) + x.tags.length + x.kids.length := rfl
  have h1 := sum_mem_le Rul.total hx
  have h2 := sum_mem_le ByteArray.size hs
  omega
theorem parts_sum {x : Rul} {v : Tre} {ss : List ByteArray} (hl : ss.length = v.items.length) (hn : ∀ s ∈ x.names, s.size ≤ 1048576) (h : ∀ (i : Nat) y s, v.items[i]? = some y → ss[i]? = some s → s.size + 1048579 ≤ 2097152 * (y.total + 1)) :
    ((partsT x ss).map fun s => s.size + 1).sum ≤ 2097152 * ((v.items.map Tre.total).sum + v.items.length) := by
  have key : ∀ j, j ≤ ss.length → (((partsT x ss).take j).map fun s => s.size + 1).sum ≤ 2097152 * (((v.items.take j).map Tre.total).sum + j) := by
    intro j
    induction j with
    | zero => intro _; simp
    | succ j ih =>
      intro hj
      have h0 := ih (by omega)
      obtain ⟨s, hs⟩ : ∃ s, ss[j]? = some s := ⟨_, List.getElem?_eq_getElem (by omega)⟩
      obtain ⟨y, hy⟩ : ∃ y, v.items[j]? = some y := ⟨_, List.getElem?_eq_getElem (by omega)⟩
      have h1 := h j y s hy hs
      have hp := partsT_at (x := x) hs
      have hsz : (partT x j s).size ≤ s.size + 1048577 := by
        unfold partT
        split
        · rw [cat_size, cat_size, show sColon.size = 1 from rfl]
          have : ((x.names[j]?).getD ⟨#[]⟩).size ≤ 1048576 := by
            cases hnm : x.names[j]? with
            | none => exact Nat.zero_le _
            | some nm => exact hn nm (List.mem_of_getElem? hnm)
          omega
        · omega
      rw [List.take_add_one, List.take_add_one, hp, hy]
      simp only [Option.toList, List.map_append, List.sum_append, List.map_cons, List.map_nil, List.sum_cons, List.sum_nil]
      omega
  have := key ss.length (Nat.le_refl _)
  rwa [List.take_of_length_le (by rw [partsT_len]; exact Nat.le_refl _), List.take_of_length_le (by omega), hl] at this
theorem text_both {d : Des} (hd : dtotal d ≤ 1048576) (hG : Good' d) : ∀ v : Tre, v.Ok → v.total ≤ 1048576 → ∀ (r : Nat) (x : Rul), d[r]? = some x → Vld d r v →
    ∃ s : ByteArray, s.size + 1048579 ≤ 2097152 * (v.total + 1) ∧ ACv Tryz.prog 21 [desR d, .int (r : Int), treR v] (.str s) ∧ ACtv TabT Tryz.prog 26 [desR d, .int (r : Int), .rp v.cells] (.str s) := by
  refine Tre.ind fun v ih hv ht r x hx hV => ?_
  have hx' : d[(r : Int).toNat]? = some x := hx
  have e1 : dtotal d = d.length + (d.map Rul.total).sum := rfl
  have et := v.total_eq
  have hk := kind_at hG hx
  obtain ⟨hO, hI⟩ := (vld_iff hx).1 hV
  obtain ⟨o1, o2, o3, o4⟩ := hv.out
  have hn : ∀ s ∈ x.names, s.size ≤ 1048576 := fun s hs => Nat.le_trans (name_size (List.mem_of_getElem? hx) hs) hd
  obtain ⟨ss, hl, hss⟩ := list_pick (Q := fun i y s => s.size + 1048579 ≤ 2097152 * (y.total + 1) ∧ ACv Tryz.prog 21 [desR d, .int (itemR x v.number (i : Int)), treR y] (.str s) ∧ ACtv TabT Tryz.prog 26 [desR d, .int (itemR x v.number (i : Int)), .rp y.cells] (.str s)) v.items (fun i y hy => by
    have hil := (List.getElem?_eq_some_iff.1 hy).1
    have hit := own_item hG hx hO hil
    have hm := List.mem_of_getElem? hy
    have hr := (List.getElem?_eq_some_iff.1 hx).1
    obtain ⟨x', hx'⟩ : ∃ x', d[(itemR x v.number (i : Int)).toNat]? = some x' := ⟨_, List.getElem?_eq_getElem (by omega)⟩
    have := sum_mem_le Tre.total hm
    obtain ⟨s, h1, h2, h3⟩ := ih y hm (o4 y hm) (by omega) (itemR x v.number (i : Int)).toNat x' hx' (hI i y hy)
    rw [show (((itemR x v.number (i : Int)).toNat : Nat) : Int) = itemR x v.number (i : Int) by omega] at h2 h3
    exact ⟨s, h1, h2, h3⟩)
  have hsum := parts_sum (x := x) hl hn fun i y s hy hs => (hss i y s hy hs).1
  have hsz : ((partsT x ss).map fun s => s.size + 1).sum ≤ 4398046511104 := by omega
  have hj := joinT_parts x ss _ hsum
  have hi6 : x.kind = 6 → v.items.length = x.names.length := fun k6 => by
    have h1 : v.items.length = x.kids.length := by
      have h := hO
      unfold OwnV at h
      rw [if_neg (by omega), if_neg (by omega), if_neg (by omega), if_neg (by omega), if_neg (by omega), if_neg (by omega), if_pos k6] at h
      exact h.2.2
    unfold KindOk at hk
    rcases hk with hk | hk | hk | hk | hk | hk | hk | hk | hk
    all_goals first | omega | (have := hk.2.1.kids (by omega); omega)
  refine ⟨textT x v ss, ?_, l10Text_ac (by omega) hx' hk v hv (by omega) ss hl (fun k => by have := hi6 k; omega) hsz fun i y s hy hs => (hss i y s hy hs).2.1, ?_⟩
  · have hF := fmtI_len v.number o1
    have hH := hexT_size v.bytes
    unfold textT
    have lit : ∀ z : UInt8, (⟨#[z]⟩ : ByteArray).size = 1 := fun _ => rfl
    repeat' split
    all_goals first | omega | (simp only [cat_size, lit]; omega)
  · have IHI : ∀ (i : Nat) y s, v.items[i]? = some y → ss[i]? = some s → ACtv TabT Tryz.prog 26 [desR d, .int (itemR x v.number (i : Int)), .rp y.cells] (.str s) := fun i y s hy hs => (hss i y s hy hs).2.2
    have hkr : 1 ≤ x.kind ∧ x.kind ≤ 10 := by
      unfold KindOk at hk
      rcases hk with hk | hk | hk | hk | hk | hk | hk | hk | hk
      all_goals first | omega | (have := hk.1; omega)
    by_cases k5 : x.kind = 5
    · exact vtext_list (by omega) hx' hk v hv (by omega) (by omega) ss hl hsz IHI k5
    by_cases k6 : x.kind = 6
    · exact vtext_parts (by omega) hx' hk v hv (by omega) (by omega) ss hl hsz IHI k6 (hi6 k6).symm
    by_cases k7 : x.kind = 7 ∨ x.kind = 8 ∨ x.kind = 9
    · have hO' := hO
      unfold OwnV at hO'
      refine vtext_one (by omega) hx' hk v hv (by omega) (by omega) ss hl hsz IHI k7 (fun k => ?_) ?_
      · rcases k with k | k
        · rw [if_neg (by omega), if_neg (by omega), if_neg (by omega), if_neg (by omega), if_neg (by omega), if_neg (by omega), if_neg (by omega), if_pos k] at hO'
          exact hO'.2.1
        · rw [if_neg (by omega), if_neg (by omega), if_neg (by omega), if_neg (by omega), if_neg (by omega), if_neg (by omega), if_neg (by omega), if_neg (by omega), if_neg (by omega)] at hO'
          exact hO'.2.2
      · rw [if_neg (by omega), if_neg (by omega), if_neg (by omega), if_neg (by omega), if_neg (by omega), if_neg (by omega), if_neg (by omega)] at hO'
        split at hO'
        · have := hO'.2.1; omega
        · split at hO'
          · exact hO'.2.2
          · have := hO'.2.2; omega
    · exact vtext_leaf (by omega) hx' hk v hv (by omega) (by omega) ss hl hsz IHI (by omega)
end Go.Proofs.YtkmoffefhlmgeaaGreatDoor
/- The lines of a value: both sides. -/
namespace Go.Proofs.YtkmoffefhlmgeaaGreatDoor
set_option linter.unusedSimpArgs false
set_option linter.unusedVariables false
set_option linter.unusedSectionVars false
set_option maxRecDepth 100000
open Go.RowKit
open AV (Mem Keeps)
def sEq : ByteArray := ⟨#[61]⟩
def linesT (x : Rul) (ss : List ByteArray) : List ByteArray := (List.range ss.length).map fun i => (((x.names[i]?).getD ⟨#[]⟩) ++ sEq) ++ ((ss[i]?).getD ⟨#[]⟩)
theorem linesT_len (x : Rul) (ss : List ByteArray) : (linesT x ss).length = ss.length := by simp [linesT]
theorem linesT_next {x : Rul} {ss : List ByteArray} {j : Nat} {s nm : ByteArray} (h : ss[j]? = some s) (hn : x.names[j]? = some nm) : ((linesT x ss).take (j + 1)).map RV.str = ((linesT x ss).take j).map RV.str ++ [[RV.str ((nm ++ sEq) ++ s)]].flatten := by
  have hi := (List.getElem?_eq_some_iff.1 h).1
  have e : (linesT x ss)[j]? = some ((nm ++ sEq) ++ s) := by
    unfold linesT
    rw [List.getElem?_map, List.getElem?_range hi, Option.map_some, h, hn]
    rfl
  rw [List.take_add_one, e, List.map_append]
  rfl
def rowT (l : List ByteArray) : RR := .row 9 1 (l.map RV.str)
section
variable {d : Des} (ho : DesOk d) (hd : dtotal d ≤ 1048576) {r : Int} {v : Tre} (hv : v.Ok) (ht : v.total ≤ 1048576)
include ho hd hv ht
set_option maxHeartbeats 8000000 in
theorem lines_bad (h : ¬ VldI d r v) : AC Tryz.prog 6 [desR d, .int r, treR v] (fun rr => rr = rowT []) ∧ ACt TabT Tryz.prog 9 [desR d, .int r, treR v] (fun rr => rr = rowT []) := by
  have hS := spec_IsValidValue d ho hd r v hv
  have hI := impl_IsValidValue d ho hd r v hv
  rw [decide_eq_false h] at hS hI
  refine ⟨?_, ?_⟩
  · refine ac_enter Tryz.func6 rfl _ Tryz.ntmps6 (by simp) fun C hn hm => ?_
    repeat' (first
 | refine op_build0 (tl hn rfl) ?_
 | refine RunsL.step tabOk hn rfl ?_
 | refine RunsL.nil ?_
 | refine Runs.toRegion 30 rfl ?_
 | ((first | refine RunsL.pe hn rfl rfl rfl ?_ | refine RunsD.pe rfl rfl ?_); first
 | refine ⟨_, pu_callR hS rfl, ?_⟩)
 | (refine Runs.ctls 30 rfl ?_; first | refine Runs.cond_t rfl ?_ | ((first | refine Runs.cond_yes rfl ?_ ?_ | refine Runs.cond_nno rfl ?_ ?_); · first | omega | rfl | assumption | (simp only [List.length_map]; omega)) | ((first | refine Runs.cond_no rfl ?_ ?_ | refine Runs.cond_nyes rfl ?_ ?_); · first | omega | rfl | assumption | (simp only [List.length_map]; omega)) | refine Runs.ret (ends_ro hm rfl rfl ?_) | exact Runs.ret (ends_cellR hm rfl rfl rfl (Nat.le_of_ble_eq_true rfl) rfl rfl))
 | refine op_box rfl (tl hn rfl) ?_
 | ((first | refine RunsL.pe hn rfl rfl rfl ?_ | refine RunsD.pe rfl rfl ?_); first
 | refine ⟨_, pu_add rfl rfl (by omega), ?_⟩
 | refine ⟨_, pu_indexAddr_map rfl rfl (by omega) (by assumption), ?_⟩
 | refine ⟨_, pu_sub rfl rfl (by omega), ?_⟩
 | refine ⟨_, pu_pick_b rfl rfl rfl, ?_⟩
 | refine ⟨_, pu_mul rfl rfl (by omega), ?_⟩
 | refine ⟨_, pu_build rfl rfl rfl rfl rfl rfl, ?_⟩))
    exact Runs.ctls 30 rfl (Runs.ret (ends_own hm rfl rfl rfl rfl rfl))
  · refine act_enter tabT_lasts Tryz.func9 rfl _ Tryz.ntmps9 (by simp) fun C hn hm hb => ?_
    repeat' (first
 | refine op_build0 (tl hn rfl) ?_
 | refine RunsL.step tabOk hn rfl ?_
 | refine RunsL.nil ?_
 | refine Runs.toRegion 30 rfl ?_
 | ((first | refine RunsL.pe hn rfl rfl rfl ?_ | refine RunsD.pe rfl rfl ?_); first
 | refine ⟨_, pu_callR hI rfl, ?_⟩)
 | (refine Runs.ctls 30 rfl ?_; first | refine Runs.cond_t rfl ?_ | ((first | refine Runs.cond_yes rfl ?_ ?_ | refine Runs.cond_nno rfl ?_ ?_); · first | omega | rfl | assumption | (simp only [List.length_map]; omega)) | ((first | refine Runs.cond_no rfl ?_ ?_ | refine Runs.cond_nyes rfl ?_ ?_); · first | omega | rfl | assumption | (simp only [List.length_map]; omega)) | refine Runs.ret (ends_ro hm rfl rfl ?_) | exact Runs.ret (ends_cellR hm rfl rfl rfl (Nat.le_of_ble_eq_true rfl) rfl rfl))
 | refine op_box rfl (tl hn rfl) ?_
 | ((first | refine RunsL.pe hn rfl rfl rfl ?_ | refine RunsD.pe rfl rfl ?_); first
 | refine ⟨_, pu_add rfl rfl (by omega), ?_⟩
 | refine ⟨_, pu_indexAddr_map rfl rfl (by omega) (by assumption), ?_⟩
 | refine ⟨_, pu_sub rfl rfl (by omega), ?_⟩
 | refine ⟨_, pu_pick_b rfl rfl rfl, ?_⟩
 | refine ⟨_, pu_mul rfl rfl (by omega), ?_⟩
 | refine ⟨_, pu_build rfl rfl rfl rfl rfl rfl, ?_⟩))
    exact Runs.ctls 30 rfl (Runs.ret (ends_own hm rfl rfl rfl rfl rfl))
set_option maxHeartbeats 8000000 in
theorem lines_one (h : VldI d r v) {n : Nat} {x : Rul} (hr : r = n) (hx : d[n]? = some x) (k6 : x.kind ≠ 6) : ∃ s : ByteArray, AC Tryz.prog 6 [desR d, .int r, treR v] (fun rr => rr = rowT [s]) ∧ ACt TabT Tryz.prog 9 [desR d, .int r, treR v] (fun rr => rr = rowT [s]) := by
  have hS := spec_IsValidValue d ho hd r v hv
  have hI := impl_IsValidValue d ho hd r v hv
  rw [decide_eq_true h] at hS hI
  subst hr
  have hx' : d[(n : Int).toNat]? = some x := hx
  have hlm : (d.map rulR).length = d.length := List.length_map ..
  obtain ⟨s, _, h2, h3⟩ := text_both hd h.1.1 v hv ht n x hx h.2
  rw [Tre.cells_eq] at h3
  refine ⟨s, ?_, ?_⟩
  · refine ac_enter Tryz.func6 rfl _ Tryz.ntmps6 (by simp) fun C hn hm => ?_
    repeat' (first
 | refine op_build0 (tl hn rfl) ?_
 | refine RunsL.step tabOk hn rfl ?_
 | refine RunsL.nil ?_
 | refine Runs.toRegion 30 rfl ?_
 | refine op_append (t := 31) (i := 2) (n := 0) (rs := []) (els := [[RV.str s]]) rfl rfl rfl rfl rfl rfl rfl (FreeI.at_ (i := 2) (by repeat' (first | exact trivial | exact onlys_ro _ _ | refine ⟨?_, ?_⟩))) (by simp) (by simp) (tl hn rfl) ?_
 | ((first | refine RunsL.pe hn rfl rfl rfl ?_ | refine RunsD.pe rfl rfl ?_); first
 | refine ⟨_, pu_callR hS rfl, ?_⟩
 | refine ⟨_, pu_callR h2 rfl, ?_⟩
 | refine ⟨_, pu_build rfl rfl rfl rfl rfl rfl, ?_⟩)
 | (refine Runs.ctls 30 rfl ?_; first | refine Runs.cond_f rfl ?_ | ((first | refine Runs.cond_yes rfl ?_ ?_ | refine Runs.cond_nno rfl ?_ ?_); · first | omega | rfl | assumption | (simp only [List.length_map]; omega)) | ((first | refine Runs.cond_no rfl ?_ ?_ | refine Runs.cond_nyes rfl ?_ ?_); · first | omega | rfl | assumption | (simp only [List.length_map]; omega)) | refine Runs.ret (ends_ro hm rfl rfl ?_) | exact Runs.ret (ends_cellR hm rfl rfl rfl (Nat.le_of_ble_eq_true rfl) rfl rfl))
 | refine op_box rfl (tl hn rfl) ?_
 | refine op_alloc (tl hn rfl) ?_
 | refine op_storeN rfl rfl rfl rfl (Nat.le_of_ble_eq_true rfl) ?_
 | ((first | refine RunsL.pe hn rfl rfl rfl ?_ | refine RunsD.pe rfl rfl ?_); first
 | refine ⟨_, pu_add rfl rfl (by omega), ?_⟩
 | refine ⟨_, pu_indexAddr_map rfl rfl (by omega) (by assumption), ?_⟩
 | refine ⟨_, pu_sub rfl rfl (by omega), ?_⟩
 | refine ⟨_, pu_pick_b rfl rfl rfl, ?_⟩
 | refine ⟨_, pu_mul rfl rfl (by omega), ?_⟩
 | refine ⟨_, pu_build rfl rfl rfl rfl rfl rfl, ?_⟩))
    exact Runs.ctls 30 rfl (Runs.ret (ends_own hm rfl rfl rfl rfl rfl))
  · refine act_enter tabT_lasts Tryz.func9 rfl _ Tryz.ntmps9 (by simp) fun C hn hm hb => ?_
    repeat' (first
 | refine op_build0 (tl hn rfl) ?_
 | refine RunsL.step tabOk hn rfl ?_
 | refine RunsL.nil ?_
 | refine Runs.toRegion 30 rfl ?_
 | refine op_append (t := 31) (i := 2) (n := 0) (rs := []) (els := [[RV.str s]]) rfl rfl rfl rfl rfl rfl rfl (FreeI.at_ (i := 2) (by repeat' (first | exact trivial | exact onlys_ro _ _ | refine ⟨?_, ?_⟩))) (by simp) (by simp) (tl hn rfl) ?_
 | ((first | refine RunsL.pe hn rfl rfl rfl ?_ | refine RunsD.pe rfl rfl ?_); first
 | refine ⟨_, pu_callR hI rfl, ?_⟩
 | refine ⟨_, pu_callLW hb h3 (.cons (Lends.agg (.cons .ro .nil)) (.cons .ro (.cons (Lends.obj rfl (.cons .ro (.cons .ro (.cons .ro .nil)))) .nil))), ?_⟩
 | refine ⟨_, pu_callLW hb h3 (.cons .ro (.cons .ro (.cons (Lends.obj rfl (.cons .ro (.cons .ro (.cons .ro .nil)))) .nil))), ?_⟩
 | refine ⟨_, pu_build rfl rfl rfl rfl rfl rfl, ?_⟩)
 | (refine Runs.ctls 30 rfl ?_; first | refine Runs.cond_f rfl ?_ | ((first | refine Runs.cond_yes rfl ?_ ?_ | refine Runs.cond_nno rfl ?_ ?_); · first | omega | rfl | assumption | (simp only [List.length_map]; omega)) | ((first | refine Runs.cond_no rfl ?_ ?_ | refine Runs.cond_nyes rfl ?_ ?_); · first | omega | rfl | assumption | (simp only [List.length_map]; omega)) | refine Runs.ret (ends_ro hm rfl rfl ?_) | exact Runs.ret (ends_cellR hm rfl rfl rfl (Nat.le_of_ble_eq_true rfl) rfl rfl))
 | refine op_box rfl (tl hn rfl) ?_
 | refine op_alloc (tl hn rfl) ?_
 | refine op_storeN rfl rfl rfl rfl (Nat.le_of_ble_eq_true rfl) ?_
 | ((first | refine RunsL.pe hn rfl rfl rfl ?_ | refine RunsD.pe rfl rfl ?_); first
 | refine ⟨_, pu_add rfl rfl (by omega), ?_⟩
 | refine ⟨_, pu_indexAddr_map rfl rfl (by omega) (by assumption), ?_⟩
 | refine ⟨_, pu_sub rfl rfl (by omega), ?_⟩
 | refine ⟨_, pu_pick_b rfl rfl rfl, ?_⟩
 | refine ⟨_, pu_mul rfl rfl (by omega), ?_⟩
 | refine ⟨_, pu_build rfl rfl rfl rfl rfl rfl, ?_⟩))
    exact Runs.ctls 30 rfl (Runs.ret (ends_own hm rfl rfl rfl rfl rfl))
theorem seq_texts (h : VldI d r v) {n : Nat} {x : Rul} (hr : r = n) (hx : d[n]? = some x) (k6 : x.kind = 6) : v.items.length = x.names.length ∧ v.items.length = x.kids.length ∧ (∀ s ∈ x.names, s.size ≤ 1048576) ∧ ∃ ss : List ByteArray, ss.length = v.items.length ∧ ∀ (i : Nat) y s, v.items[i]? = some y → ss[i]? = some s →
    ∃ z : Int, x.kids[i]? = some z ∧ s.size ≤ 4398046511104 ∧ ACv Tryz.prog 21 [desR d, .int z, treR y] (.str s) ∧ ACtv TabT Tryz.prog 26 [desR d, .int z, .rp y.cells] (.str s) := by
  subst hr
  have e1 : dtotal d = d.length + (d.map Rul.total).sum := rfl
  have et := v.total_eq
  have hG := h.1.1
  have hk := kind_at hG hx
  obtain ⟨hO, hI⟩ := (vld_iff hx).1 h.2
  obtain ⟨o1, o2, o3, o4⟩ := hv.out
  have h1 : v.items.length = x.kids.length := by
    have h := hO
    unfold OwnV at h
    rw [if_neg (by omega), if_neg (by omega), if_neg (by omega), if_neg (by omega), if_neg (by omega), if_neg (by omega), if_pos k6] at h
    exact h.2.2
  have h2 : v.items.length = x.names.length := by
    unfold KindOk at hk
    rcases hk with hk | hk | hk | hk | hk | hk | hk | hk | hk
    all_goals first | omega | (have := hk.2.1.kids (by omega); omega)
  refine ⟨h2, h1, fun s hs => Nat.le_trans (name_size (List.mem_of_getElem? hx) hs) hd, ?_⟩
  refine list_pick (Q := fun i y s => ∃ z : Int, x.kids[i]? = some z ∧ s.size ≤ 4398046511104 ∧ ACv Tryz.prog 21 [desR d, .int z, treR y] (.str s) ∧ ACtv TabT Tryz.prog 26 [desR d, .int z, .rp y.cells] (.str s)) v.items (fun i y hy => ?_)
  have hil := (List.getElem?_eq_some_iff.1 hy).1
  have hit := own_item hG hx hO hil
  have hm := List.mem_of_getElem? hy
  have hrl := (List.getElem?_eq_some_iff.1 hx).1
  obtain ⟨z, hz⟩ : ∃ z, x.kids[i]? = some z := ⟨_, List.getElem?_eq_getElem (by omega)⟩
  have hiz : itemR x v.number (i : Int) = z := by
    unfold itemR
    rw [if_neg (by omega), if_pos k6, Int.toNat_natCast, hz]
    rfl
  rw [hiz] at hit
  obtain ⟨x', hx'⟩ : ∃ x', d[z.toNat]? = some x' := ⟨_, List.getElem?_eq_getElem (by omega)⟩
  have := sum_mem_le Tre.total hm
  have hV := hI i y hy
  rw [hiz] at hV
  obtain ⟨s, h1, h2, h3⟩ := text_both hd hG y (o4 y hm) (by omega) z.toNat x' hx' hV
  rw [show ((z.toNat : Nat) : Int) = z by omega] at h2 h3
  exact ⟨s, z, hz, by omega, h2, h3⟩
set_option maxHeartbeats 16000000 in
theorem lines_seq (h : VldI d r v) {n : Nat} {x : Rul} (hr : r = n) (hx : d[n]? = some x) (k6 : x.kind = 6) : ∃ ls : List ByteArray, ls.length ≤ 1048576 ∧ AC Tryz.prog 6 [desR d, .int r, treR v] (fun rr => rr = rowT ls) ∧ ACt TabT Tryz.prog 9 [desR d, .int r, treR v] (fun rr => rr = rowT ls) := by
  have hS := spec_IsValidValue d ho hd r v hv
  have hI := impl_IsValidValue d ho hd r v hv
  rw [decide_eq_true h] at hS hI
  obtain ⟨hnm, hkl, hns, ss, hl, hss⟩ := seq_texts ho hd hv ht h hr hx k6
  subst hr
  have hx' : d[(n : Int).toNat]? = some x := hx
  have hlm : (d.map rulR).length = d.length := List.length_map ..
  have hlv : (v.items.map Tre.cells).length = v.items.length := List.length_map ..
  have hln : (x.names.map fun z => [RV.str z]).length = x.names.length := List.length_map ..
  have et := v.total_eq
  have hll := linesT_len x ss
  have c61 : (⟨#[61]⟩ : ByteArray).size = 1 := rfl
  have item : ∀ j : Nat, j < v.items.length → ∃ y s z nm, v.items[(j : Int).toNat]? = some y ∧ ss[j]? = some s ∧ x.kids[(j : Int).toNat]? = some z ∧ x.names[(j : Int).toNat]? = some nm ∧ nm.size ≤ 1048576 ∧ s.size ≤ 4398046511104 ∧ ACv Tryz.prog 21 [desR d, .int z, treR y] (.str s) ∧ ACtv TabT Tryz.prog 26 [desR d, .int z, .rp y.cells] (.str s) := fun j hj => by
    obtain ⟨y, hy⟩ : ∃ y, v.items[j]? = some y := ⟨_, List.getElem?_eq_getElem hj⟩
    obtain ⟨s, hs⟩ : ∃ s, ss[j]? = some s := ⟨_, List.getElem?_eq_getElem (by omega)⟩
    obtain ⟨nm, hn⟩ : ∃ nm, x.names[j]? = some nm := ⟨_, List.getElem?_eq_getElem (by omega)⟩
    obtain ⟨z, hz, h1, h2, h3⟩ := hss j y s hy hs
    exact ⟨y, s, z, nm, hy, hs, hz, hn, hns nm (List.mem_of_getElem? hn), h1, h2, h3⟩
  refine ⟨linesT x ss, by omega, ?_, ?_⟩
  · refine ac_enter Tryz.func6 rfl _ Tryz.ntmps6 (by simp) fun C hn hm => ?_
    repeat' (first
 | refine op_build0 (tl hn rfl) ?_
 | refine RunsL.step tabOk hn rfl ?_
 | refine RunsL.nil ?_
 | refine Runs.toRegion 30 rfl ?_
 | ((first | refine RunsL.pe hn rfl rfl rfl ?_ | refine RunsD.pe rfl rfl ?_); first
 | refine ⟨_, pu_callR hS rfl, ?_⟩)
 | (refine Runs.ctls 30 rfl ?_; first | refine Runs.cond_f rfl ?_ | ((first | refine Runs.cond_yes rfl ?_ ?_ | refine Runs.cond_nno rfl ?_ ?_); · first | omega | rfl | assumption | (simp only [List.length_map]; omega)) | ((first | refine Runs.cond_no rfl ?_ ?_ | refine Runs.cond_nyes rfl ?_ ?_); · first | omega | rfl | assumption | (simp only [List.length_map]; omega)) | refine Runs.ret (ends_ro hm rfl rfl ?_) | exact Runs.ret (ends_cellR hm rfl rfl rfl (Nat.le_of_ble_eq_true rfl) rfl rfl))
 | refine op_box rfl (tl hn rfl) ?_
 | refine op_alloc (tl hn rfl) ?_
 | refine op_storeN rfl rfl rfl rfl (Nat.le_of_ble_eq_true rfl) ?_
 | ((first | refine RunsL.pe hn rfl rfl rfl ?_ | refine RunsD.pe rfl rfl ?_); first
 | refine ⟨_, pu_add rfl rfl (by omega), ?_⟩
 | refine ⟨_, pu_indexAddr_map rfl rfl (by omega) (by assumption), ?_⟩
 | refine ⟨_, pu_sub rfl rfl (by omega), ?_⟩
 | refine ⟨_, pu_pick_b rfl rfl rfl, ?_⟩
 | refine ⟨_, pu_mul rfl rfl (by omega), ?_⟩
 | refine ⟨_, pu_build rfl rfl rfl rfl rfl rfl, ?_⟩))
    refine Runs.loopN 30 rfl (fun j => [(3, .obj 0 0), (5, .obj 1 0), (7, .own 2), (8, .obj 3 0), (9, .int (j : Int))]) (fun j => [⟨35, 0, [.ro (rulsR d)]⟩, ⟨39, 0, [.int v.number, .ro (bytesR v.bytes), .ro (tresR v.items)]⟩, ⟨9, 1, (((linesT x ss).take j).map RV.str).map .ro⟩, ⟨54, 0, (rulR x).map .ro⟩]) (fun _ => True) v.items.length 0 (Nat.zero_le _) trivial ⟨rfl, rfl, rfl, rfl, rfl, trivial⟩ rfl fun j hj _ next => ?_
    by_cases hlt : j < v.items.length
    · obtain ⟨y, s, z, nm, hy, hs, hz, hn1, hn2, hsz, hc, _⟩ := item j hlt
      repeat' (first
 | refine Runs.toDrawT (id := 10) 30 [] [0, 1, 2, 3, 4, 5, 6, 7, 8, 9, 10, 11, 12, 13, 14, 15, 16, 17, 18, 19, 20] 21 [] mixed hn rfl (by kernel_rfl) rfl .nil (by decide) (by decide) (by decide) ?_
 | refine RunsT.nil ?_
 | refine RunsT.pur (fun _ => pu_len_seqN v.items.length rfl hlv) (by decide) rfl rfl ?_
 | refine RunsT.nil ?_
 | refine RunsT.step tabOk rfl rfl (fun _ => rfl) (by decide) ?_
 | refine RunsT.pur (fun _ => pu_callR hc rfl) (by decide) rfl rfl ?_
 | refine RunsT.pur (fun _ => pu_loadN_eq rfl (Tre.cells_eq _) rfl) (by decide) rfl rfl ?_
 | refine RunsT.pur (fun _ => pu_cat rfl rfl (by first | omega | (simp only [cat_size, c61]; omega))) (by decide) rfl rfl ?_
 | refine RunsT.pur (fun _ => pu_build rfl rfl rfl rfl rfl rfl) (by decide) rfl rfl ?_
 | refine RunsT.pur (fun _ => pu_add rfl rfl (by omega)) (by decide) rfl rfl ?_
 | refine RunsT.pur (fun _ => pu_indexAddr_map rfl rfl (by omega) (by assumption)) (by decide) rfl rfl ?_
 | ((first | refine RunsL.pe hn rfl rfl rfl ?_ | refine RunsD.pe rfl rfl ?_); first
 | refine ⟨_, pu_len_seqN v.items.length rfl hlv, ?_⟩)
 | refine RunsL.step tabOk hn rfl ?_
 | refine RunsL.nil ?_
 | refine Runs.toRegion 30 rfl ?_
 | refine op_append (t := 60) (i := 2) (n := j) (rs := ((linesT x ss).take j).map RV.str) (els := [[RV.str ((nm ++ sEq) ++ s)]]) rfl rfl rfl rfl rfl rfl (by rw [List.length_map, List.length_take]; omega) (FreeI.at_ (i := 2) (by repeat' (first | exact trivial | exact onlys_ro _ _ | refine ⟨?_, ?_⟩))) (by simp; omega) (by simp; omega) (tl hn rfl) ?_
 | ((first | refine RunsL.pe hn rfl rfl rfl ?_ | refine RunsD.pe rfl rfl ?_); first
 | refine ⟨_, pu_callR hc rfl, ?_⟩
 | refine ⟨_, pu_loadN_eq rfl (Tre.cells_eq _) rfl, ?_⟩
 | refine ⟨_, pu_cat rfl rfl (by first | omega | (simp only [cat_size, c61]; omega)), ?_⟩
 | refine ⟨_, pu_build rfl rfl rfl rfl rfl rfl, ?_⟩)
 | (refine Runs.ctls 30 rfl ?_; first | refine Runs.cond_f rfl ?_ | ((first | refine Runs.cond_yes rfl ?_ ?_ | refine Runs.cond_nno rfl ?_ ?_); · first | omega | rfl | assumption | (simp only [List.length_map]; omega)) | ((first | refine Runs.cond_no rfl ?_ ?_ | refine Runs.cond_nyes rfl ?_ ?_); · first | omega | rfl | assumption | (simp only [List.length_map]; omega)) | refine Runs.ret (ends_ro hm rfl rfl ?_) | exact Runs.ret (ends_cellR hm rfl rfl rfl (Nat.le_of_ble_eq_true rfl) rfl rfl))
 | refine op_box rfl (tl hn rfl) ?_
 | refine op_alloc (tl hn rfl) ?_
 | refine op_storeN rfl rfl rfl rfl (Nat.le_of_ble_eq_true rfl) ?_
 | ((first | refine RunsL.pe hn rfl rfl rfl ?_ | refine RunsD.pe rfl rfl ?_); first
 | refine ⟨_, pu_add rfl rfl (by omega), ?_⟩
 | refine ⟨_, pu_indexAddr_map rfl rfl (by omega) (by assumption), ?_⟩
 | refine ⟨_, pu_sub rfl rfl (by omega), ?_⟩
 | refine ⟨_, pu_pick_b rfl rfl rfl, ?_⟩
 | refine ⟨_, pu_mul rfl rfl (by omega), ?_⟩
 | refine ⟨_, pu_build rfl rfl rfl rfl rfl rfl, ?_⟩))
      refine next _ _ ⟨rfl, rfl, rfl, rfl, rfl, trivial⟩ hlt trivial ?_
      rw [linesT_next hs hn1]
      rfl
    · obtain rfl : j = v.items.length := by omega
      repeat' (first
 | ((first | refine RunsL.pe hn rfl rfl rfl ?_ | refine RunsD.pe rfl rfl ?_); first
 | refine ⟨_, pu_len_seqN v.items.length rfl hlv, ?_⟩)
 | refine RunsL.step tabOk hn rfl ?_
 | refine RunsL.nil ?_
 | refine Runs.toRegion 30 rfl ?_
 | (refine Runs.ctls 30 rfl ?_; first | refine Runs.cond_f rfl ?_ | ((first | refine Runs.cond_yes rfl ?_ ?_ | refine Runs.cond_nno rfl ?_ ?_); · first | omega | rfl | assumption | (simp only [List.length_map]; omega)) | ((first | refine Runs.cond_no rfl ?_ ?_ | refine Runs.cond_nyes rfl ?_ ?_); · first | omega | rfl | assumption | (simp only [List.length_map]; omega)) | refine Runs.ret (ends_ro hm rfl rfl ?_) | exact Runs.ret (ends_cellR hm rfl rfl rfl (Nat.le_of_ble_eq_true rfl) rfl rfl))
 | refine op_box rfl (tl hn rfl) ?_
 | refine op_alloc (tl hn rfl) ?_
 | refine op_storeN rfl rfl rfl rfl (Nat.le_of_ble_eq_true rfl) ?_
 | ((first | refine RunsL.pe hn rfl rfl rfl ?_ | refine RunsD.pe rfl rfl ?_); first
 | refine ⟨_, pu_add rfl rfl (by omega), ?_⟩
 | refine ⟨_, pu_indexAddr_map rfl rfl (by omega) (by assumption), ?_⟩
 | refine ⟨_, pu_sub rfl rfl (by omega), ?_⟩
 | refine ⟨_, pu_pick_b rfl rfl rfl, ?_⟩
 | refine ⟨_, pu_mul rfl rfl (by omega), ?_⟩
 | refine ⟨_, pu_build rfl rfl rfl rfl rfl rfl, ?_⟩))
      exact Runs.ctls 30 rfl (Runs.ret (ends_own (rs := (linesT x ss).map RV.str) hm rfl rfl rfl (by rw [List.take_of_length_le (by omega)]) rfl))
  · refine act_enter tabT_lasts Tryz.func9 rfl _ Tryz.ntmps9 (by simp) fun C hn hm hb => ?_
    repeat' (first
 | refine op_build0 (tl hn rfl) ?_
 | ((first | refine RunsL.pe hn rfl rfl rfl ?_ | refine RunsD.pe rfl rfl ?_); first
 | refine ⟨_, pu_len_seqN x.names.length rfl hln, ?_⟩)
 | refine RunsL.step tabOk hn rfl ?_
 | refine RunsL.nil ?_
 | refine Runs.toRegion 30 rfl ?_
 | ((first | refine RunsL.pe hn rfl rfl rfl ?_ | refine RunsD.pe rfl rfl ?_); first
 | refine ⟨_, pu_callR hI rfl, ?_⟩)
 | (refine Runs.ctls 30 rfl ?_; first | refine Runs.cond_f rfl ?_ | ((first | refine Runs.cond_yes rfl ?_ ?_ | refine Runs.cond_nno rfl ?_ ?_); · first | omega | rfl | assumption | (simp only [List.length_map]; omega)) | ((first | refine Runs.cond_no rfl ?_ ?_ | refine Runs.cond_nyes rfl ?_ ?_); · first | omega | rfl | assumption | (simp only [List.length_map]; omega)) | refine Runs.ret (ends_ro hm rfl rfl ?_) | exact Runs.ret (ends_cellR hm rfl rfl rfl (Nat.le_of_ble_eq_true rfl) rfl rfl))
 | refine op_box rfl (tl hn rfl) ?_
 | refine op_alloc (tl hn rfl) ?_
 | refine op_storeN rfl rfl rfl rfl (Nat.le_of_ble_eq_true rfl) ?_
 | ((first | refine RunsL.pe hn rfl rfl rfl ?_ | refine RunsD.pe rfl rfl ?_); first
 | refine ⟨_, pu_add rfl rfl (by omega), ?_⟩
 | refine ⟨_, pu_indexAddr_map rfl rfl (by omega) (by assumption), ?_⟩
 | refine ⟨_, pu_sub rfl rfl (by omega), ?_⟩
 | refine ⟨_, pu_pick_b rfl rfl rfl, ?_⟩
 | refine ⟨_, pu_mul rfl rfl (by omega), ?_⟩
 | refine ⟨_, pu_build rfl rfl rfl rfl rfl rfl, ?_⟩))
    refine Runs.loopN 30 rfl (fun j => [(3, .obj 0 0), (5, .obj 1 0), (7, .own 2), (8, .obj 3 0), (33, .ro (strsR x.names)), (34, .int (x.names.length : Int)), (35, .int (j : Int))]) (fun j => [⟨35, 0, [.ro (rulsR d)]⟩, ⟨39, 0, [.int v.number, .ro (bytesR v.bytes), .ro (tresR v.items)]⟩, ⟨9, 1, (((linesT x ss).take j).map RV.str).map .ro⟩, ⟨54, 0, (rulR x).map .ro⟩]) (fun _ => True) v.items.length 0 (Nat.zero_le _) trivial ⟨rfl, rfl, rfl, rfl, rfl, rfl, rfl, trivial⟩ rfl fun j hj _ next => ?_
    by_cases hlt : j < v.items.length
    · obtain ⟨y, s, z, nm, hy, hs, hz, hn1, hn2, hsz, _, hc⟩ := item j hlt
      repeat' (first
 | refine Runs.toDrawT (id := 10) 30 [] [0, 1, 2, 3, 4, 5, 6, 7, 8, 9, 10, 11, 12, 13, 14, 15] 16 [] mixed hn rfl (by kernel_rfl) rfl .nil (by decide) (by decide) (by decide) ?_
 | refine RunsT.nil ?_
 | refine RunsT.nil ?_
 | refine RunsT.step tabOk rfl rfl (fun _ => rfl) (by decide) ?_
 | refine RunsT.pur (fun _ => pu_callW hb hc rfl) (by decide) rfl rfl ?_
 | refine RunsT.pur (fun _ => pu_cat rfl rfl (by first | omega | (simp only [cat_size, c61]; omega))) (by decide) rfl rfl ?_
 | refine RunsT.pur (fun _ => pu_build rfl rfl rfl rfl rfl rfl) (by decide) rfl rfl ?_
 | refine RunsT.pur (fun _ => pu_add rfl rfl (by omega)) (by decide) rfl rfl ?_
 | refine RunsT.pur (fun _ => pu_indexAddr_map rfl rfl (by omega) (by assumption)) (by decide) rfl rfl ?_
 | refine RunsL.step tabOk hn rfl ?_
 | refine RunsL.nil ?_
 | refine Runs.toRegion 30 rfl ?_
 | refine op_append (t := 56) (i := 2) (n := j) (rs := ((linesT x ss).take j).map RV.str) (els := [[RV.str ((nm ++ sEq) ++ s)]]) rfl rfl rfl rfl rfl rfl (by rw [List.length_map, List.length_take]; omega) (FreeI.at_ (i := 2) (by repeat' (first | exact trivial | exact onlys_ro _ _ | refine ⟨?_, ?_⟩))) (by simp; omega) (by simp; omega) (tl hn rfl) ?_
 | ((first | refine RunsL.pe hn rfl rfl rfl ?_ | refine RunsD.pe rfl rfl ?_); first
 | refine ⟨_, pu_callW hb hc rfl, ?_⟩
 | refine ⟨_, pu_cat rfl rfl (by first | omega | (simp only [cat_size, c61]; omega)), ?_⟩
 | refine ⟨_, pu_build rfl rfl rfl rfl rfl rfl, ?_⟩)
 | (refine Runs.ctls 30 rfl ?_; first | refine Runs.cond_f rfl ?_ | ((first | refine Runs.cond_yes rfl ?_ ?_ | refine Runs.cond_nno rfl ?_ ?_); · first | omega | rfl | assumption | (simp only [List.length_map]; omega)) | ((first | refine Runs.cond_no rfl ?_ ?_ | refine Runs.cond_nyes rfl ?_ ?_); · first | omega | rfl | assumption | (simp only [List.length_map]; omega)) | refine Runs.ret (ends_ro hm rfl rfl ?_) | exact Runs.ret (ends_cellR hm rfl rfl rfl (Nat.le_of_ble_eq_true rfl) rfl rfl))
 | refine op_box rfl (tl hn rfl) ?_
 | refine op_alloc (tl hn rfl) ?_
 | refine op_storeN rfl rfl rfl rfl (Nat.le_of_ble_eq_true rfl) ?_
 | ((first | refine RunsL.pe hn rfl rfl rfl ?_ | refine RunsD.pe rfl rfl ?_); first
 | refine ⟨_, pu_add rfl rfl (by omega), ?_⟩
 | refine ⟨_, pu_indexAddr_map rfl rfl (by omega) (by assumption), ?_⟩
 | refine ⟨_, pu_sub rfl rfl (by omega), ?_⟩
 | refine ⟨_, pu_pick_b rfl rfl rfl, ?_⟩
 | refine ⟨_, pu_mul rfl rfl (by omega), ?_⟩
 | refine ⟨_, pu_build rfl rfl rfl rfl rfl rfl, ?_⟩))
      refine next _ _ ⟨rfl, rfl, rfl, rfl, rfl, rfl, rfl, trivial⟩ hlt trivial ?_
      rw [linesT_next hs hn1]
      rfl
    · obtain rfl : j = v.items.length := by omega
      repeat' (first
 | refine RunsL.step tabOk hn rfl ?_
 | refine RunsL.nil ?_
 | refine Runs.toRegion 30 rfl ?_
 | (refine Runs.ctls 30 rfl ?_; first | refine Runs.cond_f rfl ?_ | ((first | refine Runs.cond_yes rfl ?_ ?_ | refine Runs.cond_nno rfl ?_ ?_); · first | omega | rfl | assumption | (simp only [List.length_map]; omega)) | ((first | refine Runs.cond_no rfl ?_ ?_ | refine Runs.cond_nyes rfl ?_ ?_); · first | omega | rfl | assumption | (simp only [List.length_map]; omega)) | refine Runs.ret (ends_ro hm rfl rfl ?_) | exact Runs.ret (ends_cellR hm rfl rfl rfl (Nat.le_of_ble_eq_true rfl) rfl rfl))
 | refine op_box rfl (tl hn rfl) ?_
 | refine op_alloc (tl hn rfl) ?_
 | refine op_storeN rfl rfl rfl rfl (Nat.le_of_ble_eq_true rfl) ?_
 | ((first | refine RunsL.pe hn rfl rfl rfl ?_ | refine RunsD.pe rfl rfl ?_); first
 | refine ⟨_, pu_add rfl rfl (by omega), ?_⟩
 | refine ⟨_, pu_indexAddr_map rfl rfl (by omega) (by assumption), ?_⟩
 | refine ⟨_, pu_sub rfl rfl (by omega), ?_⟩
 | refine ⟨_, pu_pick_b rfl rfl rfl, ?_⟩
 | refine ⟨_, pu_mul rfl rfl (by omega), ?_⟩
 | refine ⟨_, pu_build rfl rfl rfl rfl rfl rfl, ?_⟩))
      exact Runs.ctls 30 rfl (Runs.ret (ends_own (rs := (linesT x ss).map RV.str) hm rfl rfl rfl (by rw [List.take_of_length_le (by omega)]) rfl))
theorem both_ValueLines : ∃ ls : List ByteArray, ls.length ≤ 1048576 ∧ AC Tryz.prog 6 [desR d, .int r, treR v] (fun rr => rr = rowT ls) ∧ ACt TabT Tryz.prog 9 [desR d, .int r, treR v] (fun rr => rr = rowT ls) := by
  by_cases h : VldI d r v
  · obtain ⟨n, x, hr, _, hx⟩ := kn_nat h.1
    by_cases k6 : x.kind = 6
    · exact lines_seq ho hd hv ht h hr hx k6
    · obtain ⟨s, h1, h2⟩ := lines_one ho hd hv ht h hr hx k6
      exact ⟨[s], by simp, h1, h2⟩
  · obtain ⟨h1, h2⟩ := lines_bad ho hd hv ht h
    exact ⟨[], by simp, h1, h2⟩
end
end Go.Proofs.YtkmoffefhlmgeaaGreatDoor
/- Values with memory of their own, however deep: what a call makes, kept as plain values of a frame. Over any program. -/
namespace Go.Proofs.YtkmoffefhlmgeaaGreatDoor
set_option linter.unusedSimpArgs false
set_option linter.unusedVariables false
set_option linter.unusedSectionVars false
set_option maxRecDepth 100000
open Go.RowKit
open AV (Mem Keeps)
inductive OV where
  | c (v : Value)
  | row (e : TypeId) (sz : Nat) (cs : List OV)
  | agg (cs : List OV)
  | tup (vs : List OV)
namespace OV
mutual
def rel (w : World) : OV → Value → List Nat → Prop
  | .c v, u, bs => u = v ∧ bs = []
  | .row e sz cs, u, bs => ∃ n xs bs', cs.length = n * sz ∧ 0 < sz ∧ rels w cs xs bs' ∧ (∀ x ∈ xs, x.oneCell' = true) ∧ w.ownsRow 0 e sz u n xs ∧ bs = u.ownBlock.toList ++ bs'
  | .agg cs, u, bs => ∃ us : Array Value, u = .agg us ∧ rels w cs us.toList bs
  | .tup cs, u, bs => ∃ us : Array Value, u = .tuple us ∧ rels w cs us.toList bs
def rels (w : World) : List OV → List Value → List Nat → Prop
  | [], us, bs => us = [] ∧ bs = []
  | x :: xs, us, bs => ∃ u us' b bs', us = u :: us' ∧ bs = b ++ bs' ∧ rel w x u b ∧ rels w xs us' bs'
end
theorem ownsRow_keep {w w' : World} {e : TypeId} {sz n : Nat} {u : Value} {xs : List Value} (h : w.ownsRow 0 e sz u n xs) (hb : ∀ b ∈ u.ownBlock.toList, w'.heap[b]? = w.heap[b]?) : w'.ownsRow 0 e sz u n xs := by
  obtain ⟨h1, h2⟩ := h
  refine ⟨h1, ?_⟩
  rcases h2 with h2 | ⟨g, cap, cur, rfl, h3, h4, h5⟩
  · exact .inl h2
  · exact .inr ⟨g, cap, cur, rfl, h3, (hb g (by simp [Value.ownBlock])).trans h4, h5⟩
mutual
theorem rel_keep {w w' : World} : ∀ (o : OV) (u : Value) (bs : List Nat), rel w o u bs → (∀ b ∈ bs, w'.heap[b]? = w.heap[b]?) → rel w' o u bs
  | .c v, u, bs, h, _ => by simpa [rel] using h
  | .row e sz cs, u, bs, h, hb => by
    simp only [rel] at h ⊢
    obtain ⟨n, xs, bs', h1, h2, h3, h4, h5, rfl⟩ := h
    exact ⟨n, xs, bs', h1, h2, rels_keep cs xs bs' h3 fun b hm => hb b (List.mem_append.2 (.inr hm)), h4, ownsRow_keep h5 fun b hm => hb b (List.mem_append.2 (.inl hm)), rfl⟩
  | .agg cs, u, bs, h, hb => by
    simp only [rel] at h ⊢
    obtain ⟨us, e, h1⟩ := h
    exact ⟨us, e, rels_keep cs _ bs h1 hb⟩
  | .tup cs, u, bs, h, hb => by
    simp only [rel] at h ⊢
    obtain ⟨us, e, h1⟩ := h
    exact ⟨us, e, rels_keep cs _ bs h1 hb⟩
theorem rels_keep {w w' : World} : ∀ (os : List OV) (us : List Value) (bs : List Nat), rels w os us bs → (∀ b ∈ bs, w'.heap[b]? = w.heap[b]?) → rels w' os us bs
  | [], us, bs, h, _ => by simpa [rels] using h
  | x :: xs, us, bs, h, hb => by
    simp only [rels] at h ⊢
    obtain ⟨u, us', b, bs', e1, rfl, h1, h2⟩ := h
    exact ⟨u, us', b, bs', e1, rfl, rel_keep x u b h1 fun c hm => hb c (List.mem_append.2 (.inl hm)), rels_keep xs us' bs' h2 fun c hm => hb c (List.mem_append.2 (.inr hm))⟩
end
theorem rels_len {w : World} : ∀ (os : List OV) (us : List Value) (bs : List Nat), rels w os us bs → us.length = os.length
  | [], us, bs, h => by simp only [rels] at h; simp [h.1]
  | x :: xs, us, bs, h => by
    simp only [rels] at h
    obtain ⟨u, us', b, bs', rfl, _, _, h2⟩ := h
    simp [rels_len xs us' bs' h2]
theorem rels_c {w : World} : ∀ (vs : List Value), rels w (vs.map .c) vs []
  | [] => by simp [rels]
  | v :: vs => by simp only [List.map_cons, rels]; exact ⟨v, vs, [], [], rfl, rfl, by simp [rel], rels_c vs⟩
theorem rels_append {w : World} : ∀ (os os' : List OV) (us us' : List Value) (bs bs' : List Nat), rels w os us bs → rels w os' us' bs' → rels w (os ++ os') (us ++ us') (bs ++ bs')
  | [], os', us, us', bs, bs', h, h' => by simp only [rels] at h; obtain ⟨rfl, rfl⟩ := h; simpa using h'
  | x :: xs, os', us, us', bs, bs', h, h' => by
    simp only [rels] at h
    obtain ⟨u, ut, b, bt, rfl, rfl, h1, h2⟩ := h
    simp only [List.cons_append, rels]
    exact ⟨u, ut ++ us', b, bt ++ bs', rfl, by rw [List.append_assoc], h1, rels_append xs os' ut us' bt bs' h2 h'⟩
mutual
def Seal : OV → RV → Prop
  | .c v, r => r = .c v
  | .row _ sz cs, r => ∃ els, r = .seq sz els ∧ (∀ x ∈ els, x.length = sz) ∧ Seals cs els.flatten
  | .agg cs, r => ∃ rs, r = .agg rs ∧ Seals cs rs
  | .tup cs, r => ∃ rs, r = .tup rs ∧ Seals cs rs
def Seals : List OV → List RV → Prop
  | [], rs => rs = []
  | x :: xs, rs => ∃ r rs', rs = r :: rs' ∧ Seal x r ∧ Seals xs rs'
end
theorem seals_len : ∀ (os : List OV) (rs : List RV), Seals os rs → rs.length = os.length
  | [], rs, h => by simp only [Seals] at h; simp [h]
  | x :: xs, rs, h => by
    simp only [Seals] at h
    obtain ⟨r, rs', rfl, _, h2⟩ := h
    simp [seals_len xs rs' h2]
mutual
theorem seal_rel {w : World} {ok : Nat → Prop} : ∀ (o : OV) (r : RV) (u : Value) (bs : List Nat), Seal o r → rel w o u bs → (∀ b ∈ bs, ok b) → RV.rel w ok r u
  | .c v, r, u, bs, hs, h, _ => by
    simp only [Seal] at hs; subst hs
    simp only [rel] at h
    simpa only [RV.rel] using h.1
  | .row e sz cs, r, u, bs, hs, h, hb => by
    simp only [Seal] at hs
    obtain ⟨els, rfl, hl, hf⟩ := hs
    simp only [rel] at h
    obtain ⟨n, xs, bs', k1, k2, k3, k4, k5, rfl⟩ := h
    have hrs : RV.rels w ok els.flatten xs := seals_rel cs els.flatten xs bs' hf k3 fun b hm => hb b (List.mem_append.2 (.inr hm))
    have hn : n = els.length := by
      have h1 := flatten_len hl
      rw [seals_len cs _ hf, k1] at h1
      exact Nat.eq_of_mul_eq_mul_right k2 h1
    simp only [RV.rel]
    rcases k5.2 with ⟨rfl, h0⟩ | ⟨g, cap, cur, rfl, _, hh, c1, c2, c3, ht⟩
    · exact ⟨none, 0, 0, rfl, by omega, Nat.le_refl _, Nat.zero_le _, fun h => absurd h (by omega)⟩
    · refine ⟨some ⟨g, 0, none⟩, n, cap, rfl, hn, c1, c2, fun hn0 => ⟨g, 0, rfl, (Array.getElem?_eq_some_iff.1 hh).1, hb g (by simp [Value.ownBlock]), ?_⟩⟩
      refine RV.relE_of _ _ _ fun k el hk => ⟨hl el (List.mem_of_getElem? hk), RV.relAt_of _ _ fun j r hj => ?_⟩
      have hjl : j < sz := by have := (List.getElem?_eq_some_iff.1 hj).1; rwa [hl el (List.mem_of_getElem? hk)] at this
      have hfl := flatten_at hl k j el hk hjl
      rw [hj] at hfl
      obtain ⟨x, e1, e2⟩ := RV.rels_at _ xs hrs _ r hfl
      refine ⟨x, ?_, k4 x (List.mem_of_getElem? e1), e2⟩
      rw [cell_of_row w g _ cur _ _ hh, Nat.zero_add]
      rw [← ht, List.getElem?_take] at e1
      split at e1
      · simpa using e1
      · cases e1
  | .agg cs, r, u, bs, hs, h, hb => by
    simp only [Seal] at hs
    obtain ⟨rs, rfl, hf⟩ := hs
    simp only [rel] at h
    obtain ⟨us, rfl, h1⟩ := h
    simp only [RV.rel]
    exact ⟨us, rfl, seals_rel cs rs _ bs hf h1 hb⟩
  | .tup cs, r, u, bs, hs, h, hb => by
    simp only [Seal] at hs
    obtain ⟨rs, rfl, hf⟩ := hs
    simp only [rel] at h
    obtain ⟨us, rfl, h1⟩ := h
    simp only [RV.rel]
    exact ⟨us, rfl, seals_rel cs rs _ bs hf h1 hb⟩
theorem seals_rel {w : World} {ok : Nat → Prop} : ∀ (os : List OV) (rs : List RV) (us : List Value) (bs : List Nat), Seals os rs → rels w os us bs → (∀ b ∈ bs, ok b) → RV.rels w ok rs us
  | [], rs, us, bs, hs, h, _ => by
    simp only [Seals] at hs; subst hs
    simp only [rels] at h
    simp [RV.rels, h.1]
  | x :: xs, rs, us, bs, hs, h, hb => by
    simp only [Seals] at hs
    obtain ⟨r, rs', rfl, hs1, hs2⟩ := hs
    simp only [rels] at h
    obtain ⟨u, us', b, bs', rfl, rfl, h1, h2⟩ := h
    simp only [RV.rels]
    exact ⟨u, us', rfl, seal_rel x r u b hs1 h1 fun c hm => hb c (List.mem_append.2 (.inl hm)), seals_rel xs rs' us' bs' hs2 h2 fun c hm => hb c (List.mem_append.2 (.inr hm))⟩
end
end OV
def ACo (P : Program) (f : FuncId) (args : List RV) (ov : OV) : Prop :=
  ∀ (w : World) (us : Array Value), RV.rels w (fun _ => True) args us.toList →
    Calls P f us w fun e w' => ∃ u bs, e = .returned u ∧ OV.rel w' ov u bs ∧ bs.Nodup ∧ (∀ b ∈ bs, w.heap.size ≤ b ∧ b < w'.heap.size) ∧ Below w.heap.size w w'
theorem aco_row {P : Program} {f : FuncId} {args : List RV} {e : TypeId} {sz : Nat} {vs : List Value} (h : AC P f args fun rr => rr = .row e sz (vs.map .c)) : ACo P f args (.row e sz (vs.map .c)) := by
  intro w us hu
  refine (h w (fun _ => True) us (fun _ _ => trivial) hu).mono ?_
  rintro ee w' ⟨u, rr, bs, rfl, rfl, h1, h2, h3, h4⟩
  simp only [RR.rel] at h1
  obtain ⟨n, xs, k1, k2, k3, k4, k5, rfl⟩ := h1
  have e2 := agg_flat (m := ⟨w', fun _ => none, [], fun b => True ∧ b ∉ u.ownBlock.toList⟩) vs xs (RV.rels_mono ⟨Nat.le_refl _, fun b _ hb => ⟨⟨hb, fun i hi => by simp at hi⟩, rfl⟩⟩ _ _ k3)
  subst e2
  refine ⟨u, _, rfl, ?_, h2, h3, h4⟩
  simp only [OV.rel]
  exact ⟨n, xs, [], by simpa using k1, k2, OV.rels_c xs, k4, k5, by simp⟩
structure Gh (C : Ctx) (ov : OV) (u : Value) (bs : List Nat) : Prop where
  rel : OV.rel C.w0 ov u bs
  fix : ∀ b ∈ bs, b < C.w0.heap.size ∧ ¬ C.mu b ∧ ¬ C.ok b
structure Nx (C C' : Ctx) (bs : List Nat) : Prop where
  n : C'.n = C.n
  os : C'.w0.os = C.w0.os
  tape : C'.w0.tape = C.w0.tape
  output : C'.w0.output = C.w0.output
  size : C.w0.heap.size ≤ C'.w0.heap.size
  block : ∀ b, b < C.w0.heap.size → ¬ C.mu b → b ∉ bs → C'.w0.heap[b]? = C.w0.heap[b]?
  mu : ∀ b, C'.mu b → C.mu b ∨ C.w0.heap.size ≤ b
  ok : ∀ b, C'.ok b → C.ok b
theorem Gh.next {C C' : Ctx} {ov : OV} {u : Value} {bs ds : List Nat} (h : Gh C ov u bs) (k : Nx C C' ds) (hd : ∀ b ∈ bs, b ∉ ds) : Gh C' ov u bs := by
  refine ⟨OV.rel_keep ov u bs h.rel fun b hb => k.block b (h.fix b hb).1 (h.fix b hb).2.1 (hd b hb), fun b hb => ⟨Nat.lt_of_lt_of_le (h.fix b hb).1 k.size, fun hm => ?_, fun ho => (h.fix b hb).2.2 (k.ok b ho)⟩⟩
  rcases k.mu b hm with h1 | h1
  · exact (h.fix b hb).2.1 h1
  · have := (h.fix b hb).1; omega
theorem Nx.trans {C C' C'' : Ctx} {bs ds : List Nat} (h : Nx C C' bs) (k : Nx C' C'' ds) : Nx C C'' (bs ++ ds) :=
  ⟨k.n.trans h.n, k.os.trans h.os, k.tape.trans h.tape, k.output.trans h.output, Nat.le_trans h.size k.size, fun b h1 h2 h3 => by
    rw [List.mem_append, not_or] at h3
    refine (k.block b (Nat.lt_of_lt_of_le h1 h.size) (fun hm => ?_) h3.2).trans (h.block b h1 h2 h3.1)
    rcases h.mu b hm with h4 | h4
    · exact h2 h4
    · omega, fun b hm => by
    rcases k.mu b hm with h4 | h4
    · exact h.mu b h4
    · exact .inr (Nat.le_trans h.size h4), fun b ho => h.ok b (k.ok b ho)⟩
theorem rel_constRV {w : World} {ok : Nat → Prop} (u : Value) : RV.rel w ok (constRV u) u := const_rel u
section
variable {P : Program} {C : Ctx} {ops : Array Oper} {rest : List Oper} {k : List Item} {R : Act → World → Prop} {env : Env} {σ : List Ob} {t : Nat} {ty : TypeId} {pos : String} {after : Array Edge} {gd : Option (Nat × Bool)}
def LendsT (C : Ctx) (σ : List Ob) (v : AV) (r : RV) : Prop := ∀ (m : Mem) (u : Value), Good C m → m.σ = σ → AV.rel m v u → RV.rel m.w (fun _ => True) r u
inductive LendsTL (C : Ctx) (σ : List Ob) : List AV → List RV → Prop
  | nil : LendsTL C σ [] []
  | cons {v : AV} {r : RV} {vs : List AV} {rs : List RV} : LendsT C σ v r → LendsTL C σ vs rs → LendsTL C σ (v :: vs) (r :: rs)
theorem LendsT.of {v : AV} {r : RV} (h : Lends C σ v r) : LendsT C σ v r := fun m u hG hσ hu => h m u (fun _ => True) hG hσ (fun _ _ => trivial) (fun _ _ _ _ => trivial) hu
theorem LendsT.ro {r : RV} : LendsT C σ (.ro r) r := LendsT.of Lends.ro
theorem LendsT.gh {ov : OV} {u : Value} {bs : List Nat} {r r' : RV} (h : Gh C ov u bs) (hs : OV.Seal ov r) (hr : r' = constRV u) : LendsT C σ (.ro r') r := fun m x hG hσ hx => by
  subst hr
  simp only [AV.rel] at hx
  have hxu : x = u := by
    cases u <;> simp only [constRV, RV.rel] at hx <;> try exact hx
    obtain ⟨us, rfl, hr⟩ := hx
    have := agg_flat (m := m) _ _ hr
    rw [← Array.toArray_toList (xs := us), this]
  subst hxu
  refine OV.seal_rel ov r x bs hs (OV.rel_keep ov x bs h.rel fun b hb => hG.frm.block b (h.fix b hb).1 (h.fix b hb).2.1) fun _ _ => trivial
theorem LendsTL.rels {m : Mem} (hG : Good C m) (hσ : m.σ = σ) {vs : List AV} {rs : List RV} (h : LendsTL C σ vs rs) : ∀ us, AV.rels m vs us → RV.rels m.w (fun _ => True) rs us := by
  induction h with
  | nil => intro us hu; simpa [AV.rels, RV.rels] using hu
  | cons h1 _ ih =>
    intro us hu
    simp only [AV.rels] at hu
    obtain ⟨u, us', rfl, k3, k4⟩ := hu
    simp only [RV.rels]
    exact ⟨u, us', rfl, h1 m u hG hσ k3, ih us' k4⟩
theorem pu_callT {f : FuncId} {fn : Func} {xs : Array Operand} {ats : Array TypeId} {args : List RV} {v : Value} [hfn : FN P f fn] (hf : ACv P f args (.c v)) (ha : LendsTL C σ (xs.toList.map (ev env)) args) :
    Pur P C ⟨some t, .call { callee := .value (.func f), args := xs, argTypes := ats }, ty, pos, after, gd⟩ env σ (.ro (.c v)) := by
  refine ⟨fun a m hG hσ hH K Q hK => ?_⟩
  have hr := LendsTL.rels hG hσ ha _ (rels_eval (a := a) (m := m) xs.toList fun x hx => hH x (by simp [Op.operands, Call.operands]; exact .inr (by simpa using hx)))
  unfold Oper.wp
  rw [execOp_call_go, run_call hfn]
  simp only [Oper.upon]
  refine (hf m.w (fun _ => True) _ (fun _ _ => trivial) (by simpa using hr)).mono ?_
  rintro e w' ⟨u, rr, bs, rfl, rfl, h1, _, _, h4⟩
  simp only [RR.rel, RV.rel] at h1
  refine hK u w' h4 ?_
  simp only [AV.rel, RV.rel]
  exact h1.1
theorem op_callN {f : FuncId} {fn : Func} {xs : Array Operand} {ats : Array TypeId} {args : List RV} {ov : OV} [hfn : FN P f fn] (hf : ACo P f args ov) (ha : LendsTL C σ (xs.toList.map (ev env)) args) (ht : t < C.n)
    (hk : ∀ (C' : Ctx) (u : Value) (bs : List Nat), Nx C C' [] → Gh C' ov u bs → bs.Nodup → (∀ b ∈ bs, C.w0.heap.size ≤ b) → RunsL P C' ops rest k R ⟨(t, .ro (constRV u)) :: env, σ⟩) :
    RunsL P C ops (⟨some t, .call { callee := .value (.func f), args := xs, argTypes := ats }, ty, pos, after, none⟩ :: rest) k R ⟨env, σ⟩ := by
  refine ⟨fun a w ⟨s1, s2, φ, hG, hH⟩ => ?_⟩
  refine wpList_plain rfl fun K hK' => ?_
  have hr := LendsTL.rels hG rfl ha _ (rels_eval (a := a) (m := ⟨w, φ, σ, C.ok⟩) xs.toList fun x hx => ev_rel hH x)
  unfold Oper.wp
  rw [execOp_call_go, run_call hfn]
  simp only [Oper.upon]
  refine (hf w _ (by simpa using hr)).mono ?_
  rintro e w' ⟨u, bs, rfl, h1, h2, h3, h4⟩
  let C' : Ctx := ⟨w', fun b => C.ok b ∧ b ∉ bs, mine φ σ.length, C.n⟩
  have hmine : ∀ b, C'.mu b → C.mu b ∨ C.w0.heap.size ≤ b := fun b ⟨i, hi, hb⟩ => hG.mine i b hi hb
  have hNx : Nx C C' [] := ⟨rfl, h4.os.trans hG.frm.os, h4.tape.trans hG.frm.tape, h4.output.trans hG.frm.output, Nat.le_trans hG.frm.size h4.size, fun b hb hm _ => (h4.block b (Nat.lt_of_lt_of_le hb hG.frm.size)).trans (hG.frm.block b hb hm), hmine, fun b hb => hb.1⟩
  have hlt : ∀ (i g : Nat), i < σ.length → φ i = some g → g < w.heap.size := fun i g hi hg => hG.lt hi hg
  have hGh : Gh C' ov u bs := ⟨h1, fun b hb => ⟨(h3 b hb).2, fun ⟨i, hi, hg⟩ => by have := hlt i b hi hg; have := (h3 b hb).1; omega, fun ho => ho.2 hb⟩⟩
  -- what the frame holds is read as before
  have hK : Keeps (fun _ => True) ⟨w, φ, σ, C.ok⟩ ⟨w', φ, σ, C'.ok⟩ := by
    refine ⟨⟨h4.size, fun b hb ho => ⟨⟨⟨ho.1, fun hm => by have := (h3 b hm).1; simp only at hb; omega⟩, ho.2⟩, h4.block b hb⟩⟩, fun i _ hi => ⟨hi, rfl⟩, fun i ob _ hi => ⟨ob.cs, hi, rfl⟩, fun i g us t _ hi hg hh => ⟨us, (h4.block g (Array.getElem?_eq_some_iff.1 hh).1).trans hh, rfl⟩⟩
  have hG' : Good C' ⟨w', φ, σ, C'.ok⟩ := by
    refine ⟨rfl, hG.inj, fun i o hi => (hG.ob i o hi).keeps hK fun g hg => h4.block g (hlt i g (List.getElem?_eq_some_iff.1 hi).1 hg), fun i g hi hg => .inl ⟨i, hi, hg⟩, ⟨rfl, rfl, rfl, Nat.le_refl _, fun _ _ _ => rfl, fun b hb => ⟨hG.frm.new b (Nat.le_trans hG.frm.size (Nat.le_trans h4.size hb)), fun hm => by have := (h3 b hm).2; have hb' : w'.heap.size ≤ b := hb; omega⟩⟩⟩
  refine hK' _ _ ((hk C' u bs hNx hGh h2 fun b hb => Nat.le_trans hG.frm.size (h3 b hb).1).run _ _ ⟨s1, by simp [Act.put, s2]; rfl, φ, hG', (hH.keeps hK).put (by rw [s2]; exact ht) ?_⟩)
  simp only [AV.rel]
  exact rel_constRV u
end
end Go.Proofs.YtkmoffefhlmgeaaGreatDoor
/- Values with memory of their own: how a function that makes one is entered and left; plain values behind a row; steps on memory that is known by its block. Over any program. -/
namespace Go.Proofs.YtkmoffefhlmgeaaGreatDoor
set_option linter.unusedSimpArgs false
set_option linter.unusedVariables false
set_option linter.unusedSectionVars false
set_option maxRecDepth 100000
open Go.RowKit
open AV (Mem Keeps)
structure Sc (C0 C : Ctx) : Prop where
  below : Below C0.w0.heap.size C0.w0 C.w0
  mu : ∀ b, C.mu b → C0.w0.heap.size ≤ b
theorem Sc.start {C : Ctx} (hm : ∀ b, ¬ C.mu b) : Sc C C := ⟨Below.refl _ _, fun b h => absurd h (hm b)⟩
theorem Sc.next {C0 C C' : Ctx} {bs : List Nat} (h : Sc C0 C) (k : Nx C C' bs) (hb : ∀ b ∈ bs, C0.w0.heap.size ≤ b) : Sc C0 C' := by
  refine ⟨⟨k.os.trans h.below.os, k.tape.trans h.below.tape, k.output.trans h.below.output, Nat.le_trans h.below.size k.size, fun b hlt => ?_⟩, fun b hm => ?_⟩
  · refine (k.block b (Nat.lt_of_lt_of_le hlt h.below.size) (fun hm => ?_) fun hm => ?_).trans (h.below.block b hlt)
    · have := h.mu b hm; omega
    · have := hb b hm; omega
  · rcases k.mu b hm with h1 | h1
    · exact h.mu b h1
    · exact Nat.le_trans h.below.size h1
theorem Sc.end_ {C0 C : Ctx} {m : Mem} (h : Sc C0 C) (hG : Good C m) : Below C0.w0.heap.size C0.w0 m.w :=
  ⟨hG.frm.os.trans h.below.os, hG.frm.tape.trans h.below.tape, hG.frm.output.trans h.below.output, Nat.le_trans h.below.size hG.frm.size, fun b hlt => (hG.frm.block b (Nat.lt_of_lt_of_le hlt h.below.size) (fun hm => by have := h.mu b hm; omega)).trans (h.below.block b hlt)⟩
def EndsO (P : Program) (C0 : Ctx) (fn : Func) (ov : OV) (a : Act) (w : World) : Prop :=
  a.defers = [] ∧ ∃ v, (results fn a.tmps).run P w = .ok v w ∧ ∃ bs, OV.rel w ov v bs ∧ bs.Nodup ∧ (∀ b ∈ bs, C0.w0.heap.size ≤ b ∧ b < w.heap.size) ∧ Below C0.w0.heap.size C0.w0 w
theorem aco_enter {P : Program} {f : FuncId} {fn : Func} {c : Code} {args : List RV} {ov : OV} (hf : P.funcs[f]? = some fn) (hb : fn.body = some c) (n : Nat) (hn : fn.ntmps = n) (hl : args.length ≤ n)
    (h : ∀ C : Ctx, C.n = n → (∀ b, ¬ C.mu b) → Runs P C [.code c] (EndsO P C fn ov) ⟨startEnv 0 args, []⟩) : ACo P f args ov := by
  intro w us hu
  have hlen := RV.rels_len args _ hu
  refine calls_of_fin hf hb ?_
  have hs : Sim ⟨w, fun _ => True, fun _ => False, n⟩ ⟨startEnv 0 args, []⟩ { tmps := us ++ Array.replicate (fn.ntmps - us.size) undef, defers := [] } w := by
    refine ⟨rfl, by simp at hlen ⊢; omega, fun _ => none, ⟨rfl, fun i j g hi => by simp at hi, fun i o hi => by simp at hi, fun i g hi => by simp at hi, ⟨rfl, rfl, rfl, Nat.le_refl _, fun _ _ _ => rfl, fun _ _ => trivial⟩⟩, fun t => ?_⟩
    rw [start_look]
    simp only [Nat.zero_le, if_true, Nat.sub_zero]
    cases hr : args[t]? with
    | none => simp [AV.rel]
    | some r =>
      obtain ⟨u, e1, e2⟩ := RV.rels_at args _ hu t r hr
      have ht : t < us.size := by have := (List.getElem?_eq_some_iff.1 e1).1; simpa using this
      simp only [AV.rel]
      have : (us ++ Array.replicate (fn.ntmps - us.size) undef).getD t undef = u := by
        rw [Array.getD_eq_getD_getElem?, Array.getElem?_append_left ht]
        have : us[t]? = some u := by simpa using e1
        simp [this]
      rw [this]
      exact RV.rel_mono ⟨Nat.le_refl _, fun b _ hb => ⟨⟨hb, fun i hi => by simp at hi⟩, rfl⟩⟩ r u e2
  have hr := (h ⟨w, fun _ => True, fun _ => False, n⟩ rfl (fun _ h => h)).run _ w hs
  intro b cs
  obtain ⟨a', w', todo, ⟨hd, v, hv, bs, h1, h2, h3, h4⟩, hst⟩ := hr b cs
  exact ⟨a', w', todo, ⟨hd, v, hv, v, bs, rfl, h1, h2, h3, h4⟩, hst⟩
theorem rels_ac {m : Mem} : ∀ (vs us : List Value), AV.rels m (vs.map fun v => .ro (.c v)) us → us = vs
  | [], us, h => by simpa [AV.rels] using h
  | v :: vs, us, h => by
    simp only [List.map_cons, AV.rels, AV.rel, RV.rel] at h
    obtain ⟨u, us', rfl, rfl, h2⟩ := h
    rw [rels_ac vs us' h2]
section
variable {P : Program} {C C0 : Ctx} {S : St} {fn : Func}
theorem endsO_cell {p ty n i : Nat} {o : Ob} {us : List Value} {ovs : List OV} {bs : List Nat} [ht : TN P ty n] (hsc : Sc C0 C) (hr : fn.results = #[.cell p ty]) (h1 : look S.env p = .obj i 0) (h2 : S.σ[i]? = some o) (h3 : o.cs = us.map fun u => .ro (.c u)) (hl : us.length = n)
    (hov : OV.rels C.w0 ovs us bs) (hfix : ∀ b ∈ bs, b < C.w0.heap.size ∧ ¬ C.mu b) (hnd : bs.Nodup) (hnew : ∀ b ∈ bs, C0.w0.heap.size ≤ b) : ∀ a w, Sim C S a w → EndsO P C0 fn (.agg ovs) a w := by
  rintro a w ⟨s1, s2, φ, hG, hH⟩
  have hcs : o.cs.length = n := by rw [h3, List.length_map, hl]
  obtain ⟨u, k1, k2⟩ := resV_run (P := P) (x := .cell p ty) (v := .agg ((o.cs.drop 0).take n)) hG hH (by simp only [ResV]; exact ⟨i, 0, o, h1, h2, .inr ⟨n, ht, by omega, rfl⟩⟩)
  rw [List.drop_zero, List.take_of_length_le (by omega), h3] at k2
  simp only [AV.rel] at k2
  obtain ⟨vs, rfl, hvs⟩ := k2
  have e := rels_ac us _ hvs
  refine ⟨s1, .agg vs, by rw [results_eq, hr]; simp [k1], bs, ?_, hnd, fun b hb => ⟨hnew b hb, Nat.lt_of_lt_of_le (hfix b hb).1 hG.frm.size⟩, hsc.end_ hG⟩
  simp only [OV.rel]
  exact ⟨vs, rfl, by rw [e]; exact OV.rels_keep ovs us bs hov fun b hb => hG.frm.block b (hfix b hb).1 (hfix b hb).2⟩
theorem endsO_row {t i sz : Nat} {e : TypeId} {us : List Value} {ovs : List OV} {bs : List Nat} (hsc : Sc C0 C) (hr : fn.results = #[.tmp t]) (h1 : look S.env t = .own i) (h2 : S.σ[i]? = some ⟨e, sz, us.map fun u => .ro (.c u)⟩)
    (hov : OV.rels C.w0 ovs us bs) (hfix : ∀ b ∈ bs, b < C.w0.heap.size ∧ ¬ C.mu b) (hnd : bs.Nodup) (hnew : ∀ b ∈ bs, C0.w0.heap.size ≤ b) : ∀ a w, Sim C S a w → EndsO P C0 fn (.row e sz ovs) a w := by
  rintro a w ⟨s1, s2, φ, hG, hH⟩
  have hu := hH t
  rw [h1] at hu
  have h2' : (⟨w, φ, S.σ, C.ok⟩ : Mem).σ[i]? = some ⟨e, sz, (us.map RV.c).map .ro⟩ := by rw [List.map_map]; exact h2
  obtain ⟨n, xs, k1, k2, k3, k4, k5, k6⟩ := row_own (cs := us.map .c) hG h2' hu
  have e1 := agg_flat (m := ⟨w, φ, S.σ, C.ok⟩) us xs k3
  subst e1
  have hkeep := OV.rels_keep (w' := w) ovs xs bs hov fun b hb => hG.frm.block b (hfix b hb).1 (hfix b hb).2
  have hil : i < S.σ.length := (List.getElem?_eq_some_iff.1 h2).1
  refine ⟨s1, a.tmps.getD t undef, by rw [results_eq, hr]; simp [resRun], (a.tmps.getD t undef).ownBlock.toList ++ bs, ?_, ?_, fun b hb => ?_, hsc.end_ hG⟩
  · simp only [OV.rel]
    exact ⟨n, xs, bs, by rw [← OV.rels_len ovs xs bs hov]; simpa using k1, k2, hkeep, k4, k5, rfl⟩
  · rw [k6, List.nodup_append]
    refine ⟨(show ∀ o : Option Nat, o.toList.Nodup from fun o => by cases o <;> simp) _, hnd, fun x hx y hy => ?_⟩
    rintro rfl
    have hx' : φ i = some x := by simpa [Option.mem_toList] using hx
    rcases hG.mine i x hil hx' with h | h
    · exact (hfix x hy).2 h
    · have := (hfix x hy).1; omega
  · rcases List.mem_append.1 hb with hb | hb
    · rw [k6] at hb
      have hb' : φ i = some b := by simpa [Option.mem_toList] using hb
      refine ⟨?_, hG.lt hil hb'⟩
      rcases hG.mine i b hil hb' with h | h
      · exact hsc.mu b h
      · exact Nat.le_trans hsc.below.size h
    · exact ⟨hnew b hb, Nat.lt_of_lt_of_le (hfix b hb).1 hG.frm.size⟩
end
mutual
def RO : RR → OV → Prop
  | .ro r, o => ∃ v, r = .c v ∧ o = .c v
  | .row e sz cs, o => ∃ vs : List Value, cs = vs.map .c ∧ o = .row e sz (vs.map .c)
  | .agg rs, o => ∃ os, o = .agg os ∧ ROs rs os
  | .tup rs, o => ∃ os, o = .tup os ∧ ROs rs os
def ROs : List RR → List OV → Prop
  | [], os => os = []
  | x :: xs, os => ∃ o os', os = o :: os' ∧ RO x o ∧ ROs xs os'
end
mutual
theorem ro_rel {w : World} {ok : Nat → Prop} : ∀ (rr : RR) (o : OV) (u : Value) (bs : List Nat), RO rr o → rr.rel w ok u bs → OV.rel w o u bs
  | .ro r, o, u, bs, h, hr => by
    simp only [RO] at h
    obtain ⟨v, rfl, rfl⟩ := h
    simp only [RR.rel, RV.rel] at hr
    simp only [OV.rel]
    exact hr
  | .row e sz cs, o, u, bs, h, hr => by
    simp only [RO] at h
    obtain ⟨vs, rfl, rfl⟩ := h
    simp only [RR.rel] at hr
    obtain ⟨n, xs, k1, k2, k3, k4, k5, rfl⟩ := hr
    have e2 := agg_flat (m := ⟨w, fun _ => none, [], ok⟩) vs xs (RV.rels_mono ⟨Nat.le_refl _, fun b _ hb => ⟨⟨hb, fun i hi => by simp at hi⟩, rfl⟩⟩ _ _ k3)
    subst e2
    simp only [OV.rel]
    exact ⟨n, xs, [], by simpa using k1, k2, OV.rels_c xs, k4, k5, by simp⟩
  | .agg rs, o, u, bs, h, hr => by
    simp only [RO] at h
    obtain ⟨os, rfl, h⟩ := h
    simp only [RR.rel] at hr
    obtain ⟨us, rfl, hr⟩ := hr
    simp only [OV.rel]
    exact ⟨us, rfl, ros_rel rs os _ bs h hr⟩
  | .tup rs, o, u, bs, h, hr => by
    simp only [RO] at h
    obtain ⟨os, rfl, h⟩ := h
    simp only [RR.rel] at hr
    obtain ⟨us, rfl, hr⟩ := hr
    simp only [OV.rel]
    exact ⟨us, rfl, ros_rel rs os _ bs h hr⟩
theorem ros_rel {w : World} {ok : Nat → Prop} : ∀ (rs : List RR) (os : List OV) (us : List Value) (bs : List Nat), ROs rs os → RR.rels w ok rs us bs → OV.rels w os us bs
  | [], os, us, bs, h, hr => by
    simp only [ROs] at h; subst h
    simpa [RR.rels, OV.rels] using hr
  | x :: xs, os, us, bs, h, hr => by
    simp only [ROs] at h
    obtain ⟨o, os', rfl, h1, h2⟩ := h
    simp only [RR.rels] at hr
    obtain ⟨u, us', b, bs', rfl, rfl, k1, k2⟩ := hr
    simp only [OV.rels]
    exact ⟨u, us', b, bs', rfl, rfl, ro_rel x o u b h1 k1, ros_rel xs os' us' bs' h2 k2⟩
end
section
variable {P : Program} {C : Ctx} {env : Env} {σ : List Ob} {t : Nat} {ty : TypeId} {pos : String} {after : Array Edge} {gd : Option (Nat × Bool)}
end
theorem row_slice {w : World} {e : TypeId} {sz : Nat} {cs : List OV} {u : Value} {bs : List Nat} (h : OV.rel w (.row e sz cs) u bs) : ∃ A n c, u = .slice A n c := by
  simp only [OV.rel] at h
  obtain ⟨n, xs, bs', _, _, _, _, h5, _⟩ := h
  rcases h5.2 with ⟨rfl, _⟩ | ⟨g, cap, cur, rfl, _⟩
  · exact ⟨_, _, _, rfl⟩
  · exact ⟨_, _, _, rfl⟩
end Go.Proofs.YtkmoffefhlmgeaaGreatDoor
/- Laws with marks that want a fact of the world: entry, contexts, calls. Over any program. -/
namespace Go.Proofs.YtkmoffefhlmgeaaGreatDoor
set_option linter.unusedSimpArgs false
set_option linter.unusedVariables false
set_option linter.unusedSectionVars false
set_option maxRecDepth 100000
open Go.RowKit
open AV (Mem Keeps)
def ACto (T : World → Prop) (P : Program) (f : FuncId) (args : List RV) (ov : OV) : Prop :=
  ∀ (w : World) (us : Array Value), T w → RV.rels w (fun _ => True) args us.toList →
    Calls P f us w fun e w' => ∃ u bs, e = .returned u ∧ OV.rel w' ov u bs ∧ bs.Nodup ∧ (∀ b ∈ bs, w.heap.size ≤ b ∧ b < w'.heap.size) ∧ Below w.heap.size w w'
theorem ACt.shut {T : World → Prop} {P : Program} {f : FuncId} {args : List RV} {R : RR → Prop} {r : RV} (h : ACt T P f args R) (hs : ∀ rr, R rr → Seals rr r) : ACtv T P f args r :=
  fun w ok us hw h0 hu => (h w ok us hw h0 hu).mono fun _ _ ⟨u, rr, bs, e, h1, h2, h3, h4, h5⟩ => ⟨u, .ro r, [], e, rfl, by
    simp only [RR.rel]
    exact ⟨seals_rel (fun b hb => ⟨hb.1, by simp⟩) rr r u bs (hs rr h1) h2 (fun b hb => ⟨h0 b (h4 b hb).1, by simp⟩), trivial⟩, by simp, by simp, h5⟩
theorem acto_row {T : World → Prop} {P : Program} {f : FuncId} {args : List RV} {e : TypeId} {sz : Nat} {vs : List Value} (h : ACt T P f args fun rr => rr = .row e sz (vs.map .c)) : ACto T P f args (.row e sz (vs.map .c)) := by
  intro w us hw hu
  refine (h w (fun _ => True) us hw (fun _ _ => trivial) hu).mono ?_
  rintro ee w' ⟨u, rr, bs, rfl, rfl, h1, h2, h3, h4⟩
  simp only [RR.rel] at h1
  obtain ⟨n, xs, k1, k2, k3, k4, k5, rfl⟩ := h1
  have e2 := agg_flat (m := ⟨w', fun _ => none, [], fun b => True ∧ b ∉ u.ownBlock.toList⟩) vs xs (RV.rels_mono ⟨Nat.le_refl _, fun b _ hb => ⟨⟨hb, fun i hi => by simp at hi⟩, rfl⟩⟩ _ _ k3)
  subst e2
  refine ⟨u, _, rfl, ?_, h2, h3, h4⟩
  simp only [OV.rel]
  exact ⟨n, xs, [], by simpa using k1, k2, OV.rels_c xs, k4, k5, by simp⟩
theorem Bears.sc {T : World → Prop} {C0 C : Ctx} (hT : Lasts T) (h0 : T C0.w0) (s : Sc C0 C) : Bears T C := fun m hG => hT.keep _ _ h0 (s.end_ hG)
section
variable {T : World → Prop} {P : Program} {f : FuncId} {fn : Func} {args : List RV}
theorem act_enter0 {c : Code} {R : RR → Prop} (hT : Lasts T) (hf : P.funcs[f]? = some fn) (hb : fn.body = some c) (n : Nat) (hn : fn.ntmps = n) (hl : args.length ≤ n)
    (h : ∀ C : Ctx, C.n = n → (∀ b, ¬ C.mu b) → T C.w0 → Bears T C → Runs P C [.code c] (Ends P C fn R) ⟨startEnv 0 args, []⟩) : ACt T P f args R := by
  intro w ok us hw h0 hu
  have key : ACt (fun w' => w' = w ∧ T w) P f args R := by
    rintro w2 ok2 us2 ⟨rfl, hw2⟩ h2 hu2
    have hlen := RV.rels_len args _ hu2
    refine calls_of_fin hf hb ?_
    have hs : Sim ⟨w2, ok2, fun _ => False, n⟩ ⟨startEnv 0 args, []⟩ { tmps := us2 ++ Array.replicate (fn.ntmps - us2.size) undef, defers := [] } w2 := by
      refine ⟨rfl, by simp at hlen ⊢; omega, fun _ => none, ⟨rfl, fun i j g hi => by simp at hi, fun i o hi => by simp at hi, fun i g hi => by simp at hi, ⟨rfl, rfl, rfl, Nat.le_refl _, fun _ _ _ => rfl, h2⟩⟩, fun t => ?_⟩
      rw [start_look]
      simp only [Nat.zero_le, if_true, Nat.sub_zero]
      cases hr : args[t]? with
      | none => simp [AV.rel]
      | some r =>
        obtain ⟨u, e1, e2⟩ := RV.rels_at args _ hu2 t r hr
        have ht : t < us2.size := by have := (List.getElem?_eq_some_iff.1 e1).1; simpa using this
        simp only [AV.rel]
        have : (us2 ++ Array.replicate (fn.ntmps - us2.size) undef).getD t undef = u := by
          rw [Array.getD_eq_getD_getElem?, Array.getElem?_append_left ht]
          have : us2[t]? = some u := by simpa using e1
          simp [this]
        rw [this]
        exact RV.rel_mono ⟨Nat.le_refl _, fun b _ hb => ⟨⟨hb, fun i hi => by simp at hi⟩, rfl⟩⟩ r u e2
    have hr := (h ⟨w2, ok2, fun _ => False, n⟩ rfl (fun _ h => h) hw2 (fun m hG => hT.keep w2 m.w hw2 (hG.frm.below0 fun _ h => h))).run _ w2 hs
    intro b cs
    obtain ⟨a', w', todo, ⟨hd, v, hv, rr, bs, h1, h2, h3, h4, h5⟩, hst⟩ := hr b cs
    exact ⟨a', w', todo, ⟨hd, v, hv, v, rr, bs, rfl, h1, h2, h3, h4, h5⟩, hst⟩
  exact key w ok us ⟨rfl, hw⟩ h0 hu
end
section
variable {T : World → Prop} {P : Program} {C : Ctx} {ops : Array Oper} {rest : List Oper} {k : List Item} {R : Act → World → Prop} {env : Env} {σ : List Ob} {t : Nat} {ty : TypeId} {pos : String} {after : Array Edge}
theorem op_callNT {f : FuncId} {fn : Func} {xs : Array Operand} {ats : Array TypeId} {args : List RV} {ov : OV} [hfn : FN P f fn] (hb : Bears T C) (hf : ACto T P f args ov) (ha : LendsTL C σ (xs.toList.map (ev env)) args) (ht : t < C.n)
    (hk : ∀ (C' : Ctx) (u : Value) (bs : List Nat), Nx C C' [] → Gh C' ov u bs → bs.Nodup → (∀ b ∈ bs, C.w0.heap.size ≤ b) → RunsL P C' ops rest k R ⟨(t, .ro (constRV u)) :: env, σ⟩) :
    RunsL P C ops (⟨some t, .call { callee := .value (.func f), args := xs, argTypes := ats }, ty, pos, after, none⟩ :: rest) k R ⟨env, σ⟩ := by
  refine ⟨fun a w ⟨s1, s2, φ, hG, hH⟩ => ?_⟩
  refine wpList_plain rfl fun K hK' => ?_
  have hr := LendsTL.rels hG rfl ha _ (rels_eval (a := a) (m := ⟨w, φ, σ, C.ok⟩) xs.toList fun x hx => ev_rel hH x)
  unfold Oper.wp
  rw [execOp_call_go, run_call hfn]
  simp only [Oper.upon]
  refine (hf w _ (hb _ hG) (by simpa using hr)).mono ?_
  rintro e w' ⟨u, bs, rfl, h1, h2, h3, h4⟩
  let C' : Ctx := ⟨w', fun b => C.ok b ∧ b ∉ bs, mine φ σ.length, C.n⟩
  have hmine : ∀ b, C'.mu b → C.mu b ∨ C.w0.heap.size ≤ b := fun b ⟨i, hi, hb⟩ => hG.mine i b hi hb
  have hNx : Nx C C' [] := ⟨rfl, h4.os.trans hG.frm.os, h4.tape.trans hG.frm.tape, h4.output.trans hG.frm.output, Nat.le_trans hG.frm.size h4.size, fun b hb hm _ => (h4.block b (Nat.lt_of_lt_of_le hb hG.frm.size)).trans (hG.frm.block b hb hm), hmine, fun b hb => hb.1⟩
  have hlt : ∀ (i g : Nat), i < σ.length → φ i = some g → g < w.heap.size := fun i g hi hg => hG.lt hi hg
  have hGh : Gh C' ov u bs := ⟨h1, fun b hb => ⟨(h3 b hb).2, fun ⟨i, hi, hg⟩ => by have := hlt i b hi hg; have := (h3 b hb).1; omega, fun ho => ho.2 hb⟩⟩
  have hK : Keeps (fun _ => True) ⟨w, φ, σ, C.ok⟩ ⟨w', φ, σ, C'.ok⟩ := by
    refine ⟨⟨h4.size, fun b hb ho => ⟨⟨⟨ho.1, fun hm => by have := (h3 b hm).1; simp only at hb; omega⟩, ho.2⟩, h4.block b hb⟩⟩, fun i _ hi => ⟨hi, rfl⟩, fun i ob _ hi => ⟨ob.cs, hi, rfl⟩, fun i g us t _ hi hg hh => ⟨us, (h4.block g (Array.getElem?_eq_some_iff.1 hh).1).trans hh, rfl⟩⟩
  have hG' : Good C' ⟨w', φ, σ, C'.ok⟩ := by
    refine ⟨rfl, hG.inj, fun i o hi => (hG.ob i o hi).keeps hK fun g hg => h4.block g (hlt i g (List.getElem?_eq_some_iff.1 hi).1 hg), fun i g hi hg => .inl ⟨i, hi, hg⟩, ⟨rfl, rfl, rfl, Nat.le_refl _, fun _ _ _ => rfl, fun b hb => ⟨hG.frm.new b (Nat.le_trans hG.frm.size (Nat.le_trans h4.size hb)), fun hm => by have := (h3 b hm).2; have hb' : w'.heap.size ≤ b := hb; omega⟩⟩⟩
  refine hK' _ _ ((hk C' u bs hNx hGh h2 fun b hb => Nat.le_trans hG.frm.size (h3 b hb).1).run _ _ ⟨s1, by simp [Act.put, s2]; rfl, φ, hG', (hH.keeps hK).put (by rw [s2]; exact ht) ?_⟩)
  simp only [AV.rel]
  exact rel_constRV u
end
end Go.Proofs.YtkmoffefhlmgeaaGreatDoor
/- Marks: functions that write into a value that they are handed. Steps on memory that is known by its block. Over any program. -/
namespace Go.Proofs.YtkmoffefhlmgeaaGreatDoor
set_option linter.unusedSimpArgs false
set_option linter.unusedVariables false
set_option linter.unusedSectionVars false
set_option maxRecDepth 100000
open Go.RowKit
open AV (Mem Keeps)
structure Bk (C : Ctx) (g : Nat) (us : Array Value) (e : TypeId) : Prop where
  cells : C.w0.heap[g]? = some (.cells us e (0, 0))
  mu : ¬ C.mu g
  ok : ¬ C.ok g
theorem Bk.lt {C : Ctx} {g : Nat} {us : Array Value} {e : TypeId} (h : Bk C g us e) : g < C.w0.heap.size := (Array.getElem?_eq_some_iff.1 h.cells).1
theorem Bk.now {C : Ctx} {m : Mem} {g : Nat} {us : Array Value} {e : TypeId} (h : Bk C g us e) (hG : Good C m) : m.w.heap[g]? = some (.cells us e (0, 0)) := (hG.frm.block g h.lt h.mu).trans h.cells
theorem Bk.next {C C' : Ctx} {g : Nat} {us : Array Value} {e : TypeId} {ds : List Nat} (h : Bk C g us e) (k : Nx C C' ds) (hd : g ∉ ds) : Bk C' g us e :=
  ⟨(k.block g h.lt h.mu hd).trans h.cells, fun hm => (k.mu g hm).elim h.mu fun h1 => by have := h.lt; omega, fun ho => h.ok (k.ok g ho)⟩
section
variable {P : Program} {C : Ctx} {ops : Array Oper} {rest : List Oper} {k : List Item} {R : Act → World → Prop} {env : Env} {σ : List Ob} {t : Nat} {ty : TypeId} {pos : String} {after : Array Edge} {gd : Option (Nat × Bool)}
theorem pu_lenC {tt : TypeId} {e : TypeId} {z : Value} {sz bytes : Nat} {x : Operand} {A : Option Addr} {n cap : Nat} [hs : SL P tt e z sz bytes] (hx : ev env x = .ro (.c (.slice A n cap))) :
    Pur P C ⟨some t, .call { callee := .builtin .len, args := #[x], argTypes := #[tt] }, ty, pos, after, gd⟩ env σ (.int (n : Int)) :=
  Pur.of (fun a m hG hσ hH => ⟨.int .i64 n, by simp [execOp, resolve, invoke, builtin, ev_c (hH _ (by simp [Op.operands, Call.operands])) hx, Builtin.len_, run_underlying hs.el.ht, goInt], by simp [AV.rel, RV.rel]⟩)
theorem pu_indexC {tt : TypeId} {e : TypeId} {z : Value} {sz bytes : Nat} {x ix : Operand} {kd : IntKind} {p : Int} {g n cap : Nat} [hs : SL P tt e z sz bytes]
    (hx : ev env x = .ro (.c (.slice (some ⟨g, 0, none⟩) n cap))) (hi : ev env ix = .ro (.c (.int kd p))) (h0 : 0 ≤ p) (hlt : p < n) : Pur P C ⟨some t, .indexAddr tt x ix, ty, pos, after, gd⟩ env σ (.ro (.c (.pointer (some ⟨g, p.toNat * sz, none⟩)))) :=
  Pur.of (fun a m hG hσ hH => by
    obtain ⟨ii, i1, i2, i3, i4⟩ := hs.el.hi
    refine ⟨.pointer (some ⟨g, 0 + p.toNat * sz, none⟩), ?_, by simp [AV.rel, RV.rel]⟩
    have : (0 ≤ p ∧ p < (n : Int)) := by omega
    simp [execOp, ev_c (hH _ (by simp [Op.operands, Call.operands])) hx, ev_c (hH _ (by simp [Op.operands, Call.operands])) hi, Instr.indexAt, asIntOf, run_underlying hs.el.ht, this, sizeOf, typeInfo, i1, i3, Addr.add_lit])
theorem pu_fieldC {s : TypeId} {x : Operand} {f off g o : Nat} [FA P s f off] (hx : ev env x = .ro (.c (.pointer (some ⟨g, o, none⟩)))) : Pur P C ⟨some t, .fieldAddr s x f, ty, pos, after, gd⟩ env σ (.ro (.c (.pointer (some ⟨g, o + off, none⟩)))) :=
  Pur.of (fun a m hG hσ hH => ⟨.pointer (some ⟨g, o + off, none⟩), by simp [execOp, ev_c (hH _ (by simp [Op.operands, Call.operands])) hx, run_fieldAt], by simp [AV.rel, RV.rel]⟩)
theorem pu_loadC {tt e : TypeId} {x : Operand} {g o : Nat} {us : Array Value} {v : Value} [T1 P tt] (hx : ev env x = .ro (.c (.pointer (some ⟨g, o, none⟩)))) (hb : Bk C g us e) (hv : us[o]? = some v) : Pur P C ⟨some t, .load tt x, ty, pos, after, gd⟩ env σ (.ro (.c v)) :=
  Pur.of (fun a m hG hσ hH => by
    have hc : m.w.cell? ⟨g, o, none⟩ = some v := by rw [cell_of_row _ g o us _ _ (hb.now hG)]; exact hv
    exact ⟨v, by simp [execOp, ev_c (hH _ (by simp [Op.operands, Call.operands])) hx, Instr.loadAt, Instr.sureAddr, loadVar, run_isAgg1, run_load, hc], by simp [AV.rel, RV.rel]⟩)
theorem new_ctx {w w' : World} {φ : Nat → Option Nat} {bs : List Nat} (hG : Good C ⟨w, φ, σ, C.ok⟩) (hb : ∀ b ∈ bs, b < w.heap.size ∧ ¬ C.ok b ∧ ∀ i, i < σ.length → φ i ≠ some b)
    (h1 : w'.os = w.os) (h2 : w'.tape = w.tape) (h3 : w'.output = w.output) (h4 : w.heap.size ≤ w'.heap.size) (h5 : ∀ b, b < w.heap.size → b ∉ bs → w'.heap[b]? = w.heap[b]?) :
    Nx C ⟨w', C.ok, mine φ σ.length, C.n⟩ bs ∧ Good ⟨w', C.ok, mine φ σ.length, C.n⟩ ⟨w', φ, σ, C.ok⟩ ∧ Keeps (fun _ => True) ⟨w, φ, σ, C.ok⟩ ⟨w', φ, σ, C.ok⟩ := by
  have hlt : ∀ (i g : Nat), i < σ.length → φ i = some g → g < w.heap.size := fun i g hi hg => hG.lt hi hg
  have hsame : ∀ i g, i < σ.length → φ i = some g → w'.heap[g]? = w.heap[g]? := fun i g hi hg => h5 g (hlt i g hi hg) fun hm => (hb g hm).2.2 i hi hg
  have hK : Keeps (fun _ => True) ⟨w, φ, σ, C.ok⟩ ⟨w', φ, σ, C.ok⟩ :=
    ⟨⟨h4, fun b hlt ho => ⟨ho, h5 b hlt fun hm => (hb b hm).2.1 ho.1⟩⟩, fun i _ hi => ⟨hi, rfl⟩, fun i ob _ hi => ⟨ob.cs, hi, rfl⟩, fun i g us t _ hi hg hh => ⟨us, (hsame i g hi hg).trans hh, rfl⟩⟩
  refine ⟨⟨rfl, h1.trans hG.frm.os, h2.trans hG.frm.tape, h3.trans hG.frm.output, Nat.le_trans hG.frm.size h4, fun b hb1 hm hn => (h5 b (Nat.lt_of_lt_of_le hb1 hG.frm.size) hn).trans (hG.frm.block b hb1 hm), fun b ⟨i, hi, hg⟩ => hG.mine i b hi hg, fun b hb => hb⟩, ?_, hK⟩
  exact ⟨rfl, hG.inj, fun i o hi => (hG.ob i o hi).keeps hK fun g hg => hsame i g (List.getElem?_eq_some_iff.1 hi).1 hg, fun i g hi hg => .inl ⟨i, hi, hg⟩, ⟨rfl, rfl, rfl, Nat.le_refl _, fun _ _ _ => rfl, fun b hb => hG.frm.new b (Nat.le_trans hG.frm.size (Nat.le_trans h4 hb))⟩⟩
theorem op_storeC {tt e : TypeId} {x y : Operand} {g o : Nat} {us : Array Value} {v : Value} [T1 P tt] (hx : ev env x = .ro (.c (.pointer (some ⟨g, o, none⟩)))) (hy : ev env y = .ro (.c v)) (h1 : v.oneCell' = true) (hb : Bk C g us e) (hlt : o < us.size)
    (hk : ∀ C', Nx C C' [g] → Bk C' g (us.setIfInBounds o v) e → RunsL P C' ops rest k R ⟨env, σ⟩) : RunsL P C ops (⟨none, .store tt x y, ty, pos, after, none⟩ :: rest) k R ⟨env, σ⟩ := by
  refine ⟨fun a w ⟨s1, s2, φ, hG, hH⟩ => ?_⟩
  refine wpList_plain rfl fun K hK' => ?_
  have ex : a.eval x = .pointer (some ⟨g, o, none⟩) := ev_c (m := ⟨w, φ, σ, C.ok⟩) (ev_rel hH x) hx
  have ey : a.eval y = v := ev_c (m := ⟨w, φ, σ, C.ok⟩) (ev_rel hH y) hy
  have hh := hb.now hG
  have hc : w.cell? ⟨g, o, none⟩ = some us[o] := by rw [cell_of_row _ g o us _ _ hh]; exact Array.getElem?_eq_getElem hlt
  have hf : w.frozen? ⟨g, o, none⟩ = false := frozen_of_row w g o us e hh
  have hcell : v.cells = #[v] := by cases v <;> simp_all [Value.cells, Value.oneCell']
  have hr : (execOp a.eval (⟨none, .store tt x y, ty, pos, after, none⟩ : Oper)).run P w = .ok .skip (w.setCell ⟨g, o, none⟩ v) := by
    simp [execOp, ex, ey, Instr.storeAt, Instr.sureAddr, storeVar, hcell, run_size1 (P := P) (t := tt), storeCells, Addr.add_lit, run_store P w ⟨g, o, none⟩ v .plain h1, hc, hf]
  unfold Oper.wp
  rw [hr]
  simp only [Oper.upon]
  have hmine : ∀ i, i < σ.length → φ i ≠ some g := fun i hi hg => by
    rcases hG.mine i g hi hg with h | h
    · exact hb.mu h
    · have := hb.lt; omega
  obtain ⟨nx, hG', hKp⟩ := new_ctx (w' := w.setCell ⟨g, o, none⟩ v) (bs := [g]) hG (fun b hm => by
    rw [List.mem_singleton] at hm; subst hm
    exact ⟨Nat.lt_of_lt_of_le hb.lt hG.frm.size, hb.ok, hmine⟩) rfl rfl rfl (by simp) (fun b _ hn => Below.heap_setCell w ⟨g, o, none⟩ v b (by simpa using hn))
  refine hK' _ _ ((hk _ nx ⟨heap_setCell_same w g o us e v hh, fun ⟨i, hi, hg⟩ => hmine i hi hg, hb.ok⟩).run _ _ ⟨s1, s2, φ, hG', hH.keeps hKp⟩)
end
structure Up (w w' : World) (bs : List Nat) : Prop where
  os : w'.os = w.os
  tape : w'.tape = w.tape
  output : w'.output = w.output
  size : w.heap.size ≤ w'.heap.size
  block : ∀ b, b < w.heap.size → b ∉ bs → w'.heap[b]? = w.heap[b]?
def MK (P : Program) (f : FuncId) (ov : OV) (k k' : Int) (ov' : OV) : Prop :=
  ∀ (w : World) (u : Value) (bs : List Nat), OV.rel w ov u bs → bs.Nodup → (∀ b ∈ bs, b < w.heap.size) →
    Calls P f #[u, .int .i64 k] w fun e w' => e = .returned (.int .i64 k') ∧ OV.rel w' ov' u bs ∧ Up w w' bs
def MX (P : Program) (f : FuncId) (ov : OV) (k k' : Int) : Prop :=
  ∀ (w : World) (u : Value) (bs : List Nat), OV.rel w ov u bs → bs.Nodup → (∀ b ∈ bs, b < w.heap.size) →
    Calls P f #[u, .int .i64 k] w fun e w' => e = .returned (.int .i64 k') ∧ Up w w' bs
theorem MK.mx {P : Program} {f : FuncId} {ov ov' : OV} {k k' : Int} (h : MK P f ov k k' ov') : MX P f ov k k' := fun w u bs h1 h2 h3 => (h w u bs h1 h2 h3).mono fun _ _ h => ⟨h.1, h.2.2⟩
theorem Nx.sub {C C' : Ctx} {bs ds : List Nat} (h : Nx C C' bs) (hs : ∀ b ∈ bs, b ∈ ds) : Nx C C' ds :=
  ⟨h.n, h.os, h.tape, h.output, h.size, fun b h1 h2 h3 => h.block b h1 h2 fun hm => h3 (hs b hm), h.mu, h.ok⟩
theorem Nx.refl (C : Ctx) (bs : List Nat) : Nx C C bs := ⟨rfl, rfl, rfl, rfl, Nat.le_refl _, fun _ _ _ _ => rfl, fun _ h => .inl h, fun _ h => h⟩
theorem Nx.up {C C' : Ctx} {bs : List Nat} (h : Nx C C' bs) (hm : ∀ b, ¬ C.mu b) {m : Mem} (hG : Good C' m) : Up C.w0 m.w bs :=
  ⟨hG.frm.os.trans h.os, hG.frm.tape.trans h.tape, hG.frm.output.trans h.output, Nat.le_trans h.size hG.frm.size, fun b hb hn => (hG.frm.block b (Nat.lt_of_lt_of_le hb h.size) fun hmu => (h.mu b hmu).elim (hm b) fun h1 => by omega).trans (h.block b hb (hm b) hn)⟩
theorem const_eq {w : World} {ok : Nat → Prop} {u x : Value} (h : RV.rel w ok (constRV u) x) : x = u := by
  cases u <;> simp only [constRV, RV.rel] at h <;> try exact h
  obtain ⟨us, rfl, hr⟩ := h
  have := agg_flat (m := ⟨w, fun _ => none, [], ok⟩) _ _ (by
    refine RV.rels_mono ⟨Nat.le_refl _, fun b _ hb => ⟨⟨hb, fun i hi => by simp at hi⟩, rfl⟩⟩ _ _ hr)
  rw [← Array.toArray_toList (xs := us), this]
def EndsM (P : Program) (C0 : Ctx) (fn : Func) (k' : Int) (u : Value) (bs : List Nat) (X : World → Prop) (a : Act) (w : World) : Prop :=
  a.defers = [] ∧ (results fn a.tmps).run P w = .ok (.int .i64 k') w ∧ X w ∧ Up C0.w0 w bs
theorem mark_enter {P : Program} {f : FuncId} {fn : Func} {c : Code} {k k' : Int} {u : Value} {bs : List Nat} {w : World} {X : World → Prop} (hf : P.funcs[f]? = some fn) (hb : fn.body = some c) (n : Nat) (hn : fn.ntmps = n) (hl : 2 ≤ n) (hlt : ∀ b ∈ bs, b < w.heap.size)
    (h : Runs P ⟨w, fun b => b ∉ bs, fun _ => False, n⟩ [.code c] (EndsM P ⟨w, fun b => b ∉ bs, fun _ => False, n⟩ fn k' u bs X) ⟨startEnv 0 [constRV u, .int k], []⟩) :
    Calls P f #[u, .int .i64 k] w fun e w' => e = .returned (.int .i64 k') ∧ X w' ∧ Up w w' bs := by
  refine calls_of_fin hf hb ?_
  have hs : Sim ⟨w, fun b => b ∉ bs, fun _ => False, n⟩ ⟨startEnv 0 [constRV u, .int k], []⟩ { tmps := #[u, .int .i64 k] ++ Array.replicate (fn.ntmps - #[u, .int .i64 k].size) undef, defers := [] } w := by
    refine ⟨rfl, by simp; omega, fun _ => none, ⟨rfl, fun i j g hi => by simp at hi, fun i o hi => by simp at hi, fun i g hi => by simp at hi, ⟨rfl, rfl, rfl, Nat.le_refl _, fun _ _ _ => rfl, fun b hb hm => by have := hlt b hm; simp only at hb; omega⟩⟩, fun t => ?_⟩
    rw [start_look]
    simp only [Nat.zero_le, if_true, Nat.sub_zero]
    have hg : ∀ (v : Value) (j : Nat), ([u, .int .i64 k] : List Value)[j]? = some v → (#[u, .int .i64 k] ++ Array.replicate (fn.ntmps - #[u, Value.int .i64 k].size) undef).getD j undef = v := by
      intro v j hj
      have hlt : j < 2 := (List.getElem?_eq_some_iff.1 hj).1
      rw [Array.getD_eq_getD_getElem?, Array.getElem?_append_left (by simpa using hlt)]
      have : (#[u, Value.int .i64 k] : Array Value)[j]? = some v := by simpa using hj
      rw [this]; rfl
    match t with
    | 0 =>
      simp only [List.getElem?_cons_zero, AV.rel]
      rw [hg u 0 rfl]
      exact const_rel u
    | 1 =>
      simp only [List.getElem?_cons_succ, List.getElem?_cons_zero, AV.rel, RV.rel]
      exact hg _ 1 rfl
    | t + 2 => simp [AV.rel]
  have hr := h.run _ w hs
  intro b cs
  obtain ⟨a', w', todo, ⟨hd, hv, hx, hu⟩, hst⟩ := hr b cs
  exact ⟨a', w', todo, ⟨hd, _, hv, rfl, hx, hu⟩, hst⟩
section
variable {P : Program} {C C0 : Ctx} {S : St} {fn : Func}
theorem endsM {t : Nat} {k' : Int} {u : Value} {bs : List Nat} {X : World → Prop} (hnx : Nx C0 C bs) (hm : ∀ b, ¬ C0.mu b) (hr : fn.results = #[.tmp t]) (h1 : look S.env t = .int k') (hX : ∀ φ w, Good C ⟨w, φ, S.σ, C.ok⟩ → X w) : ∀ a w, Sim C S a w → EndsM P C0 fn k' u bs X a w := by
  rintro a w ⟨s1, s2, φ, hG, hH⟩
  have h := hH t
  rw [h1] at h
  simp only [AV.rel, RV.rel] at h
  exact ⟨s1, by rw [results_eq, hr]; simp [resRun, h], hX φ w hG, hnx.up hm hG⟩
end
section
variable {P : Program} {C : Ctx} {ops : Array Oper} {rest : List Oper} {k : List Item} {R : Act → World → Prop} {env : Env} {σ : List Ob} {t : Nat} {ty : TypeId} {pos : String} {after : Array Edge} {gd : Option (Nat × Bool)}
theorem op_callX {f : FuncId} {fn : Func} {xs : Array Operand} {ats : Array TypeId} {i i' : Int} {u : Value} {bs : List Nat} {X : World → Prop} [hfn : FN P f fn]
    (hf : ∀ w, (∀ b ∈ bs, w.heap[b]? = C.w0.heap[b]?) → (∀ b ∈ bs, b < w.heap.size) → Calls P f #[u, .int .i64 i] w fun e w' => e = .returned (.int .i64 i') ∧ X w' ∧ Up w w' bs)
    (hx : xs.toList.map (ev env) = [.ro (constRV u), .int i]) (hfix : ∀ b ∈ bs, b < C.w0.heap.size ∧ ¬ C.mu b ∧ ¬ C.ok b) (ht : t < C.n)
    (hk : ∀ C', Nx C C' bs → X C'.w0 → (∀ b ∈ bs, ¬ C'.mu b ∧ ¬ C'.ok b) → RunsL P C' ops rest k R ⟨(t, .int i') :: env, σ⟩) :
    RunsL P C ops (⟨some t, .call { callee := .value (.func f), args := xs, argTypes := ats }, ty, pos, after, none⟩ :: rest) k R ⟨env, σ⟩ := by
  refine ⟨fun a w ⟨s1, s2, φ, hG, hH⟩ => ?_⟩
  refine wpList_plain rfl fun K hK' => ?_
  have hr := rels_eval (a := a) (m := ⟨w, φ, σ, C.ok⟩) xs.toList fun x _ => ev_rel hH x
  rw [hx] at hr
  simp only [AV.rels, AV.rel] at hr
  obtain ⟨x1, us1, e1, r1, x2, us2, e2, r2, e3⟩ := hr
  have q1 := const_eq r1
  simp only [RV.rel] at r2
  have hargs : xs.map a.eval = #[u, .int .i64 i] := by
    apply Array.ext'
    rw [Array.toList_map, e1, e2, e3, q1, r2]
  unfold Oper.wp
  rw [execOp_call_go, run_call hfn]
  simp only [Oper.upon]
  have hmine : ∀ b ∈ bs, ∀ j, j < σ.length → φ j ≠ some b := fun b hb j hj hg => by
    rcases hG.mine j b hj hg with h | h
    · exact (hfix b hb).2.1 h
    · have := (hfix b hb).1; omega
  rw [hargs]
  refine (hf w (fun b hb => hG.frm.block b (hfix b hb).1 (hfix b hb).2.1) fun b hb => Nat.lt_of_lt_of_le (hfix b hb).1 hG.frm.size).mono ?_
  rintro e w' ⟨rfl, hX, hu⟩
  obtain ⟨nx, hG', hKp⟩ := new_ctx (w' := w') (bs := bs) hG (fun b hb => ⟨Nat.lt_of_lt_of_le (hfix b hb).1 hG.frm.size, (hfix b hb).2.2, hmine b hb⟩) hu.os hu.tape hu.output hu.size hu.block
  refine hK' _ _ ((hk _ nx hX fun b hb => ⟨fun ⟨j, hj, hg⟩ => hmine b hb j hj hg, (hfix b hb).2.2⟩).run _ _ ⟨s1, by simp [Act.put, s2], φ, hG', (hH.keeps hKp).put (by rw [s2]; exact ht) ?_⟩)
  simp [AV.rel, RV.rel]
end
end Go.Proofs.YtkmoffefhlmgeaaGreatDoor
/- Descriptions that the laws' helpers make: all in memory of their own. -/
namespace Go.Proofs.YtkmoffefhlmgeaaGreatDoor
set_option linter.unusedSimpArgs false
set_option linter.unusedVariables false
set_option linter.unusedSectionVars false
set_option maxRecDepth 100000
open Go.RowKit
def bytesO (l : List UInt8) : OV := .row 5 1 ((l.map fun z => Value.int .u8 (z.toNat : Int)).map .c)
def intsO (l : List Int) : OV := .row 3 1 ((l.map fun z => Value.int .i64 z).map .c)
def strsO (l : List ByteArray) : OV := .row 9 1 ((l.map fun z => Value.string z).map .c)
def rulO (r : Rul) : List OV := [.c (.string r.name), .c (.int .i64 r.kind), .c (.int .i64 r.size), .c (.bool r.little), bytesO r.bytes, strsO r.names, intsO r.tags, intsO r.kids]
def rulsO (d : Des) : OV := .row 54 8 (d.flatMap rulO)
def desO (d : Des) : OV := .agg [rulsO d]
set_option maxHeartbeats 4000000 in
theorem toBytesO_ac (a : List UInt8) (hl : a.length ≤ 4194304) : ACo Tryz.prog 23 [bytesR a] (bytesO a) := by
  refine aco_row (vs := a.map fun z => Value.int .u8 (z.toNat : Int)) ?_
  rw [List.map_map]
  refine ac_enter Tryz.func23 rfl _ Tryz.ntmps23 (by simp) fun C hn hm => ?_
  repeat' (first
 | refine RunsL.step tabOk hn rfl ?_
 | refine RunsL.nil ?_
 | refine Runs.toRegion 30 rfl ?_
 | refine op_make1 rfl rfl rfl rfl (by first | omega | (simp only [List.length_map]; omega)) (by unfold maxLen; simp only [List.length_map]; omega) (tl hn rfl) ?_
 | (refine Runs.ctls 30 rfl ?_; first | ((first | refine Runs.cond_yes rfl ?_ ?_ | refine Runs.cond_nno rfl ?_ ?_); · first | omega | rfl | assumption | (simp only [List.length_map]; omega)) | ((first | refine Runs.cond_no rfl ?_ ?_ | refine Runs.cond_nyes rfl ?_ ?_); · first | omega | rfl | assumption | (simp only [List.length_map]; omega)) | refine Runs.ret (ends_ro hm rfl rfl ?_) | exact Runs.ret (ends_cellR hm rfl rfl rfl (Nat.le_of_ble_eq_true rfl) rfl rfl))
 | refine op_storeF rfl rfl rfl rfl (Nat.le_of_ble_eq_true rfl) ?_
 | (refine RunsL.pe hn rfl rfl rfl ?_; first
 | refine ⟨_, pu_add rfl rfl (by omega), ?_⟩
 | refine ⟨_, pu_indexAddr_map rfl rfl (by omega) (by assumption), ?_⟩
      ))
  refine Runs.loopN 30 rfl (fun j => [(0, .ro (bytesR a)), (3, .own 0), (4, .int (j : Int))]) (fun j => [⟨5, 1, (a.take j ++ List.replicate (a.length - j) 0).map fun z => .ro (.u8 z)⟩]) (fun _ => True) a.length 0 (Nat.zero_le _) trivial ⟨rfl, rfl, rfl, trivial⟩ (by simp) fun j hj _ next => ?_
  by_cases hlt : j < a.length
  · obtain ⟨x, hx⟩ : ∃ x, a[(j : Int).toNat]? = some x := ⟨_, List.getElem?_eq_getElem hlt⟩
    repeat' (first
 | refine RunsL.step tabOk hn rfl ?_
 | refine RunsL.nil ?_
 | refine Runs.toRegion 30 rfl ?_
 | refine op_storeF rfl rfl rfl rfl (by simp; omega) ?_
 | (refine RunsL.pe hn rfl rfl rfl ?_; first
 | refine ⟨_, pu_indexAddr_own (n := a.length) rfl rfl rfl rfl (by simp; omega) (by omega) (by omega), ?_⟩)
 | (refine Runs.ctls 30 rfl ?_; first | ((first | refine Runs.cond_yes rfl ?_ ?_ | refine Runs.cond_nno rfl ?_ ?_); · first | omega | rfl | assumption | (simp only [List.length_map]; omega)) | ((first | refine Runs.cond_no rfl ?_ ?_ | refine Runs.cond_nyes rfl ?_ ?_); · first | omega | rfl | assumption | (simp only [List.length_map]; omega)) | refine Runs.ret (ends_ro hm rfl rfl ?_) | exact Runs.ret (ends_cellR hm rfl rfl rfl (Nat.le_of_ble_eq_true rfl) rfl rfl))
 | refine op_storeF rfl rfl rfl rfl (Nat.le_of_ble_eq_true rfl) ?_
 | (refine RunsL.pe hn rfl rfl rfl ?_; first
 | refine ⟨_, pu_add rfl rfl (by omega), ?_⟩
 | refine ⟨_, pu_indexAddr_map rfl rfl (by omega) (by assumption), ?_⟩
        ))
    refine next _ _ ⟨rfl, rfl, rfl, trivial⟩ hlt trivial ?_
    have h := take_set a 0 a.length j rfl x hx
    simp only [List.set_cons_zero, Nat.mul_one, Int.toNat_natCast]
    rw [← h, List.map_set]
  · obtain rfl : j = a.length := by omega
    repeat' (first
 | refine RunsL.step tabOk hn rfl ?_
 | refine RunsL.nil ?_
 | refine Runs.toRegion 30 rfl ?_
 | (refine Runs.ctls 30 rfl ?_; first | ((first | refine Runs.cond_yes rfl ?_ ?_ | refine Runs.cond_nno rfl ?_ ?_); · first | omega | rfl | assumption | (simp only [List.length_map]; omega)) | ((first | refine Runs.cond_no rfl ?_ ?_ | refine Runs.cond_nyes rfl ?_ ?_); · first | omega | rfl | assumption | (simp only [List.length_map]; omega)) | refine Runs.ret (ends_ro hm rfl rfl ?_) | exact Runs.ret (ends_cellR hm rfl rfl rfl (Nat.le_of_ble_eq_true rfl) rfl rfl))
 | refine op_storeF rfl rfl rfl rfl (Nat.le_of_ble_eq_true rfl) ?_
 | (refine RunsL.pe hn rfl rfl rfl ?_; first
 | refine ⟨_, pu_add rfl rfl (by omega), ?_⟩
 | refine ⟨_, pu_indexAddr_map rfl rfl (by omega) (by assumption), ?_⟩
        ))
    exact Runs.ctls 30 rfl (Runs.ret (ends_own (rs := a.map RV.u8) hm rfl rfl rfl (by simp) rfl))
theorem toStrsO_ac (a : List ByteArray) (hl : a.length ≤ 4194304) : ACo Tryz.prog 59 [strsR a] (strsO a) := by
  refine aco_row (vs := a.map fun z => Value.string z) ?_
  rw [List.map_map]
  refine ac_enter Tryz.func59 rfl _ Tryz.ntmps59 (by simp) fun C hn hm => ?_
  repeat' (first
 | refine RunsL.step tabOk hn rfl ?_
 | refine RunsL.nil ?_
 | refine Runs.toRegion 30 rfl ?_
 | refine op_make1 rfl rfl rfl rfl (by first | omega | (simp only [List.length_map]; omega)) (by unfold maxLen; simp only [List.length_map]; omega) (tl hn rfl) ?_
 | (refine Runs.ctls 30 rfl ?_; first | ((first | refine Runs.cond_yes rfl ?_ ?_ | refine Runs.cond_nno rfl ?_ ?_); · first | omega | rfl | assumption | (simp only [List.length_map]; omega)) | ((first | refine Runs.cond_no rfl ?_ ?_ | refine Runs.cond_nyes rfl ?_ ?_); · first | omega | rfl | assumption | (simp only [List.length_map]; omega)) | refine Runs.ret (ends_ro hm rfl rfl ?_) | exact Runs.ret (ends_cellR hm rfl rfl rfl (Nat.le_of_ble_eq_true rfl) rfl rfl))
 | refine op_storeF rfl rfl rfl rfl (Nat.le_of_ble_eq_true rfl) ?_
 | (refine RunsL.pe hn rfl rfl rfl ?_; first
 | refine ⟨_, pu_add rfl rfl (by omega), ?_⟩
 | refine ⟨_, pu_indexAddr_map rfl rfl (by omega) (by assumption), ?_⟩
      ))
  refine Runs.loopN 30 rfl (fun j => [(0, .ro (strsR a)), (3, .own 0), (4, .int (j : Int))]) (fun j => [⟨9, 1, (a.take j ++ List.replicate (a.length - j) (⟨#[]⟩ : ByteArray)).map fun z => .ro (.str z)⟩]) (fun _ => True) a.length 0 (Nat.zero_le _) trivial ⟨rfl, rfl, rfl, trivial⟩ (by simp) fun j hj _ next => ?_
  by_cases hlt : j < a.length
  · obtain ⟨x, hx⟩ : ∃ x, a[(j : Int).toNat]? = some x := ⟨_, List.getElem?_eq_getElem hlt⟩
    repeat' (first
 | refine RunsL.step tabOk hn rfl ?_
 | refine RunsL.nil ?_
 | refine Runs.toRegion 30 rfl ?_
 | refine op_storeF rfl rfl rfl rfl (by simp; omega) ?_
 | (refine RunsL.pe hn rfl rfl rfl ?_; first
 | refine ⟨_, pu_indexAddr_own (n := a.length) rfl rfl rfl rfl (by simp; omega) (by omega) (by omega), ?_⟩)
 | (refine Runs.ctls 30 rfl ?_; first | ((first | refine Runs.cond_yes rfl ?_ ?_ | refine Runs.cond_nno rfl ?_ ?_); · first | omega | rfl | assumption | (simp only [List.length_map]; omega)) | ((first | refine Runs.cond_no rfl ?_ ?_ | refine Runs.cond_nyes rfl ?_ ?_); · first | omega | rfl | assumption | (simp only [List.length_map]; omega)) | refine Runs.ret (ends_ro hm rfl rfl ?_) | exact Runs.ret (ends_cellR hm rfl rfl rfl (Nat.le_of_ble_eq_true rfl) rfl rfl))
 | refine op_storeF rfl rfl rfl rfl (Nat.le_of_ble_eq_true rfl) ?_
 | (refine RunsL.pe hn rfl rfl rfl ?_; first
 | refine ⟨_, pu_add rfl rfl (by omega), ?_⟩
 | refine ⟨_, pu_indexAddr_map rfl rfl (by omega) (by assumption), ?_⟩
        ))
    refine next _ _ ⟨rfl, rfl, rfl, trivial⟩ hlt trivial ?_
    have h := take_set a (⟨#[]⟩ : ByteArray) a.length j rfl x hx
    simp only [List.set_cons_zero, Nat.mul_one, Int.toNat_natCast]
    rw [← h, List.map_set]
  · obtain rfl : j = a.length := by omega
    repeat' (first
 | refine RunsL.step tabOk hn rfl ?_
 | refine RunsL.nil ?_
 | refine Runs.toRegion 30 rfl ?_
 | (refine Runs.ctls 30 rfl ?_; first | ((first | refine Runs.cond_yes rfl ?_ ?_ | refine Runs.cond_nno rfl ?_ ?_); · first | omega | rfl | assumption | (simp only [List.length_map]; omega)) | ((first | refine Runs.cond_no rfl ?_ ?_ | refine Runs.cond_nyes rfl ?_ ?_); · first | omega | rfl | assumption | (simp only [List.length_map]; omega)) | refine Runs.ret (ends_ro hm rfl rfl ?_) | exact Runs.ret (ends_cellR hm rfl rfl rfl (Nat.le_of_ble_eq_true rfl) rfl rfl))
 | refine op_storeF rfl rfl rfl rfl (Nat.le_of_ble_eq_true rfl) ?_
 | (refine RunsL.pe hn rfl rfl rfl ?_; first
 | refine ⟨_, pu_add rfl rfl (by omega), ?_⟩
 | refine ⟨_, pu_indexAddr_map rfl rfl (by omega) (by assumption), ?_⟩
        ))
    exact Runs.ctls 30 rfl (Runs.ret (ends_own (rs := a.map RV.str) hm rfl rfl rfl (by simp) rfl))
theorem toIntsO_ac (a : List Int) (hl : a.length ≤ 4194304) : ACo Tryz.prog 60 [intsR a] (intsO a) := by
  refine aco_row (vs := a.map fun z => Value.int .i64 z) ?_
  rw [List.map_map]
  refine ac_enter Tryz.func60 rfl _ Tryz.ntmps60 (by simp) fun C hn hm => ?_
  repeat' (first
 | refine RunsL.step tabOk hn rfl ?_
 | refine RunsL.nil ?_
 | refine Runs.toRegion 30 rfl ?_
 | refine op_make1 rfl rfl rfl rfl (by first | omega | (simp only [List.length_map]; omega)) (by unfold maxLen; simp only [List.length_map]; omega) (tl hn rfl) ?_
 | (refine Runs.ctls 30 rfl ?_; first | ((first | refine Runs.cond_yes rfl ?_ ?_ | refine Runs.cond_nno rfl ?_ ?_); · first | omega | rfl | assumption | (simp only [List.length_map]; omega)) | ((first | refine Runs.cond_no rfl ?_ ?_ | refine Runs.cond_nyes rfl ?_ ?_); · first | omega | rfl | assumption | (simp only [List.length_map]; omega)) | refine Runs.ret (ends_ro hm rfl rfl ?_) | exact Runs.ret (ends_cellR hm rfl rfl rfl (Nat.le_of_ble_eq_true rfl) rfl rfl))
 | refine op_storeF rfl rfl rfl rfl (Nat.le_of_ble_eq_true rfl) ?_
 | (refine RunsL.pe hn rfl rfl rfl ?_; first
 | refine ⟨_, pu_add rfl rfl (by omega), ?_⟩
 | refine ⟨_, pu_indexAddr_map rfl rfl (by omega) (by assumption), ?_⟩
      ))
  refine Runs.loopN 30 rfl (fun j => [(0, .ro (intsR a)), (3, .own 0), (4, .int (j : Int))]) (fun j => [⟨3, 1, (a.take j ++ List.replicate (a.length - j) 0).map fun z => .ro (.int z)⟩]) (fun _ => True) a.length 0 (Nat.zero_le _) trivial ⟨rfl, rfl, rfl, trivial⟩ (by simp) fun j hj _ next => ?_
  by_cases hlt : j < a.length
  · obtain ⟨x, hx⟩ : ∃ x, a[(j : Int).toNat]? = some x := ⟨_, List.getElem?_eq_getElem hlt⟩
    repeat' (first
 | refine RunsL.step tabOk hn rfl ?_
 | refine RunsL.nil ?_
 | refine Runs.toRegion 30 rfl ?_
 | refine op_storeF rfl rfl rfl rfl (by simp; omega) ?_
 | (refine RunsL.pe hn rfl rfl rfl ?_; first
 | refine ⟨_, pu_indexAddr_own (n := a.length) rfl rfl rfl rfl (by simp; omega) (by omega) (by omega), ?_⟩)
 | (refine Runs.ctls 30 rfl ?_; first | ((first | refine Runs.cond_yes rfl ?_ ?_ | refine Runs.cond_nno rfl ?_ ?_); · first | omega | rfl | assumption | (simp only [List.length_map]; omega)) | ((first | refine Runs.cond_no rfl ?_ ?_ | refine Runs.cond_nyes rfl ?_ ?_); · first | omega | rfl | assumption | (simp only [List.length_map]; omega)) | refine Runs.ret (ends_ro hm rfl rfl ?_) | exact Runs.ret (ends_cellR hm rfl rfl rfl (Nat.le_of_ble_eq_true rfl) rfl rfl))
 | refine op_storeF rfl rfl rfl rfl (Nat.le_of_ble_eq_true rfl) ?_
 | (refine RunsL.pe hn rfl rfl rfl ?_; first
 | refine ⟨_, pu_add rfl rfl (by omega), ?_⟩
 | refine ⟨_, pu_indexAddr_map rfl rfl (by omega) (by assumption), ?_⟩
        ))
    refine next _ _ ⟨rfl, rfl, rfl, trivial⟩ hlt trivial ?_
    have h := take_set a 0 a.length j rfl x hx
    simp only [List.set_cons_zero, Nat.mul_one, Int.toNat_natCast]
    rw [← h, List.map_set]
  · obtain rfl : j = a.length := by omega
    repeat' (first
 | refine RunsL.step tabOk hn rfl ?_
 | refine RunsL.nil ?_
 | refine Runs.toRegion 30 rfl ?_
 | (refine Runs.ctls 30 rfl ?_; first | ((first | refine Runs.cond_yes rfl ?_ ?_ | refine Runs.cond_nno rfl ?_ ?_); · first | omega | rfl | assumption | (simp only [List.length_map]; omega)) | ((first | refine Runs.cond_no rfl ?_ ?_ | refine Runs.cond_nyes rfl ?_ ?_); · first | omega | rfl | assumption | (simp only [List.length_map]; omega)) | refine Runs.ret (ends_ro hm rfl rfl ?_) | exact Runs.ret (ends_cellR hm rfl rfl rfl (Nat.le_of_ble_eq_true rfl) rfl rfl))
 | refine op_storeF rfl rfl rfl rfl (Nat.le_of_ble_eq_true rfl) ?_
 | (refine RunsL.pe hn rfl rfl rfl ?_; first
 | refine ⟨_, pu_add rfl rfl (by omega), ?_⟩
 | refine ⟨_, pu_indexAddr_map rfl rfl (by omega) (by assumption), ?_⟩
        ))
    exact Runs.ctls 30 rfl (Runs.ret (ends_own (rs := a.map RV.int) hm rfl rfl rfl (by simp) rfl))
theorem nodup_two {a b : List Nat} (k : Nat) (h1 : a.Nodup) (h2 : b.Nodup) (h3 : ∀ x ∈ a, x < k) (h4 : ∀ x ∈ b, k ≤ x) : (a ++ b).Nodup := by
  rw [List.nodup_append]
  exact ⟨h1, h2, fun x hx y hy e => by have := h3 x hx; have := h4 y hy; omega⟩
set_option maxHeartbeats 8000000 in
theorem toRulO_ac (r : Rul) (h : r.total ≤ 1048576) : ACo Tryz.prog 41 [.agg (rulR r)] (.agg (rulO r)) := by
  have et : r.total = r.name.size + r.bytes.length + (r.names.length + (r.names.map ByteArray.size).sum) + r.tags.length + r.kids.length := rfl
  have k1 := toBytesO_ac r.bytes (by omega)
  have k2 := toStrsO_ac r.names (by omega)
  have k3 := toIntsO_ac r.tags (by omega)
  have k4 := toIntsO_ac r.kids (by omega)
  refine aco_enter Tryz.func41 rfl _ Tryz.ntmps41 (by simp) fun C hn hm => ?_
  repeat' (first
 | refine RunsL.step tabOk hn rfl ?_
 | refine RunsL.nil ?_
 | refine Runs.toRegion 30 rfl ?_
 | (refine Runs.ctls 30 rfl ?_; first | ((first | refine Runs.cond_yes rfl ?_ ?_ | refine Runs.cond_nno rfl ?_ ?_); · first | omega | rfl | assumption | (simp only [List.length_map]; omega)) | ((first | refine Runs.cond_no rfl ?_ ?_ | refine Runs.cond_nyes rfl ?_ ?_); · first | omega | rfl | assumption | (simp only [List.length_map]; omega)) | refine Runs.ret (ends_ro hm rfl rfl ?_) | exact Runs.ret (ends_cellR hm rfl rfl rfl (Nat.le_of_ble_eq_true rfl) rfl rfl))
 | refine op_box rfl (tl hn rfl) ?_
 | refine op_storeF rfl rfl rfl rfl (Nat.le_of_ble_eq_true rfl) ?_
 | refine op_alloc (tl hn rfl) ?_
 | refine op_storeN rfl rfl rfl rfl (Nat.le_of_ble_eq_true rfl) ?_
    )
  refine op_callN k1 (.cons .ro .nil) (tl hn rfl) fun C1 u1 b1 nx1 gh1 nd1 new1 => ?_
  obtain ⟨A1, n1, c1, rfl⟩ := row_slice gh1.rel
  have hn := nx1.n.trans hn
  repeat' (first
 | refine RunsL.step tabOk hn rfl ?_
 | refine RunsL.nil ?_
 | refine Runs.toRegion 30 rfl ?_
 | (refine Runs.ctls 30 rfl ?_; first | ((first | refine Runs.cond_yes rfl ?_ ?_ | refine Runs.cond_nno rfl ?_ ?_); · first | omega | rfl | assumption | (simp only [List.length_map]; omega)) | ((first | refine Runs.cond_no rfl ?_ ?_ | refine Runs.cond_nyes rfl ?_ ?_); · first | omega | rfl | assumption | (simp only [List.length_map]; omega)) | refine Runs.ret (ends_ro hm rfl rfl ?_) | exact Runs.ret (ends_cellR hm rfl rfl rfl (Nat.le_of_ble_eq_true rfl) rfl rfl))
 | refine op_box rfl (tl hn rfl) ?_
 | refine op_storeF rfl rfl rfl rfl (Nat.le_of_ble_eq_true rfl) ?_
 | refine op_alloc (tl hn rfl) ?_
 | refine op_storeN rfl rfl rfl rfl (Nat.le_of_ble_eq_true rfl) ?_
    )
  refine op_callN k2 (.cons .ro .nil) (tl hn rfl) fun C2 u2 b2 nx2 gh2 nd2 new2 => ?_
  obtain ⟨A2, n2, c2, rfl⟩ := row_slice gh2.rel
  have hn := nx2.n.trans hn
  repeat' (first
 | refine RunsL.step tabOk hn rfl ?_
 | refine RunsL.nil ?_
 | refine Runs.toRegion 30 rfl ?_
 | (refine Runs.ctls 30 rfl ?_; first | ((first | refine Runs.cond_yes rfl ?_ ?_ | refine Runs.cond_nno rfl ?_ ?_); · first | omega | rfl | assumption | (simp only [List.length_map]; omega)) | ((first | refine Runs.cond_no rfl ?_ ?_ | refine Runs.cond_nyes rfl ?_ ?_); · first | omega | rfl | assumption | (simp only [List.length_map]; omega)) | refine Runs.ret (ends_ro hm rfl rfl ?_) | exact Runs.ret (ends_cellR hm rfl rfl rfl (Nat.le_of_ble_eq_true rfl) rfl rfl))
 | refine op_box rfl (tl hn rfl) ?_
 | refine op_storeF rfl rfl rfl rfl (Nat.le_of_ble_eq_true rfl) ?_
 | refine op_alloc (tl hn rfl) ?_
 | refine op_storeN rfl rfl rfl rfl (Nat.le_of_ble_eq_true rfl) ?_
    )
  refine op_callN k3 (.cons .ro .nil) (tl hn rfl) fun C3 u3 b3 nx3 gh3 nd3 new3 => ?_
  obtain ⟨A3, n3, c3, rfl⟩ := row_slice gh3.rel
  have hn := nx3.n.trans hn
  repeat' (first
 | refine RunsL.step tabOk hn rfl ?_
 | refine RunsL.nil ?_
 | refine Runs.toRegion 30 rfl ?_
 | (refine Runs.ctls 30 rfl ?_; first | ((first | refine Runs.cond_yes rfl ?_ ?_ | refine Runs.cond_nno rfl ?_ ?_); · first | omega | rfl | assumption | (simp only [List.length_map]; omega)) | ((first | refine Runs.cond_no rfl ?_ ?_ | refine Runs.cond_nyes rfl ?_ ?_); · first | omega | rfl | assumption | (simp only [List.length_map]; omega)) | refine Runs.ret (ends_ro hm rfl rfl ?_) | exact Runs.ret (ends_cellR hm rfl rfl rfl (Nat.le_of_ble_eq_true rfl) rfl rfl))
 | refine op_box rfl (tl hn rfl) ?_
 | refine op_storeF rfl rfl rfl rfl (Nat.le_of_ble_eq_true rfl) ?_
 | refine op_alloc (tl hn rfl) ?_
 | refine op_storeN rfl rfl rfl rfl (Nat.le_of_ble_eq_true rfl) ?_
    )
  refine op_callN k4 (.cons .ro .nil) (tl hn rfl) fun C4 u4 b4 nx4 gh4 nd4 new4 => ?_
  obtain ⟨A4, n4, c4, rfl⟩ := row_slice gh4.rel
  have hn := nx4.n.trans hn
  repeat' (first
 | refine RunsL.step tabOk hn rfl ?_
 | refine RunsL.nil ?_
 | refine Runs.toRegion 30 rfl ?_
 | (refine Runs.ctls 30 rfl ?_; first | ((first | refine Runs.cond_yes rfl ?_ ?_ | refine Runs.cond_nno rfl ?_ ?_); · first | omega | rfl | assumption | (simp only [List.length_map]; omega)) | ((first | refine Runs.cond_no rfl ?_ ?_ | refine Runs.cond_nyes rfl ?_ ?_); · first | omega | rfl | assumption | (simp only [List.length_map]; omega)) | refine Runs.ret (ends_ro hm rfl rfl ?_) | exact Runs.ret (ends_cellR hm rfl rfl rfl (Nat.le_of_ble_eq_true rfl) rfl rfl))
 | refine op_box rfl (tl hn rfl) ?_
 | refine op_storeF rfl rfl rfl rfl (Nat.le_of_ble_eq_true rfl) ?_
 | refine op_alloc (tl hn rfl) ?_
 | refine op_storeN rfl rfl rfl rfl (Nat.le_of_ble_eq_true rfl) ?_
    )
  have g1 := ((gh1.next nx2 (by simp)).next nx3 (by simp)).next nx4 (by simp)
  have g2 := (gh2.next nx3 (by simp)).next nx4 (by simp)
  have g3 := gh3.next nx4 (by simp)
  have s1 := (Sc.start hm).next nx1 (by simp)
  have s2 := s1.next nx2 (by simp)
  have s3 := s2.next nx3 (by simp)
  have s4 := s3.next nx4 (by simp)
  have z1 := nx1.size
  have z2 := nx2.size
  have z3 := nx3.size
  have z4 := nx4.size
  refine Runs.ctls 30 rfl (Runs.ret (endsO_cell (us := [.string r.name, .int .i64 r.kind, .int .i64 r.size, .bool r.little, .slice A1 n1 c1, .slice A2 n2 c2, .slice A3 n3 c3, .slice A4 n4 c4]) (bs := b1 ++ (b2 ++ (b3 ++ b4))) s4 rfl rfl rfl rfl rfl ?_ (fun b hb => ?_) ?_ fun b hb => ?_))
  · simp only [rulO, OV.rels]
    exact ⟨_, _, [], _, rfl, rfl, by simp [OV.rel], _, _, [], _, rfl, rfl, by simp [OV.rel], _, _, [], _, rfl, rfl, by simp [OV.rel], _, _, [], _, rfl, rfl, by simp [OV.rel], _, _, b1, _, rfl, rfl, g1.rel, _, _, b2, _, rfl, rfl, g2.rel, _, _, b3, _, rfl, rfl, g3.rel, _, _, b4, [], rfl, by simp, gh4.rel, rfl, rfl⟩
  · rw [List.mem_append, List.mem_append, List.mem_append] at hb
    rcases hb with hb | hb | hb | hb
    · exact ⟨(g1.fix b hb).1, (g1.fix b hb).2.1⟩
    · exact ⟨(g2.fix b hb).1, (g2.fix b hb).2.1⟩
    · exact ⟨(g3.fix b hb).1, (g3.fix b hb).2.1⟩
    · exact ⟨(gh4.fix b hb).1, (gh4.fix b hb).2.1⟩
  · refine nodup_two C1.w0.heap.size nd1 (nodup_two C2.w0.heap.size nd2 (nodup_two C3.w0.heap.size nd3 nd4 (fun x hx => (gh3.fix x hx).1) new4) (fun x hx => (gh2.fix x hx).1) fun x hx => ?_) (fun x hx => (gh1.fix x hx).1) fun x hx => ?_
    · rcases List.mem_append.1 hx with hx | hx
      · exact new3 x hx
      · have := new4 x hx; omega
    · rcases List.mem_append.1 hx with hx | hx
      · exact new2 x hx
      · rcases List.mem_append.1 hx with hx | hx
        · have := new3 x hx; omega
        · have := new4 x hx; omega
  · rw [List.mem_append, List.mem_append, List.mem_append] at hb
    rcases hb with hb | hb | hb | hb
    · exact new1 b hb
    · have := new2 b hb; omega
    · have := new3 b hb; omega
    · have := new4 b hb; omega
theorem rul_vals {w : World} {r : Rul} {us : List Value} {bs : List Nat} (h : OV.rels w (rulO r) us bs) : ∃ A1 n1 c1 A2 n2 c2 A3 n3 c3 A4 n4 c4, us = [.string r.name, .int .i64 r.kind, .int .i64 r.size, .bool r.little, .slice A1 n1 c1, .slice A2 n2 c2, .slice A3 n3 c3, .slice A4 n4 c4] := by
  simp only [rulO, OV.rels, bytesO, strsO, intsO] at h
  obtain ⟨v0, _, _, _, rfl, _, h0, v1, _, _, _, rfl, _, h1, v2, _, _, _, rfl, _, h2, v3, _, _, _, rfl, _, h3, v4, _, _, _, rfl, _, h4, v5, _, _, _, rfl, _, h5, v6, _, _, _, rfl, _, h6, v7, _, _, _, rfl, _, h7, rfl, _⟩ := h
  obtain ⟨A1, n1, c1, rfl⟩ := row_slice h4
  obtain ⟨A2, n2, c2, rfl⟩ := row_slice h5
  obtain ⟨A3, n3, c3, rfl⟩ := row_slice h6
  obtain ⟨A4, n4, c4, rfl⟩ := row_slice h7
  simp only [OV.rel] at h0 h1 h2 h3
  rw [h0.1, h1.1, h2.1, h3.1]
  exact ⟨_, _, _, _, _, _, _, _, _, _, _, _, rfl⟩
def rulZ : List Value := [.string ⟨#[]⟩, .int .i64 0, .int .i64 0, .bool false, .slice none 0 0, .slice none 0 0, .slice none 0 0, .slice none 0 0]
theorem rulO_len (l : Des) : (l.flatMap rulO).length = l.length * 8 := by
  induction l with
  | nil => rfl
  | cons x l ih => rw [List.flatMap_cons, List.length_append, ih, List.length_cons, show (rulO x).length = 8 from rfl]; omega
set_option maxHeartbeats 8000000 in
theorem toRulsO_ac (l : Des) (ht : dtotal l ≤ 1048576) : ACo Tryz.prog 22 [rulsR l] (rulsO l) := by
  have hl' : (l.map rulR).length = l.length := List.length_map ..
  have et : dtotal l = l.length + (l.map Rul.total).sum := rfl
  refine aco_enter Tryz.func22 rfl _ Tryz.ntmps22 (by simp) fun C0 hn hm => ?_
  repeat' (first
 | refine RunsL.step tabOk hn rfl ?_
 | refine RunsL.nil ?_
 | refine Runs.toRegion 30 rfl ?_
 | refine op_makeN (zs := rulZ) rfl rfl rfl rfl (by decide) rfl (by omega) (by unfold maxLen; omega) (tl hn rfl) ?_
 | (refine Runs.ctls 30 rfl ?_; first | ((first | refine Runs.cond_yes rfl ?_ ?_ | refine Runs.cond_nno rfl ?_ ?_); · first | omega | rfl | assumption | (simp only [List.length_map]; omega)) | ((first | refine Runs.cond_no rfl ?_ ?_ | refine Runs.cond_nyes rfl ?_ ?_); · first | omega | rfl | assumption | (simp only [List.length_map]; omega)) | refine Runs.ret (ends_ro hm rfl rfl ?_) | exact Runs.ret (ends_cellR hm rfl rfl rfl (Nat.le_of_ble_eq_true rfl) rfl rfl))
 | refine op_storeN rfl rfl rfl rfl (Nat.le_of_ble_eq_true rfl) ?_
 | (refine RunsL.pe hn rfl rfl rfl ?_; first
 | refine ⟨_, pu_add rfl rfl (by omega), ?_⟩
 | refine ⟨_, pu_indexAddr_map rfl rfl (by omega) (by assumption), ?_⟩
      ))
  refine Runs.ctls 30 rfl (Runs.keep [(0, .ro (rulsR l)), (3, .own 0), (4, .int 0)] ⟨rfl, rfl, rfl, trivial⟩ ?_)
  refine Runs.loopV (fun n C S => ∃ (j : Nat) (us : List Value) (bs : List Nat), j + n = l.length ∧ C.n = 23 ∧ Sc C0 C ∧ OV.rels C.w0 ((l.take j).flatMap rulO) us bs ∧ (∀ b ∈ bs, b < C.w0.heap.size ∧ ¬ C.mu b ∧ ¬ C.ok b) ∧ bs.Nodup ∧ (∀ b ∈ bs, C0.w0.heap.size ≤ b) ∧ S = ⟨[(0, .ro (rulsR l)), (3, .own 0), (4, .int (j : Int))], [⟨54, 8, (us ++ (List.replicate (l.length - j) rulZ).flatten).map fun u => .ro (.c u)⟩]⟩) ?_ l.length C0 _ ⟨0, [], [], by omega, hn, Sc.start hm, by simp [OV.rels], by simp, by simp, by simp, ?_⟩
  · rintro n C S ⟨j, us, bs, hj, hn, hsc, hov, hfix, hnd, hnew, rfl⟩ ih
    have hul := OV.rels_len _ _ _ hov
    rw [rulO_len, List.length_take, Nat.min_eq_left (by omega)] at hul
    have hcl : (us ++ (List.replicate (l.length - j) rulZ).flatten).length = l.length * 8 := by
      rw [List.length_append, rep_flatten_len, hul, show rulZ.length = 8 from rfl]; omega
    by_cases hlt : j < l.length
    · obtain ⟨x, hx⟩ : ∃ x, l[(j : Int).toNat]? = some x := ⟨_, List.getElem?_eq_getElem hlt⟩
      have hx' : l[j]? = some x := hx
      have hm' := List.mem_of_getElem? hx'
      have hcall := toRulO_ac x (by have := sum_mem_le Rul.total hm'; omega)
      repeat' (first
 | refine RunsL.step tabOk hn rfl ?_
 | refine RunsL.nil ?_
 | refine Runs.toRegion 30 rfl ?_
 | (refine Runs.ctls 30 rfl ?_; first | ((first | refine Runs.cond_yes rfl ?_ ?_ | refine Runs.cond_nno rfl ?_ ?_); · first | omega | rfl | assumption | (simp only [List.length_map]; omega)) | ((first | refine Runs.cond_no rfl ?_ ?_ | refine Runs.cond_nyes rfl ?_ ?_); · first | omega | rfl | assumption | (simp only [List.length_map]; omega)) | refine Runs.ret (ends_ro hm rfl rfl ?_) | exact Runs.ret (ends_cellR hm rfl rfl rfl (Nat.le_of_ble_eq_true rfl) rfl rfl))
 | refine op_storeN rfl rfl rfl rfl (Nat.le_of_ble_eq_true rfl) ?_
 | (refine RunsL.pe hn rfl rfl rfl ?_; first
 | refine ⟨_, pu_add rfl rfl (by omega), ?_⟩
 | refine ⟨_, pu_indexAddr_map rfl rfl (by omega) (by assumption), ?_⟩
          ))
      refine op_callN hcall (.cons .ro .nil) (tl hn rfl) fun C1 u1 b1 nx1 gh1 nd1 new1 => ?_
      have hrel := gh1.rel
      simp only [OV.rel] at hrel
      obtain ⟨vs, rfl, hvs⟩ := hrel
      obtain ⟨A1, n1, c1, A2, n2, c2, A3, n3, c3, A4, n4, c4, hE⟩ := rul_vals hvs
      obtain ⟨vs⟩ := vs
      simp only at hE hvs
      subst hE
      have hn := nx1.n.trans hn
      repeat' (first
 | refine RunsL.step tabOk hn rfl ?_
 | refine RunsL.nil ?_
 | refine Runs.toRegion 30 rfl ?_
 | refine op_storeN rfl rfl rfl rfl (by simp only [List.length_map, List.length_cons, List.length_nil, Int.toNat_natCast]; omega) ?_
 | (refine RunsL.pe hn rfl rfl rfl ?_; first
 | refine ⟨_, pu_indexAddr_own (n := l.length) rfl rfl rfl rfl (by simp only [List.length_map]; omega) (by omega) (by omega), ?_⟩)
 | (refine Runs.ctls 30 rfl ?_; first | ((first | refine Runs.cond_yes rfl ?_ ?_ | refine Runs.cond_nno rfl ?_ ?_); · first | omega | rfl | assumption | (simp only [List.length_map]; omega)) | ((first | refine Runs.cond_no rfl ?_ ?_ | refine Runs.cond_nyes rfl ?_ ?_); · first | omega | rfl | assumption | (simp only [List.length_map]; omega)) | refine Runs.ret (ends_ro hm rfl rfl ?_) | exact Runs.ret (ends_cellR hm rfl rfl rfl (Nat.le_of_ble_eq_true rfl) rfl rfl))
 | refine op_storeN rfl rfl rfl rfl (Nat.le_of_ble_eq_true rfl) ?_
 | (refine RunsL.pe hn rfl rfl rfl ?_; first
 | refine ⟨_, pu_add rfl rfl (by omega), ?_⟩
 | refine ⟨_, pu_indexAddr_map rfl rfl (by omega) (by assumption), ?_⟩
          ))
      have hz1 := nx1.size
      refine Runs.ctls 30 rfl ?_
      refine Runs.keep [(0, .ro (rulsR l)), (3, .own 0), (4, .int ((j + 1 : Nat) : Int))] ⟨rfl, rfl, rfl, trivial⟩ ?_
      refine ih (n - 1) (by omega) C1 _ ⟨j + 1, us ++ [.string x.name, .int .i64 x.kind, .int .i64 x.size, .bool x.little, .slice A1 n1 c1, .slice A2 n2 c2, .slice A3 n3 c3, .slice A4 n4 c4], bs ++ b1, by omega, hn, hsc.next nx1 (by simp), ?_, fun b hb => ?_, ?_, fun b hb => ?_, ?_⟩
      · have e : l.take (j + 1) = l.take j ++ [x] := by rw [List.take_add_one, hx']; rfl
        rw [e, List.flatMap_append]
        refine OV.rels_append _ _ _ _ _ _ (OV.rels_keep _ _ _ hov fun b hb => nx1.block b (hfix b hb).1 (hfix b hb).2.1 (by simp)) ?_
        simpa using hvs
      · rcases List.mem_append.1 hb with hb | hb
        · refine ⟨Nat.lt_of_lt_of_le (hfix b hb).1 hz1, fun hm => ?_, fun ho => (hfix b hb).2.2 (nx1.ok b ho)⟩
          rcases nx1.mu b hm with h1 | h1
          · exact (hfix b hb).2.1 h1
          · have := (hfix b hb).1; omega
        · exact gh1.fix b hb
      · exact nodup_two C.w0.heap.size hnd nd1 (fun y hy => (hfix y hy).1) new1
      · rcases List.mem_append.1 hb with hb | hb
        · exact hnew b hb
        · have := new1 b hb; have := hsc.below.size; omega
      · congr 1
        simp only [List.set_cons_zero, Int.toNat_natCast, List.cons.injEq, Ob.mk.injEq, true_and, and_true]
        rw [List.map_append, sets_app _ _ _ _ (by rw [List.length_map, hul]) (by simp only [List.length_map, rep_flatten_len, show rulZ.length = 8 from rfl, List.length_cons, List.length_nil]; omega)]
        rw [show l.length - j = (l.length - (j + 1)) + 1 by omega, List.replicate_succ, List.flatten_cons]
        simp only [List.map_append, List.append_assoc]
        rfl
    · obtain rfl : j = l.length := by omega
      repeat' (first
 | refine RunsL.step tabOk hn rfl ?_
 | refine RunsL.nil ?_
 | refine Runs.toRegion 30 rfl ?_
 | (refine Runs.ctls 30 rfl ?_; first | ((first | refine Runs.cond_yes rfl ?_ ?_ | refine Runs.cond_nno rfl ?_ ?_); · first | omega | rfl | assumption | (simp only [List.length_map]; omega)) | ((first | refine Runs.cond_no rfl ?_ ?_ | refine Runs.cond_nyes rfl ?_ ?_); · first | omega | rfl | assumption | (simp only [List.length_map]; omega)) | refine Runs.ret (ends_ro hm rfl rfl ?_) | exact Runs.ret (ends_cellR hm rfl rfl rfl (Nat.le_of_ble_eq_true rfl) rfl rfl))
 | refine op_storeN rfl rfl rfl rfl (Nat.le_of_ble_eq_true rfl) ?_
 | (refine RunsL.pe hn rfl rfl rfl ?_; first
 | refine ⟨_, pu_add rfl rfl (by omega), ?_⟩
 | refine ⟨_, pu_indexAddr_map rfl rfl (by omega) (by assumption), ?_⟩
          ))
      rw [List.take_length] at hov
      exact Runs.ctls 30 rfl (Runs.ret (endsO_row hsc rfl rfl (by simp) hov (fun b hb => ⟨(hfix b hb).1, (hfix b hb).2.1⟩) hnd hnew))
  · simp
    exact ⟨rfl, rfl⟩
theorem toDesO_ac (d : Des) (ht : dtotal d ≤ 1048576) : ACo Tryz.prog 7 [desR d] (desO d) := by
  refine aco_enter Tryz.func7 rfl _ Tryz.ntmps7 (by simp) fun C hn hm => ?_
  repeat' (first
 | refine RunsL.step tabOk hn rfl ?_
 | refine RunsL.nil ?_
 | refine Runs.toRegion 30 rfl ?_
 | (refine Runs.ctls 30 rfl ?_; first | ((first | refine Runs.cond_yes rfl ?_ ?_ | refine Runs.cond_nno rfl ?_ ?_); · first | omega | rfl | assumption | (simp only [List.length_map]; omega)) | ((first | refine Runs.cond_no rfl ?_ ?_ | refine Runs.cond_nyes rfl ?_ ?_); · first | omega | rfl | assumption | (simp only [List.length_map]; omega)) | refine Runs.ret (ends_ro hm rfl rfl ?_) | exact Runs.ret (ends_cellR hm rfl rfl rfl (Nat.le_of_ble_eq_true rfl) rfl rfl))
 | refine op_box rfl (tl hn rfl) ?_
 | refine op_storeF rfl rfl rfl rfl (Nat.le_of_ble_eq_true rfl) ?_
 | refine op_alloc (tl hn rfl) ?_
 | refine op_storeN rfl rfl rfl rfl (Nat.le_of_ble_eq_true rfl) ?_
    )
  refine op_callN (toRulsO_ac d ht) (.cons .ro .nil) (tl hn rfl) fun C1 u1 b1 nx1 gh1 nd1 new1 => ?_
  obtain ⟨A1, n1, c1, rfl⟩ := row_slice gh1.rel
  have hn := nx1.n.trans hn
  repeat' (first
 | refine RunsL.step tabOk hn rfl ?_
 | refine RunsL.nil ?_
 | refine Runs.toRegion 30 rfl ?_
 | (refine Runs.ctls 30 rfl ?_; first | ((first | refine Runs.cond_yes rfl ?_ ?_ | refine Runs.cond_nno rfl ?_ ?_); · first | omega | rfl | assumption | (simp only [List.length_map]; omega)) | ((first | refine Runs.cond_no rfl ?_ ?_ | refine Runs.cond_nyes rfl ?_ ?_); · first | omega | rfl | assumption | (simp only [List.length_map]; omega)) | refine Runs.ret (ends_ro hm rfl rfl ?_) | exact Runs.ret (ends_cellR hm rfl rfl rfl (Nat.le_of_ble_eq_true rfl) rfl rfl))
 | refine op_box rfl (tl hn rfl) ?_
 | refine op_storeF rfl rfl rfl rfl (Nat.le_of_ble_eq_true rfl) ?_
 | refine op_alloc (tl hn rfl) ?_
 | refine op_storeN rfl rfl rfl rfl (Nat.le_of_ble_eq_true rfl) ?_
    )
  refine Runs.ctls 30 rfl (Runs.ret (endsO_cell (us := [.slice A1 n1 c1]) (bs := b1) ((Sc.start hm).next nx1 (by simp)) rfl rfl rfl rfl rfl ?_ (fun b hb => ⟨(gh1.fix b hb).1, (gh1.fix b hb).2.1⟩) nd1 new1))
  simp only [OV.rels]
  exact ⟨_, _, b1, [], rfl, by simp, gh1.rel, rfl, rfl⟩
end Go.Proofs.YtkmoffefhlmgeaaGreatDoor
/- Marks on flat rows: written, and found again. -/
namespace Go.Proofs.YtkmoffefhlmgeaaGreatDoor
set_option linter.unusedSimpArgs false
set_option linter.unusedVariables false
set_option linter.unusedSectionVars false
set_option maxRecDepth 100000
open Go.RowKit
open AV (Mem Keeps)
theorem rels_cs {w : World} : ∀ (vs us : List Value) (bs : List Nat), OV.rels w (vs.map .c) us bs → us = vs ∧ bs = []
  | [], us, bs, h => by simpa [OV.rels] using h
  | v :: vs, us, bs, h => by
    simp only [List.map_cons, OV.rels, OV.rel] at h
    obtain ⟨u, us', b, bs', rfl, rfl, ⟨rfl, rfl⟩, h2⟩ := h
    obtain ⟨rfl, rfl⟩ := rels_cs vs us' bs' h2
    exact ⟨rfl, rfl⟩
theorem row_block {w : World} {e : TypeId} {vs : List Value} {u : Value} {bs : List Nat} (h : OV.rel w (.row e 1 (vs.map .c)) u bs) :
    (u = .slice none 0 0 ∧ vs = [] ∧ bs = []) ∨ ∃ g cap cur, u = .slice (some ⟨g, 0, none⟩) vs.length cap ∧ bs = [g] ∧ w.heap[g]? = some (.cells cur e (0, 0)) ∧ vs.length ≤ cap ∧ cap ≤ maxLen ∧ cur.size = cap ∧ cur.toList.take vs.length = vs := by
  simp only [OV.rel] at h
  obtain ⟨n, xs, bs', h1, h2, h3, h4, h5, rfl⟩ := h
  obtain ⟨rfl, rfl⟩ := rels_cs vs xs bs' h3
  rw [List.length_map, Nat.mul_one] at h1
  subst h1
  rcases h5.2 with ⟨rfl, h0⟩ | ⟨g, cap, cur, rfl, _, hh, c1, c2, c3, ht⟩
  · exact .inl ⟨rfl, List.eq_nil_of_length_eq_zero h0, rfl⟩
  · rw [Nat.mul_one] at c3 ht
    exact .inr ⟨g, cap, cur, rfl, rfl, hh, c1, c2, c3, ht⟩
theorem block_row {w : World} {e : TypeId} {vs : List Value} {g cap : Nat} {cur : Array Value} (hh : w.heap[g]? = some (.cells cur e (0, 0))) (c1 : vs.length ≤ cap) (c2 : cap ≤ maxLen) (c3 : cur.size = cap) (ht : cur.toList.take vs.length = vs) (h1 : ∀ x ∈ vs, x.oneCell' = true) :
    OV.rel w (.row e 1 (vs.map .c)) (.slice (some ⟨g, 0, none⟩) vs.length cap) [g] := by
  simp only [OV.rel]
  exact ⟨vs.length, vs, [], by simp, by omega, OV.rels_c vs, h1, ⟨by simp, .inr ⟨g, cap, cur, rfl, Nat.zero_le _, hh, c1, c2, by omega, by rw [Nat.mul_one]; exact ht⟩⟩, rfl⟩
def seqI (k : Int) (n : Nat) : List Int := (List.range n).map fun (i : Nat) => k + (i : Int)
theorem seqI_len (k : Int) (n : Nat) : (seqI k n).length = n := by unfold seqI; simp
theorem seqI_at {k : Int} {n i : Nat} (h : i < n) : (seqI k n)[i]? = some (k + i) := by unfold seqI; simp [h]
theorem seqI_succ (k : Int) (n : Nat) : seqI k (n + 1) = seqI k n ++ [k + n] := by unfold seqI; rw [List.range_succ, List.map_append]; rfl
theorem mark_next {cur : Array Value} {n j : Nat} {f : Int → Value} {k : Int} {vs : List Value} (hn : n ≤ cur.size) (hl : vs.length = n) (hj : j < n) (h : cur.toList.take n = (seqI k j).map f ++ vs.drop j) :
    (cur.setIfInBounds j (f (k + j))).toList.take n = (seqI k (j + 1)).map f ++ vs.drop (j + 1) := by
  rw [Array.toList_setIfInBounds, List.take_set, h, seqI_succ, List.map_append, List.append_assoc]
  have hs : ((seqI k j).map f).length = j := by rw [List.length_map, seqI_len]
  rw [List.set_append_right _ _ (by omega), hs, Nat.sub_self]
  have hd : vs.drop j = vs[j] :: vs.drop (j + 1) := (List.drop_eq_getElem_cons (by omega))
  rw [hd]
  rfl
set_option maxHeartbeats 8000000 in
theorem markIntS_mk (l : List Int) (k : Int) (h0 : 0 ≤ k) (hk : k ≤ 4611686018427387904) (hll : l.length ≤ 4194304) : MK Tryz.prog 52 (intsO l) k (k + l.length) (intsO (seqI k l.length)) := by
  intro w u bs h hnd hlt
  have hl : (l.map fun z => Value.int .i64 z).length = l.length := List.length_map ..
  rcases row_block h with ⟨rfl, h1, rfl⟩ | ⟨g, cap, cur, rfl, rfl, hh, c1, c2, c3, ht⟩
  · obtain rfl : l = [] := by simpa using h1
    refine mark_enter (X := fun w' => OV.rel w' (intsO (seqI k 0)) (.slice none 0 0) []) Tryz.func52 rfl _ Tryz.ntmps52 (by simp) hlt ?_
    generalize hC0 : (⟨w, fun b => b ∉ ([] : List Nat), fun _ => False, _⟩ : Ctx) = C0
    have hn : C0.n = 19 := by rw [← hC0]
    have hm0 : ∀ b, ¬ C0.mu b := by rw [← hC0]; exact fun _ h => h
    repeat' (first
 | refine RunsL.step tabOk hn rfl ?_
 | refine RunsL.nil ?_
 | refine Runs.toRegion 30 rfl ?_
 | (refine Runs.ctls 30 rfl ?_; first | refine Runs.cond_f rfl ?_ | ((first | refine Runs.cond_yes rfl ?_ ?_ | refine Runs.cond_nno rfl ?_ ?_); · first | omega | rfl | assumption | (simp only [List.length_map]; omega)) | ((first | refine Runs.cond_no rfl ?_ ?_ | refine Runs.cond_nyes rfl ?_ ?_); · first | omega | rfl | assumption | (simp only [List.length_map]; omega)) | refine Runs.ret (ends_ro hm rfl rfl ?_) | exact Runs.ret (ends_cellR hm rfl rfl rfl (Nat.le_of_ble_eq_true rfl) rfl rfl))
 | (refine RunsL.pe hn rfl rfl rfl ?_; first
 | refine ⟨_, pu_add rfl rfl (by omega), ?_⟩
        ))
    refine Runs.ctls 30 rfl (Runs.keep [(0, .ro (.c (.slice none 0 0))), (1, .int k), (5, .int 0)] ⟨rfl, rfl, rfl, trivial⟩ ?_)
    refine Runs.loopV (fun n C S => C = C0 ∧ S = ⟨[(0, .ro (.c (.slice none 0 0))), (1, .int k), (5, .int 0)], []⟩) ?_ 0 C0 _ ⟨rfl, rfl⟩
    rintro n C S ⟨rfl, rfl⟩ ih
    repeat' (first
 | refine RunsL.step tabOk hn rfl ?_
 | refine RunsL.nil ?_
 | refine Runs.toRegion 30 rfl ?_
 | (refine RunsL.pe hn rfl rfl rfl ?_; first
 | refine ⟨_, pu_lenC rfl, ?_⟩)
 | (refine Runs.ctls 30 rfl ?_; first | refine Runs.cond_f rfl ?_ | ((first | refine Runs.cond_yes rfl ?_ ?_ | refine Runs.cond_nno rfl ?_ ?_); · first | omega | rfl | assumption | (simp only [List.length_map]; omega)) | ((first | refine Runs.cond_no rfl ?_ ?_ | refine Runs.cond_nyes rfl ?_ ?_); · first | omega | rfl | assumption | (simp only [List.length_map]; omega)) | refine Runs.ret (ends_ro hm rfl rfl ?_) | exact Runs.ret (ends_cellR hm rfl rfl rfl (Nat.le_of_ble_eq_true rfl) rfl rfl))
 | (refine RunsL.pe hn rfl rfl rfl ?_; first
 | refine ⟨_, pu_add rfl rfl (by omega), ?_⟩
        ))
    refine Runs.ctls 30 rfl (Runs.ret (endsM (Nx.refl _ _) hm0 rfl (by show look _ _ = _; simp [look]) fun φ w hG => ?_))
    simp only [intsO, seqI, OV.rel, List.range_zero, List.map_nil, OV.rels]
    exact ⟨0, [], [], rfl, by omega, ⟨rfl, rfl⟩, by simp, ⟨rfl, .inl ⟨rfl, rfl⟩⟩, rfl⟩
  · rw [hl] at c1 ht ⊢
    refine mark_enter (X := fun w' => OV.rel w' (intsO (seqI k l.length)) (.slice (some ⟨g, 0, none⟩) l.length cap) [g]) Tryz.func52 rfl _ Tryz.ntmps52 (by simp) hlt ?_
    generalize hC0 : (⟨w, fun b => b ∉ [g], fun _ => False, _⟩ : Ctx) = C0
    have hn : C0.n = 19 := by rw [← hC0]
    have hm0 : ∀ b, ¬ C0.mu b := by rw [← hC0]; exact fun _ h => h
    have hb0 : Bk C0 g cur 3 := by rw [← hC0]; exact ⟨hh, fun h => h, fun h => h (by simp)⟩
    repeat' (first
 | refine RunsL.step tabOk hn rfl ?_
 | refine RunsL.nil ?_
 | refine Runs.toRegion 30 rfl ?_
 | (refine Runs.ctls 30 rfl ?_; first | refine Runs.cond_f rfl ?_ | ((first | refine Runs.cond_yes rfl ?_ ?_ | refine Runs.cond_nno rfl ?_ ?_); · first | omega | rfl | assumption | (simp only [List.length_map]; omega)) | ((first | refine Runs.cond_no rfl ?_ ?_ | refine Runs.cond_nyes rfl ?_ ?_); · first | omega | rfl | assumption | (simp only [List.length_map]; omega)) | refine Runs.ret (ends_ro hm rfl rfl ?_) | exact Runs.ret (ends_cellR hm rfl rfl rfl (Nat.le_of_ble_eq_true rfl) rfl rfl))
 | (refine RunsL.pe hn rfl rfl rfl ?_; first
 | refine ⟨_, pu_add rfl rfl (by omega), ?_⟩
        ))
    refine Runs.ctls 30 rfl (Runs.keep [(0, .ro (.c (.slice (some ⟨g, 0, none⟩) l.length cap))), (1, .int k), (5, .int 0)] ⟨rfl, rfl, rfl, trivial⟩ ?_)
    refine Runs.loopV (fun n C S => ∃ (j : Nat) (cu : Array Value), j + n = l.length ∧ C.n = 19 ∧ Nx C0 C [g] ∧ Bk C g cu 3 ∧ cu.size = cap ∧ cu.toList.take l.length = (seqI k j).map (Value.int .i64) ++ (l.map fun z => Value.int .i64 z).drop j ∧ S = ⟨[(0, .ro (.c (.slice (some ⟨g, 0, none⟩) l.length cap))), (1, .int (k + j)), (5, .int (j : Int))], []⟩) ?_ l.length C0 _ ⟨0, cur, by omega, hn, Nx.refl _ _, hb0, c3, by rw [ht]; rfl, by rw [show k + ((0 : Nat) : Int) = k by omega]; rfl⟩
    rintro n C S ⟨j, cu, hj, hn, hnx, hb, hcu, htk, rfl⟩ ih
    by_cases hlt' : j < l.length
    · repeat' (first
 | (refine op_storeC rfl rfl rfl hb (by simp; omega) fun C' nx hb' => ?_; have hn := nx.n.trans hn)
 | refine RunsL.step tabOk hn rfl ?_
 | refine RunsL.nil ?_
 | refine Runs.toRegion 30 rfl ?_
 | (refine RunsL.pe hn rfl rfl rfl ?_; first
 | refine ⟨_, pu_lenC rfl, ?_⟩
 | refine ⟨_, pu_indexC rfl rfl (by omega) (by omega), ?_⟩)
 | (refine Runs.ctls 30 rfl ?_; first | refine Runs.cond_f rfl ?_ | ((first | refine Runs.cond_yes rfl ?_ ?_ | refine Runs.cond_nno rfl ?_ ?_); · first | omega | rfl | assumption | (simp only [List.length_map]; omega)) | ((first | refine Runs.cond_no rfl ?_ ?_ | refine Runs.cond_nyes rfl ?_ ?_); · first | omega | rfl | assumption | (simp only [List.length_map]; omega)) | refine Runs.ret (ends_ro hm rfl rfl ?_) | exact Runs.ret (ends_cellR hm rfl rfl rfl (Nat.le_of_ble_eq_true rfl) rfl rfl))
 | (refine RunsL.pe hn rfl rfl rfl ?_; first
 | refine ⟨_, pu_add rfl rfl (by omega), ?_⟩
        ))
      have e : ((j : Int).toNat * 1) = j := by omega
      rw [e] at hb'
      have hmn := mark_next (f := Value.int .i64) (k := k) (vs := l.map fun z => Value.int .i64 z) (cur := cu) (by omega) hl hlt' htk
      refine Runs.ctls 30 rfl (Runs.keep [(0, .ro (.c (.slice (some ⟨g, 0, none⟩) l.length cap))), (1, .int (k + ((j + 1 : Nat) : Int))), (5, .int ((j + 1 : Nat) : Int))] ⟨rfl, by simp only [look]; exact av_int (by omega), by simp only [look]; exact av_int (by omega), trivial⟩ (ih (n - 1) (by omega) _ _ ⟨j + 1, _, by omega, hn, (hnx.trans nx).sub (by simp), hb', by simpa using hcu, hmn, rfl⟩))
    · obtain rfl : j = l.length := by omega
      repeat' (first
 | refine RunsL.step tabOk hn rfl ?_
 | refine RunsL.nil ?_
 | refine Runs.toRegion 30 rfl ?_
 | (refine RunsL.pe hn rfl rfl rfl ?_; first
 | refine ⟨_, pu_lenC rfl, ?_⟩)
 | (refine Runs.ctls 30 rfl ?_; first | refine Runs.cond_f rfl ?_ | ((first | refine Runs.cond_yes rfl ?_ ?_ | refine Runs.cond_nno rfl ?_ ?_); · first | omega | rfl | assumption | (simp only [List.length_map]; omega)) | ((first | refine Runs.cond_no rfl ?_ ?_ | refine Runs.cond_nyes rfl ?_ ?_); · first | omega | rfl | assumption | (simp only [List.length_map]; omega)) | refine Runs.ret (ends_ro hm rfl rfl ?_) | exact Runs.ret (ends_cellR hm rfl rfl rfl (Nat.le_of_ble_eq_true rfl) rfl rfl))
 | (refine RunsL.pe hn rfl rfl rfl ?_; first
 | refine ⟨_, pu_add rfl rfl (by omega), ?_⟩
          ))
      refine Runs.ctls 30 rfl (Runs.ret (endsM hnx hm0 rfl rfl fun φ w hG => ?_))
      have hvl : ((seqI k l.length).map (Value.int .i64)).length = l.length := by rw [List.length_map, seqI_len]
      have hbr := block_row (vs := (seqI k l.length).map (Value.int .i64)) (hb.now hG) (by rw [hvl]; exact c1) c2 hcu (by rw [hvl, htk, List.drop_of_length_le (by rw [hl]; exact Nat.le_refl _), List.append_nil]) (fun x hx => by obtain ⟨z, _, rfl⟩ := List.mem_map.1 hx; rfl)
      rw [hvl] at hbr
      exact hbr
end Go.Proofs.YtkmoffefhlmgeaaGreatDoor
