/- Slices of instructions, as the laws handle them. -/
import Derived.Test.YtkkmmfgncdfcfaaChecked
import Derived.Test.YtkkmmfgncdfcfaaMem
import Derived.BigQuiet
import Derived.Deep.QuietTactic
import Derived.Deep.LoopGhost
import Derived.Deep.RegionHeld3
import Derived.Deep.DrawnRows
import Derived.Outline
namespace Go.Proofs.Ytkkmmfgncdfcfaa
open Go.RowKit

structure Ins where
  op : Int
  a : Int
  b : Int
def insC (i : Ins) : List Value := [.int .i64 i.op, .int .i64 i.a, .int .i64 i.b]
abbrev insV (i : Ins) : Value := .agg #[.int .i64 i.op, .int .i64 i.a, .int .i64 i.b]
def InsOk (i : Ins) : Prop := I64 i.op ∧ I64 i.a ∧ I64 i.b
theorem flat_len {α : Type} (f : α → List Value) (s : Nat) (hf : ∀ x, (f x).length = s) (l : List α) : (l.flatMap f).length = l.length * s := by
  induction l with
  | nil => simp
  | cons x xs ih => simp only [List.flatMap_cons, List.length_append, hf, ih, List.length_cons]; rw [Nat.add_mul, Nat.one_mul, Nat.add_comm]
theorem flat_at {α : Type} (f : α → List Value) (s : Nat) (hf : ∀ x, (f x).length = s) (l : List α) (k j : Nat) (hk : k < l.length) (hj : j < s) : (l.flatMap f)[k * s + j]? = (f l[k])[j]? := by
  induction l generalizing k with
  | nil => simp at hk
  | cons x xs ih =>
    rw [List.flatMap_cons]
    cases k with
    | zero => rw [List.getElem?_append_left (by rw [hf]; omega)]; simp
    | succ k =>
      rw [List.getElem?_append_right (by rw [hf, Nat.add_mul]; omega), hf]
      have e : (k + 1) * s + j - s = k * s + j := by rw [Nat.add_mul]; omega
      rw [e, ih k (by simpa using hk)]; rfl
abbrev RdN (w : World) (A : Option Addr) (n : Nat) (is : List Ins) : Prop := Rd w 3 A n (is.flatMap insC)
theorem RdN.len {w : World} {A : Option Addr} {n : Nat} {is : List Ins} (h : RdN w A n is) : is.length = n := by
  have := h.1; rw [flat_len insC 3 (fun _ => rfl)] at this; omega
theorem RdN.at_ {w : World} {n k : Nat} {A : Option Addr} {is : List Ins} (h : RdN w A n is) (hk : k < n) :
    ∃ b o, ∃ hl : k < is.length, A = some ⟨b, o, none⟩ ∧ w.cell? ⟨b, o + k * 3, none⟩ = some (.int .i64 is[k].op) ∧ w.cell? ⟨b, o + k * 3 + 1, none⟩ = some (.int .i64 is[k].a) ∧ w.cell? ⟨b, o + k * 3 + 2, none⟩ = some (.int .i64 is[k].b) := by
  have hl : k < is.length := by rw [RdN.len h]; exact hk
  obtain ⟨b, o, hA, hc⟩ := h.2 (by omega)
  refine ⟨b, o, hl, hA, ?_, ?_, ?_⟩
  · exact hc (k * 3) _ (flat_at insC 3 (fun _ => rfl) is k 0 hl (by omega))
  · exact hc (k * 3 + 1) _ (flat_at insC 3 (fun _ => rfl) is k 1 hl (by omega))
  · exact hc (k * 3 + 2) _ (flat_at insC 3 (fun _ => rfl) is k 2 hl (by omega))
theorem elN : Elem Try.prog 47 74 (.agg #[.int .i64 0, .int .i64 0, .int .i64 0]) 3 24 := Elem.mk' Try.underlying47 (by kernel_rfl) rfl (by decide)
theorem ins_one (is : List Ins) : ∀ u ∈ is.flatMap insC, u.oneCell' = true := by
  intro u hu
  obtain ⟨i, _, h⟩ := List.mem_flatMap.1 hu
  simp [insC] at h
  rcases h with rfl | rfl | rfl <;> rfl
def RawN (w : World) (v : Value) (is : List Ins) : Prop := ∃ A n c, v = .slice A n c ∧ RdN w A n is ∧ n ≤ c ∧ c ≤ maxLen
abbrev LgN (is : List Ins) : Prop := is.length ≤ 4194304
def OkN (w : World) (lo hi : Nat) (v : Value) (is : List Ins) : Prop := ∃ A n c, v = .slice A n c ∧ OwnIn w lo hi 74 3 (.slice A n c) n (is.flatMap insC)
theorem RawN.len {w : World} {A : Option Addr} {n c : Nat} {is : List Ins} (h : RawN w (.slice A n c) is) : is.length = n := by
  obtain ⟨A', n', c', e, hr, _⟩ := h
  injection e with _ e2 _
  rw [hr.len, e2]
theorem RawN.below {w w' : World} {v : Value} {is : List Ins} (h : RawN w v is) (hb : Below w.heap.size w w') : RawN w' v is := by
  obtain ⟨A, n, c, e, hr, hc⟩ := h; exact ⟨A, n, c, e, hr.below hb, hc⟩
theorem OkN.raw {w : World} {lo hi : Nat} {v : Value} {is : List Ins} (h : OkN w lo hi v is) : RawN w v is := by
  obtain ⟨A, n, c, e, hr⟩ := h
  obtain ⟨A', c', e', h1, h2, h3⟩ := own_form hr.1
  injection e' with e1 e2 e3; subst e1; subst e3
  exact ⟨A, n, c, e, Rd.of_own hr.1, h1, h2⟩
theorem OkN.stays (lo hi : Nat) (v : Value) (is : List Ins) : Stays lo hi (fun w => OkN w lo hi v is) := by
  rintro w w' hs ⟨A, n, c, e, hr⟩; exact ⟨A, n, c, e, OwnIn.stays lo hi _ _ _ _ _ w w' hs hr⟩
theorem OkN.wider {w : World} {lo hi lo' hi' : Nat} {v : Value} {is : List Ins} (h : OkN w lo hi v is) (h1 : lo' ≤ lo) (h2 : hi ≤ hi') : OkN w lo' hi' v is := by
  obtain ⟨A, n, c, e, hr⟩ := h; exact ⟨A, n, c, e, hr.wider h1 h2⟩

set_option maxHeartbeats 400000 in
theorem toInstruction_any (w : World) (i : Ins) : Calls Try.prog 85 #[insV i] w fun e w' => e = .returned (insV i) ∧ Below w.heap.size w w' := by
  obtain ⟨x, y, z⟩ := i
  go_enter Try.func85, Try.ntmps85
  go_wp2
  exact bodyPost_ret (v := .agg #[.int .i64 x, .int .i64 y, .int .i64 z]) (by simp [results, Try.results85, go_sem]) rfl ⟨rfl, below_al (below_al (below_al (Below.refl _ _) _) _) _⟩
set_option maxHeartbeats 400000 in
theorem eqInstruction_same (w : World) (i : Ins) : Calls Try.prog 86 #[insV i, insV i] w fun e w' => e = .returned (.bool true) ∧ Below w.heap.size w w' := by
  obtain ⟨x, y, z⟩ := i
  go_enter Try.func86, Try.ntmps86
  go_wp2
  go_ret
  exact ⟨rfl, below_al (below_al (Below.refl _ _) _) _⟩

set_option maxHeartbeats 1000000 in
theorem N_eq (w : World) (a b : Value) (is : List Ins) (ha : RawN w a is) (hb : RawN w b is) (hl : LgN is) :
    Calls Try.prog 63 #[a, b] w fun e w' => e = .returned (.bool true) ∧ Below w.heap.size w w' := by
  obtain ⟨A, n, c, rfl, hr, _⟩ := ha
  obtain ⟨B, m, d, rfl, hr', _⟩ := hb
  obtain rfl : n = m := hr.len.symm.trans hr'.len
  have hn : n ≤ 4194304 := by have := hr.len; unfold LgN at hl; omega
  have HR := Lib.hid hr; have HR' := Lib.hid hr'; clear hr hr' hl
  go_enter Try.func63, Try.ntmps63
  go_wp2
  go_loopg [5] n (fun left i wr => ∃ k : Nat, k + left = n ∧ i = .int .i64 k ∧ Below w.heap.size w wr)
  case atStart => exact ⟨0, by omega, rfl, Below.refl _ _⟩
  case round =>
    obtain ⟨k, hk, rfl, hbel⟩ := hrel
    have HB := Lib.hid hbel; clear hbel
    by_cases hlt : k < n
    · obtain ⟨b, o, hl, rfl, c0, c1, c2⟩ := RdN.at_ (HR.out.below HB.out) hlt
      obtain ⟨b', o', hl', rfl, d0, d1, d2⟩ := RdN.at_ (HR'.out.below HB.out) hlt
      obtain ⟨i, hi⟩ : ∃ i, is[k] = i := ⟨_, rfl⟩
      rw [hi] at c0 c1 c2 d0 d1 d2
      have hb1 : (0 : Int) ≤ (k : Int) := by omega
      have hb2 : (k : Int) < (n : Int) := by omega
      clear hi
      go_wp2
      go_region_held3 (fun w' => w'.cell? ⟨b, o + k * 3, none⟩ = some (.int .i64 i.op) ∧ w'.cell? ⟨b, o + k * 3 + 1, none⟩ = some (.int .i64 i.a) ∧ w'.cell? ⟨b, o + k * 3 + 2, none⟩ = some (.int .i64 i.b) ∧
          w'.cell? ⟨b', o' + k * 3, none⟩ = some (.int .i64 i.op) ∧ w'.cell? ⟨b', o' + k * 3 + 1, none⟩ = some (.int .i64 i.a) ∧ w'.cell? ⟨b', o' + k * 3 + 2, none⟩ = some (.int .i64 i.b)) (first | go_keep | (go_split_ands; refine ⟨?_, ?_, ?_, ?_, ?_, ?_⟩ <;> (refine below_cell HB1.out _ _ ?_; assumption)))
        (first
          | (go_at_call 86; refine (eqInstruction_same _ i).mono ?_; rintro e w1 ⟨rfl, hb1⟩; have HB1 := Lib.hid hb1; clear hb1))
      go_wp2
      go_roundg (gk - 1)
      case measure => omega
      case rel => exact ⟨k + 1, by omega, by go_num, HB.out.drew.trans (HB1.out.mono HB.out.size)⟩
    · go_wp2
      go_ret
      exact ⟨rfl, HB.out⟩

theorem made3 (n : Nat) : (madeCells (Value.agg #[.int .i64 0, .int .i64 0, .int .i64 0]).cells (n * 3)).toList = List.replicate (n * 3) (.int .i64 0) := by
  apply List.ext_getElem?
  intro j
  by_cases hj : j < n * 3
  · have h3 : j % 3 = 0 ∨ j % 3 = 1 ∨ j % 3 = 2 := by omega
    rcases h3 with h | h | h <;> simp [madeCells, hj, Value.cells, h]
  · simp [madeCells, hj]
theorem ins_next (is : List Ins) (n k : Nat) (hn : is.length = n) (hk : k < n) (hl : k < is.length) :
    sets ((is.take k).flatMap insC ++ List.replicate ((n - k) * 3) (.int .i64 0)) (k * 3) (insC is[k]) = (is.take (k + 1)).flatMap insC ++ List.replicate ((n - (k + 1)) * 3) (.int .i64 0) := by
  have e1 : n - k = (n - (k + 1)) + 1 := by omega
  rw [e1, sets_next _ _ _ 3 k (n - (k + 1)) (by rw [flat_len insC 3 (fun _ => rfl), List.length_take_of_le (by omega)]) rfl (by simp), List.take_succ_eq_append_getElem hl, List.flatMap_append]
  simp
  omega
set_option maxHeartbeats 1000000 in
theorem N_to (w : World) (v : Value) (is : List Ins) (h : RawN w v is) (hl : LgN is) :
    Calls Try.prog 62 #[v] w fun e w' => ∃ v', e = .returned v' ∧ OkN w' w.heap.size w'.heap.size v' is ∧ Below w.heap.size w w' := by
  obtain ⟨A, n, c, rfl, hr, _⟩ := h
  have hlen := hr.len
  have hn : n ≤ 4194304 := by unfold LgN at hl; omega
  have HR := Lib.hid hr; clear hr hl
  go_enter Try.func62, Try.ntmps62
  go_wp2_with (at_make; refine wpList_mk rfl _ _ rfl elN _ _ _ _ n rfl rfl rfl rfl (by omega) (by unfold maxLen; omega) ?_; intro w1 hown1 hbel1 hsz1)
  go_loopg [4] n (fun left i wr => ∃ k : Nat, k + left = n ∧ i = .int .i64 k ∧ wr.ownsRow w.heap.size 74 3 (slv w.heap.size n n) n ((is.take k).flatMap insC ++ List.replicate ((n - k) * 3) (.int .i64 0)) ∧ Below w.heap.size w wr)
  case atStart =>
    refine ⟨0, by omega, rfl, ?_, hbel1⟩
    rw [made3] at hown1
    simpa using hown1
  case round =>
    obtain ⟨k, hk, rfl, hown, hbel⟩ := hrel
    have HB := Lib.hid hbel; have HO := Lib.hid hown; clear hbel hown
    by_cases hlt : k < n
    · obtain ⟨b, o, hl, rfl, c0, c1, c2⟩ := RdN.at_ (HR.out.below HB.out) hlt
      have HS := Lib.hid (ins_next is n k hlen hlt hl)
      obtain ⟨i, hi⟩ : ∃ i, is[k] = i := ⟨_, rfl⟩
      rw [hi] at c0 c1 c2 HS
      clear hi
      go_wp2_with fail
      refine (toInstruction_any _ i).mono ?_
      rintro e w2 ⟨rfl, hb2⟩
      have hO2 := own_below HO.out hb2
      have HB2 := Lib.hid hb2; have HO2 := Lib.hid hO2
      obtain ⟨⟨u0, d0⟩, f0⟩ := own_slots hO2 (j := k * 3) (by omega)
      obtain ⟨⟨u1, d1⟩, f1⟩ := own_slots hO2 (j := k * 3 + 1) (by omega)
      obtain ⟨⟨u2, d2⟩, f2⟩ := own_slots hO2 (j := k * 3 + 2) (by omega)
      clear hb2 hO2
      go_wp2
      go_roundg (gk - 1)
      case measure => omega
      case rel =>
        have hst := own_sets (a := k * 3) (insC i) HO2.out
        rw [HS.out] at hst
        exact ⟨k + 1, by omega, by go_num, hst.1, below_grown (HB.out.trans (HB2.out.mono HB.out.size)) hst.2 (Nat.le_refl _) (Nat.le_trans HB.out.size HB2.out.size)⟩
    · obtain rfl : k = n := by omega
      go_wp2
      go_ret
      have h := HO.out
      rw [Nat.sub_self, Nat.zero_mul, List.replicate_zero, List.append_nil, List.take_of_length_le (by omega)] at h
      exact ⟨_, rfl, ⟨_, _, _, rfl, OwnIn.of h⟩, HB.out⟩
end Go.Proofs.Ytkkmmfgncdfcfaa
