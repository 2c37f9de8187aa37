/- EscapeAll of both packages: what they return. -/
import Derived.Test.YtafmancgcnlbhaaKindB
import Derived.Test.YtafmancgcnlbhaaEsc2
import Derived.StillTailTactics
import Derived.Laws.CopyOwn
namespace Go.Proofs.Ytafmancgcnlbhaa
open Go.RowKit

def escA (bs : List UInt8) : List UInt8 := bs.flatMap fun c => [92, c]
theorem escA_snoc (bs : List UInt8) (k : Nat) (h : k < bs.length) : escA (bs.take (k + 1)) = escA (bs.take k) ++ [92, bs[k]] := by
  rw [List.take_succ_eq_append_getElem h]; simp only [escA, List.flatMap_append, List.flatMap_cons, List.flatMap_nil, List.append_nil]
theorem escA_len (bs : List UInt8) : (escA bs).length = 2 * bs.length := by
  induction bs with
  | nil => simp [escA]
  | cons c cs ih => simp only [escA, List.flatMap_cons, List.length_append, List.length_cons] at ih ⊢; simp only [List.length_cons, List.length_nil]; omega

theorem spec_EscapeBytes (w : World) (v : Value) (bs : List UInt8) (h : RawB w v bs) (hb : bs.length ≤ 1048576) (t : UInt8) :
    Calls Try.prog 20 #[v, u8v t] w fun e w' => ∃ v', e = .returned v' ∧ OkB w' w.heap.size w'.heap.size v' (escB t bs ++ [t]) ∧ Below w.heap.size w w' := by
  obtain ⟨A, n, c, rfl, hr, hnc, hcm⟩ := h
  refine (specEscapeBytes_any A n c bs t w hr (by have := hr.len; omega)).mono ?_
  rintro e w' ⟨A', m, c', rfl, h1, h2⟩
  have := h1.len
  exact ⟨_, rfl, ⟨_, _, _, rfl, OwnIn.of h1⟩, h2⟩
theorem impl_EscapeBytes (w : World) (v : Value) (bs : List UInt8) (h : RawB w v bs) (hb : bs.length ≤ 1048576) (t : UInt8) :
    Calls Try.prog 21 #[v, u8v t] w fun e w' => ∃ v', e = .returned v' ∧ OkB w' w.heap.size w'.heap.size v' (escB t bs ++ [t]) ∧ Below w.heap.size w w' := by
  obtain ⟨A, n, c, rfl, hr, hnc, hcm⟩ := h
  refine (implEscapeBytes_any A n c bs t w hr (by have := hr.len; omega)).mono ?_
  rintro e w' ⟨A', m, c', rfl, h1, h2⟩
  exact ⟨_, rfl, ⟨_, _, _, rfl, OwnIn.of h1⟩, h2⟩
theorem lg_escB (t : UInt8) (bs : List UInt8) (h : bs.length ≤ 1048576) : LgB (escB t bs ++ [t]) := by have := escB_len t bs; simp [LgB]; omega

set_option maxHeartbeats 400000 in
theorem spec_EscapeAll (w : World) (v : Value) (bs : List UInt8) (h : RawB w v bs) (hb : bs.length ≤ 1048576) (t : UInt8) :
    Calls Try.prog 14 #[v, u8v t] w fun e w' => ∃ v', e = .returned v' ∧ OkB w' w.heap.size w'.heap.size v' (escA bs ++ [t]) ∧ Below w.heap.size w w' := by
  obtain ⟨A, n, c, rfl, hr, hnc, hcm⟩ := h
  have hlen := hr.len
  go_enter Try.func14, Try.ntmps14
  go_wp2
  go_loopg [5, 6] n (fun left v i wr => ∃ k : Nat, k + left = n ∧ i = .int .i64 k ∧ ∃ A' m c', v = .slice A' m c' ∧ OwnB wr w.heap.size (.slice A' m c') m (escA (bs.take k)) ∧ Below w.heap.size w wr)
  case atStart => exact ⟨0, by omega, rfl, _, _, _, rfl, World.ownsRow_made w #[] 0 (Nat.le_refl _) (Nat.zero_le _) rfl, (Below.refl _ _).alloc (Nat.le_refl _) _⟩
  case round =>
    obtain ⟨k, hk, rfl, A', m, c', rfl, hown, hbel⟩ := hrel
    have hm : m ≤ 2097152 := by
      have h1 := hown.len; have h2 := escA_len (bs.take k); simp only [List.length_take] at h2; omega
    have hsz := hbel.size
    by_cases hlt : k < n
    · obtain ⟨b, o, hl, rfl, hc0⟩ := hr.at_ hlt
      have hc1 : wr.cell? ⟨b, o + k, none⟩ = some (u8v bs[k]) := below_cell hbel _ _ hc0
      have HS := Lib.hid (escA_snoc bs k hl)
      have HB := Lib.hid hbel; clear hbel
      clear hc0 hr
      go_wp2_with (at_builtin; refine wpList_appL rfl _ _ rfl elB w.heap.size A' m c' _ rfl hown 2 [.int .u8 92, u8v bs[k]] rfl rfl (by simp [Value.oneCell']) (by unfold maxLen; omega) (by omega) _ _ HB.out (Nat.le_refl _) hsz ?_; intro A1 c1 w1 ap1 HB1 hz1; clear hown)
      go_roundg (gk - 1)
      case measure => omega
      case rel => exact ⟨k + 1, by omega, by go_num, _, _, _, rfl, OwnB.of ap1.own (by rw [HS.out]; simp), HB1.out⟩
    · obtain rfl : k = n := by omega
      have HB := Lib.hid hbel; clear hbel
      clear hr
      go_wp2_with (at_builtin; refine wpList_appL rfl _ _ rfl elB w.heap.size A' m c' _ rfl hown 1 [u8v t] rfl rfl (by simp [Value.oneCell']) (by unfold maxLen; omega) (by omega) _ _ HB.out (Nat.le_refl _) hsz ?_; intro A1 c1 w1 ap1 HB1 hz1; clear hown)
      go_ret
      have h := ap1.own
      rw [List.take_of_length_le (by omega)] at h
      exact ⟨_, rfl, OkB.of (OwnB.of h (by simp)), HB1.out⟩

theorem escA_store (bs : List UInt8) (n k : Nat) (hn : bs.length = n) (hk : k < n) (hl : k < bs.length) :
    splice (((escA (bs.take k) ++ List.replicate (2 * n + 1 - 2 * k) 0).map u8v).set (2 * k) (.int .u8 92)) (2 * k + 1) [u8v bs[k]] = (escA (bs.take (k + 1)) ++ List.replicate (2 * n + 1 - 2 * (k + 1)) 0).map u8v := by
  have h1 : (escA (bs.take k)).length = 2 * k := by rw [escA_len, List.length_take_of_le (by omega)]
  obtain ⟨m, hm⟩ : ∃ m, 2 * n + 1 - 2 * k = m + 2 := ⟨2 * n + 1 - 2 * k - 2, by omega⟩
  have e2 : 2 * n + 1 - 2 * (k + 1) = m := by omega
  rw [hm, e2, escA_snoc bs k hl, List.map_append, List.map_append, List.set_append_right _ _ (by simp [h1]), List.length_map, h1, Nat.sub_self, List.replicate_succ, List.replicate_succ]
  simp only [List.map_cons, List.set_cons_zero, splice, List.length_cons, List.length_nil]
  rw [List.map_append]
  generalize hP : (escA (bs.take k)).map u8v = Pl
  have h2 : Pl.length = 2 * k := by rw [← hP, List.length_map, h1]
  rw [List.take_append, List.drop_append, List.take_of_length_le (by omega), List.drop_eq_nil_of_le (by omega)]
  have e3 : 2 * k + 1 - Pl.length = 1 := by omega
  have e4 : 2 * k + 1 + (0 + 1) - Pl.length = 2 := by omega
  rw [e3, e4]
  simp

set_option maxHeartbeats 400000 in
theorem impl_EscapeAll (w : World) (v : Value) (bs : List UInt8) (h : RawB w v bs) (hb : bs.length ≤ 1048576) (t : UInt8) :
    Calls Try.prog 16 #[v, u8v t] w fun e w' => ∃ v', e = .returned v' ∧ OkB w' w.heap.size w'.heap.size v' (escA bs ++ [t]) ∧ Below w.heap.size w w' := by
  obtain ⟨A, n, c, rfl, hr, hnc, hcm⟩ := h
  have hlen := hr.len
  have hnb : n ≤ 1048576 := by omega
  have hsz1 : Hid ((Try.prog.info? 5).map (·.size) = some 1) := Lib.hid (by kernel_rfl)
  go_enter Try.func16, Try.ntmps16
  go_wp2_with (at_make; refine wpList_mk rfl _ _ rfl elB _ _ _ _ (2 * n + 1) rfl rfl (by omega) (by omega) (by omega) (by unfold maxLen; omega) ?_; intro w1 hown1 hbel1 hs1)
  rw [zeros_u8] at hown1
  go_loopg [14] n (fun left i wr => ∃ k : Nat, k + left = n ∧ i = .int .i64 k ∧ OwnB wr w.heap.size (slv w.heap.size (2 * n + 1) (2 * n + 1)) (2 * n + 1) (escA (bs.take k) ++ List.replicate (2 * n + 1 - 2 * k) 0) ∧ Below w.heap.size w wr)
  case atStart => exact ⟨0, by omega, rfl, hown1, hbel1⟩
  case round =>
    obtain ⟨k, hk, rfl, hown, hbel⟩ := hrel
    have hsz := hbel.size
    by_cases hlt : k < n
    · obtain ⟨b, o, hl, rfl, hc0⟩ := hr.at_ hlt
      have HC := Lib.hid hc0
      have HB := Lib.hid hbel; clear hbel
      obtain ⟨⟨u, hu⟩, hf⟩ := own_slot hown (k := 2 * k) (by omega)
      clear hown1 hbel1 hc0 hr
      go_wp2
      have b1 : (0 : Int) ≤ (k : Int) := by omega
      have b2 : (k : Int) + 1 ≤ (c : Int) := by omega
      have b3 : 2 * (k : Int) + 1 ≤ 2 * (n : Int) + 1 := by omega
      have b4 : (0 : Int) ≤ 2 * (k : Int) + 1 := by omega
      have b5 : (0 : Int) ≤ (k : Int) + 1 := by omega
      have b6 : (k : Int) ≤ (k : Int) + 1 := by omega
      have z1 : IntKind.i64.wrap (2 * (k : Int)) = 2 * (k : Int) := IntWalk.i64_in _ (by omega)
      have z2 : IntKind.i64.wrap (2 * (k : Int) + 1) = 2 * (k : Int) + 1 := IntWalk.i64_in _ (by omega)
      have z3 : IntKind.i64.wrap ((k : Int) + 1) = (k : Int) + 1 := IntWalk.i64_in _ (by omega)
      have z4 : (2 * (k : Int) + 1).toNat = 2 * k + 1 := by omega
      have z5 : ((k : Int) + 1).toNat = k + 1 := by omega
      have z6 : ¬ (2 * n + 1 = 2 * k + 1) := by omega
      have z7 : ¬ (c = k) := by omega
      go_still_tail 10, (by kernel_rfl)
      clear z1 z2 z3 z4 z5 z6 z7
      have hst := own_set (k := 2 * k) (u := .int .u8 92) hown rfl
      have B2 : Below w.heap.size w (wr.setCell ⟨w.heap.size, 2 * k, none⟩ (.int .u8 92)).drew := (HB.out.grown hst.2 hsz (fun g hg => by injection hg; omega)).drew
      obtain ⟨full, _⟩ := own_full hst.1 (by omega)
      change wpList _ _ _ _ _ (wr.setCell ⟨w.heap.size, 2 * k, none⟩ (.int .u8 92)).drew
      generalize hw2 : (wr.setCell ⟨w.heap.size, 2 * k, none⟩ (.int .u8 92)).drew = w2 at B2
      have full2 : w2.heap[w.heap.size]? = some (.cells (((escA (bs.take k) ++ List.replicate (2 * n + 1 - 2 * k) 0).map u8v).set (2 * k) (.int .u8 92)).toArray 5 (0, 0)) := by rw [← hw2]; exact full
      clear hw2 full hst HB hown hu hf
      refine wpList_copy_splice rfl _ _ _ _ rfl 5 Try.underlying27 hsz1.out _ _ _ _ _ _ rfl rfl w.heap.size (2 * k + 1) _ _ full2 [u8v bs[k]] (show 1 = Nat.min 1 _ from (Nat.min_eq_left (by omega)).symm) ?_ ?_ (by simp [Value.oneCell']) w.heap.size w B2 (Nat.le_refl _) ?_
      · intro _
        refine ⟨by rw [if_neg (by omega)], _, rfl, ?_⟩
        intro j u hu
        cases j with
        | zero => simp at hu; subst hu; simp only [Addr.add, if_true]; exact below_cell B2 _ _ HC.out
        | succ j => simp at hu
      · simp [escA_len, hlen]; omega
      · intro w3 HG3 HB3
        have HE := Lib.hid (escA_store bs n k hlen hlt hl)
        have HB4 := Lib.hid HB3; clear HB3 full2 B2
        go_wp2
        go_roundg (gk - 1)
        case measure => omega
        case rel =>
          refine ⟨k + 1, by omega, by go_num, ?_, HB4.out⟩
          have hg := HG3.out
          rw [HE.out] at hg
          exact own_of_full hg (Nat.le_refl _) (by simp [escA_len, hlen]; omega) (by unfold maxLen; omega)
    · obtain rfl : k = n := by omega
      obtain ⟨⟨u, hu⟩, hf⟩ := own_slot hown (k := 2 * k) (by omega)
      have hst := own_set (k := 2 * k) (u := u8v t) hown rfl
      have HS := Lib.hid hst; have HB := Lib.hid hbel; clear hst hbel hown hown1 hbel1
      go_wp2
      go_ret
      have h := HS.out.1
      have hl0 : (escA (bs.take k)).length = 2 * k := by rw [escA_len, List.length_take_of_le (by omega)]
      have e1 : 2 * k + 1 - 2 * k = 1 := by omega
      rw [e1, List.map_append, List.set_append_right _ _ (by simp [hl0]), List.length_map, hl0, Nat.sub_self, List.take_of_length_le (by omega)] at h
      exact ⟨_, rfl, OkB.of (OwnB.of h (by simp)), HB.out.grown HS.out.2 hsz (fun g hg => by injection hg; omega)⟩
theorem lg_escA (t : UInt8) (bs : List UInt8) (h : bs.length ≤ 1048576) : LgB (escA bs ++ [t]) := by have := escA_len bs; simp [LgB]; omega
end Go.Proofs.Ytafmancgcnlbhaa
