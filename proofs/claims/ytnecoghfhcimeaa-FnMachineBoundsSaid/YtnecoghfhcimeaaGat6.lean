/- Gathered texts. -/
import Derived.Test.YtnecoghfhcimeaaGat0
import Derived.Test.YtnecoghfhcimeaaGat1
import Derived.Test.YtnecoghfhcimeaaGat2
import Derived.Test.YtnecoghfhcimeaaGat3
import Derived.Test.YtnecoghfhcimeaaGat4
import Derived.Test.YtnecoghfhcimeaaGat5
/- The program of a description: both sides. -/
namespace Go.Proofs.Ytnecoghfhcimeaa
set_option linter.unusedSimpArgs false
set_option linter.unusedVariables false
set_option linter.unusedSectionVars false
open Go.RowKit
open AV (Mem Wd)
set_option maxRecDepth 100000
mutual
noncomputable def cdT (d : Des) : Nat → List Ins
  | 0 => []
  | j + 1 => cdT d j ++ cmpL d j ((cdT d j).length + 2 : Nat) (cdE d j)
noncomputable def cdE (d : Des) : Nat → List Int
  | 0 => []
  | j + 1 => cdE d j ++ [(((cdT d j).length + 2 : Nat) : Int)]
end
def cdC (a : Int) (l : List Ins) : List Ins := ⟨9, a, 0⟩ :: ⟨17, 0, 0⟩ :: l
theorem B2 (a : Int) (l : List Ins) : (cdC a l).length = l.length + 2 := rfl
theorem cdC_app (a : Int) (l m : List Ins) : cdC a (l ++ m) = cdC a l ++ m := rfl
theorem Vt (d : Des) : ∀ j : Nat, (cdE d j).length = j
  | 0 => by simp [cdE]
  | j + 1 => by rw [cdE, Ra, Vt d j]; rfl
theorem rule_len (d : Des) (hd : W0 d ≤ 1048576) (j : Nat) (x : Rul) (hx : d[j]? = some x) (s : Int) (en : List Int) : (cmpL d j s en).length ≤ 7 + 3 * x.total := by
  have hxt := U5 Rul.total (Re hx)
  have et : W0 d = d.length + (d.map Rul.total).sum := rfl
  by_cases h : Kn d (j : Int) ∧ (j : Int) ≤ en.length
  · rw [B0 h hx]
    have := body_len' s (en := en) (Tj h.1.1 hx) (by omega)
    unfold Xm
    rw [Ra, Rf]
    omega
  · rw [Ig h]; simp
theorem cdT_len (d : Des) (hd : W0 d ≤ 1048576) : ∀ j : Nat, j ≤ d.length → (cdT d j).length ≤ 7 * j + 3 * ((d.take j).map Rul.total).sum
  | 0, _ => by simp [cdT]
  | j + 1, h => by
    obtain ⟨x, hx⟩ : ∃ x, d[j]? = some x := ⟨_, P9 (by omega)⟩
    have ih := cdT_len d hd j (by omega)
    have hs := D2 Rul.total hx
    have hr := rule_len d hd j x hx ((cdT d j).length + 2 : Nat) (cdE d j)
    rw [cdT, Ra, hs]
    omega
theorem cdT_le (d : Des) (hd : W0 d ≤ 1048576) (hG : Ut d) (j : Nat) (h : j ≤ d.length) : (cdT d j).length ≤ 3145896 := by
  have h1 := cdT_len d hd j h
  have h2 := Hh Rul.total d j
  have h3 := hG.2.1
  have et : W0 d = d.length + (d.map Rul.total).sum := rfl
  omega
noncomputable def cdF (d : Des) : Prg := open Classical in if Ut d then ⟨cdC (((cdE d d.length)[d.length - 1]?).getD 0) (cdT d d.length), cdE d d.length⟩ else ⟨[], []⟩
theorem Ij {d : Des} (h : Ut d) : cdF d = ⟨cdC (((cdE d d.length)[d.length - 1]?).getD 0) (cdT d d.length), cdE d d.length⟩ := by unfold cdF; rw [if_pos h]
theorem cdF_no {d : Des} (h : ¬ Ut d) : cdF d = ⟨[], []⟩ := by unfold cdF; rw [if_neg h]
instance tb_prg : TB Try.prog 62 [(0, 1), (1, 1)] [.slice none 0 0, .slice none 0 0] := ⟨_, _, _, rfl, rfl, rfl, rfl, by kernel_rfl, by decide⟩
def cdS (d : Des) (c : List Ins) (e : List Int) : List Ob := [⟨38, 0, [.ro (X4 d)]⟩, ⟨62, 0, [.nil, .nil]⟩, ⟨59, 3, (c.flatMap Vr).map .ro⟩, ⟨62, 0, [.own 2, .own 4]⟩, ⟨3, 1, (e.map RV.int).map .ro⟩]
theorem Od : ∀ l : List Ins, l.flatMap Vr = (l.flatMap insV).map .c
  | [] => rfl
  | x :: l => by rw [List.flatMap_cons, List.flatMap_cons, List.map_append, Od l]; rfl
theorem lend_e {C : Ctx} {d : Des} {c : List Ins} {e : List Int} {more : List Ob} : Lends C (cdS d c e ++ more) (.own 4) (Xc e) :=
  Lends.own (o := ⟨3, 1, (e.map RV.int).map .ro⟩) (els := e.map fun z => [RV.int z]) rfl (by
    have : (e.map fun z => [RV.int z]).flatten = e.map RV.int := by induction e with
      | nil => rfl
      | cons a e ih => simp [ih]
    rw [this]) (by simp)
theorem Gk (e : List Int) : ((e.map RV.int).map AV.ro).length = e.length * 1 := by simp
theorem Lj (c : List Ins) : ((c.flatMap Vr).map AV.ro).length = c.length * 3 := by rw [lmT, To]
theorem Gm (d : Des) (hl : d.length ≤ maxLen) : ACv Try.prog 94 [W1 d] (.int ((d.length : Int) - 1)) := by
  have hlm : (d.map Ws).length = d.length := lmT ..
  unfold maxLen at hl
  refine Yh Try.func94 rfl _ Try.ntmps94 (by simp) fun C hn hm => ?_
  repeat' (first
 | refine Rk Zu hn rfl ?_
 | refine Rl ?_
 | refine Zc 30 rfl ?_
 | (refine Rj 30 rfl ?_; first | ((first | refine Zd rfl ?_ ?_ | refine Ze rfl ?_ ?_); · first | omega | rfl | assumption | (simp only [lmT]; omega)) | ((first | refine Zf rfl ?_ ?_ | refine Za rfl ?_ ?_); · first | omega | rfl | assumption | (simp only [lmT]; omega)) | refine Ri (Zt hm rfl rfl ?_) | exact Ri (Zj hm rfl rfl rfl (nbT rfl) rfl rfl))
 | refine Z1 rfl (tl hn rfl) ?_
 | (refine Zg hn rfl rfl rfl ?_; first
 | refine ⟨_, Z4 rfl rfl (by omega), ?_⟩
      ))
  exact Xx (by rw [hlm])
set_option maxHeartbeats 16000000 in
theorem Qv (d : Des) (ho : P5 d) (hd : W0 d ≤ 1048576) : AC Try.prog 34 [W1 d] (fun rr => rr = .agg [.row 59 3 ((cdF d).code.flatMap Vr), .row 3 1 ((cdF d).entries.map RV.int)]) := by
  have hlm : (d.map Ws).length = d.length := lmT ..
  have hv := W5 d ho hd
  have et : W0 d = d.length + (d.map Rul.total).sum := rfl
  by_cases hG : Ut d
  · have hl := hG.2.1
    have hl1 := hG.1
    have hr := Gm d (by unfold maxLen; omega)
    rw [decide_eq_true hG] at hv
    rw [Ij hG]
    refine Yh Try.func34 rfl _ Try.ntmps34 (by simp) fun C hn hm => ?_
    repeat' (first
 | refine V0 (t := 12) rfl rfl rfl rfl rfl (tl hn rfl) ?_
 | refine Rk Zu hn rfl ?_
 | refine Rl ?_
 | refine Zc 30 rfl ?_
 | ((first | refine Zg hn rfl rfl rfl ?_ | refine Zm rfl rfl ?_); first
 | refine ⟨_, Zw hv rfl, ?_⟩
 | refine ⟨_, Yj rfl, ?_⟩)
 | (refine Rj 30 rfl ?_; first | refine Zp rfl ?_ | refine Zz rfl ?_ | ((first | refine Zd rfl ?_ ?_ | refine Ze rfl ?_ ?_); · first | omega | rfl | assumption | (simp only [lmT]; omega)) | ((first | refine Zf rfl ?_ ?_ | refine Za rfl ?_ ?_); · first | omega | rfl | assumption | (simp only [lmT]; omega)) | refine Ri (Zt hm rfl rfl ?_) | exact Ri (Zj hm rfl rfl rfl (nbT rfl) rfl rfl))
 | refine Z1 rfl (tl hn rfl) ?_
 | refine Yc rfl rfl rfl rfl (nbT rfl) ?_
 | refine Z6 (tl hn rfl) ?_
 | refine Z3 rfl rfl rfl rfl (nbT rfl) ?_
 | ((first | refine Zg hn rfl rfl rfl ?_ | refine Zm rfl rfl ?_); first
 | refine ⟨_, Zx rfl rfl (by omega), ?_⟩
 | refine ⟨_, Zb rfl rfl (by omega) (by assumption), ?_⟩
 | refine ⟨_, Z4 rfl rfl (by omega), ?_⟩
 | refine ⟨_, Zv rfl rfl rfl, ?_⟩
 | refine ⟨_, Z7 rfl rfl (by omega), ?_⟩
 | refine ⟨_, Zr rfl rfl rfl rfl rfl rfl, ?_⟩))
    refine Z8 3 1 (e := 3) (sz := 1) (by decide) rfl rfl ?_
    refine Yw 30 rfl (fun j => [(1, .obj 0 0), (2, .obj 1 0), (3, .obj 3 0), (16, .int (d.length : Int)), (17, .int (j : Int))]) (fun j => cdS d (cdC 0 (cdT d j)) (cdE d j)) (fun _ => True) d.length 0 (Nat.zero_le _) trivial ⟨rfl, rfl, rfl, by simp [look], rfl, trivial⟩ (by rw [show cdT d 0 = [] by simp [cdT], show cdE d 0 = [] by simp [cdE]]; rfl) fun j hj _ next => ?_
    have hcl := cdT_le d hd hG j hj
    have hce := Vt d j
    by_cases hlt : j < d.length
    · have hR := My d ho hd (j : Int) ((cdC 0 (cdT d j)).length : Nat) (cdE d j)
      have hcl1 := cdT_le d hd hG (j + 1) hlt
      rw [cdT, Ra] at hcl1
      have hrl : (cmpL d j ((cdC 0 (cdT d j)).length : Nat) (cdE d j)).length ≤ 3145896 := by
        rw [B2]; omega
      have hcc : (cdC 0 (cdT d j)).length = (cdT d j).length + 2 := rfl
      generalize hq : cmpL d j ((cdC 0 (cdT d j)).length : Nat) (cdE d j) = q at hR hrl
      rw [Od] at hR
      repeat' (first
 | refine Y2 (id := 8) 30 [] [0, 1, 2, 3, 4, 5, 6, 7] 8 [] Ym hn rfl (by kernel_rfl) rfl .nil (by decide) (by decide) (by decide) ?_
 | refine RunsL.junk 3 0 rfl (Yr (t := 31) (i := 2) (n := (cdC 0 (cdT d j)).length) rfl rfl rfl rfl rfl rfl (by rw [To]) (FreeI.at_ (i := 2) (by repeat' (first | exact trivial | exact Yi _ _ | exact (by decide : (4 : Nat) ≠ 2) | refine ⟨?_, ?_⟩))) (by simp only [lmT]; omega) (by simp only [lmT]; omega) (tl hn rfl) ?_)
 | refine RunsL.junk 3 1 rfl (Yr (t := 37) (i := 4) (n := (cdE d j).length) rfl rfl rfl rfl rfl rfl (by simp) (FreeI.at_ (i := 4) (by repeat' (first | exact trivial | exact Yi _ _ | exact (by decide : (2 : Nat) ≠ 4) | refine ⟨?_, ?_⟩))) (by simp; omega) (by simp; omega) (tl hn rfl) ?_)
 | refine RunsT.nil ?_
 | refine RunsT.step Zu rfl rfl (fun _ => rfl) (by decide) ?_
 | refine RunsT.pur (fun _ => Yp (n := (cdC 0 (cdT d j)).length) rfl rfl (Lj _)) (by decide) rfl rfl ?_
 | refine RunsT.pur (fun _ => A2 hR (els := q.map Vr) (Od q) (fun x hx => by obtain ⟨y, _, rfl⟩ := List.mem_map.1 hx; rfl) (.cons .ro (.cons .ro (.cons .ro (.cons lend_e .nil))))) (by decide) rfl rfl ?_
 | refine RunsT.pur (fun _ => Zx rfl rfl (by omega)) (by decide) rfl rfl ?_
 | refine Rk Zu hn rfl ?_
 | refine Rl ?_
 | refine Zc 30 rfl ?_
 | ((first | refine Zg hn rfl rfl rfl ?_ | refine Zm rfl rfl ?_); first
 | refine ⟨_, Yp (n := (cdC 0 (cdT d j)).length) rfl rfl (Lj _), ?_⟩
 | refine ⟨_, A2 hR (els := q.map Vr) (Od q) (fun x hx => by obtain ⟨y, _, rfl⟩ := List.mem_map.1 hx; rfl) (.cons .ro (.cons .ro (.cons .ro (.cons lend_e .nil)))), ?_⟩)
 | (refine Rj 30 rfl ?_; first | refine Zp rfl ?_ | refine Zz rfl ?_ | ((first | refine Zd rfl ?_ ?_ | refine Ze rfl ?_ ?_); · first | omega | rfl | assumption | (simp only [lmT]; omega)) | ((first | refine Zf rfl ?_ ?_ | refine Za rfl ?_ ?_); · first | omega | rfl | assumption | (simp only [lmT]; omega)) | refine Ri (Zt hm rfl rfl ?_) | exact Ri (Zj hm rfl rfl rfl (nbT rfl) rfl rfl))
 | refine Z1 rfl (tl hn rfl) ?_
 | refine Yc rfl rfl rfl rfl (nbT rfl) ?_
 | refine Z6 (tl hn rfl) ?_
 | refine Z3 rfl rfl rfl rfl (nbT rfl) ?_
 | ((first | refine Zg hn rfl rfl rfl ?_ | refine Zm rfl rfl ?_); first
 | refine ⟨_, Zx rfl rfl (by omega), ?_⟩
 | refine ⟨_, Zb rfl rfl (by omega) (by assumption), ?_⟩
 | refine ⟨_, Z4 rfl rfl (by omega), ?_⟩
 | refine ⟨_, Zv rfl rfl rfl, ?_⟩
 | refine ⟨_, Z7 rfl rfl (by omega), ?_⟩
 | refine ⟨_, Zr rfl rfl rfl rfl rfl rfl, ?_⟩))
      refine next _ _ ⟨rfl, rfl, rfl, rfl, rfl, trivial⟩ hlt trivial ?_
      have e1 : cdT d (j + 1) = cdT d j ++ q := by rw [cdT, ← hq]; rfl
      have e2 : cdE d (j + 1) = cdE d j ++ [((cdC 0 (cdT d j)).length : Int)] := by rw [cdE]; rfl
      rw [e1, e2, cdC_app]
      unfold cdS
      rw [List.flatMap_append, List.map_append (f := RV.int)]
      rfl
    · obtain rfl : j = d.length := by omega
      obtain ⟨z, hz⟩ : ∃ z, (cdE d d.length)[d.length - 1]? = some z := ⟨_, P9 (by omega)⟩
      have hzz : (((cdE d d.length).map RV.int).map AV.ro)[((d.length : Int) - 1).toNat * 1]? = some (.ro (.int z)) := by
        rw [show ((d.length : Int) - 1).toNat * 1 = d.length - 1 by omega]
        simp [hz]
      rw [hz]
      repeat' (first
 | refine Y2 (id := 11) 30 [] [0, 1, 2, 3, 4, 5, 6, 7, 8, 9] 10 [] Ym hn rfl (by kernel_rfl) rfl .nil (by decide) (by decide) (by decide) ?_
 | refine RunsT.nil ?_
 | refine RunsT.step Zu rfl rfl (fun _ => rfl) (by decide) ?_
 | refine RunsT.pur (fun _ => Zw hr rfl) (by decide) rfl rfl ?_
 | refine RunsT.pur (fun _ => Yl (n := d.length) (sz := 1) rfl rfl rfl rfl (by rw [Gk, hce]) (by omega) (by omega)) (by decide) rfl rfl ?_
 | refine RunsT.pur (fun _ => Yo rfl rfl hzz) (by decide) rfl rfl ?_
 | refine RunsT.pur (fun _ => Yl (n := (cdC 0 (cdT d d.length)).length) (sz := 3) rfl rfl rfl rfl (Lj _) (by omega) (by rw [B2]; omega)) (by decide) rfl rfl ?_
 | refine RunsT.pur (fun _ => Zx rfl rfl (by omega)) (by decide) rfl rfl ?_
 | refine Rk Zu hn rfl ?_
 | refine Rl ?_
 | refine Zc 30 rfl ?_
 | ((first | refine Zg hn rfl rfl rfl ?_ | refine Zm rfl rfl ?_); first
 | refine ⟨_, Zw hr rfl, ?_⟩
 | refine ⟨_, Yl (n := d.length) (sz := 1) rfl rfl rfl rfl (by rw [Gk, hce]) (by omega) (by omega), ?_⟩
 | refine ⟨_, Yo rfl rfl hzz, ?_⟩
 | refine ⟨_, Yl (n := (cdC 0 (cdT d d.length)).length) (sz := 3) rfl rfl rfl rfl (Lj _) (by omega) (by rw [B2]; omega), ?_⟩
 | refine ⟨_, Z4 rfl rfl (by omega), ?_⟩)
 | (refine Rj 30 rfl ?_; first | refine Zp rfl ?_ | refine Zz rfl ?_ | ((first | refine Zd rfl ?_ ?_ | refine Ze rfl ?_ ?_); · first | omega | rfl | assumption | (simp only [lmT]; omega)) | ((first | refine Zf rfl ?_ ?_ | refine Za rfl ?_ ?_); · first | omega | rfl | assumption | (simp only [lmT]; omega)) | refine Ri (Zt hm rfl rfl ?_) | exact Ri (Zj hm rfl rfl rfl (nbT rfl) rfl rfl))
 | refine Z1 rfl (tl hn rfl) ?_
 | refine Yc rfl rfl rfl rfl (nbT rfl) ?_
 | refine Z6 (tl hn rfl) ?_
 | refine Z3 rfl rfl rfl rfl (nbT rfl) ?_
 | ((first | refine Zg hn rfl rfl rfl ?_ | refine Zm rfl rfl ?_); first
 | refine ⟨_, Zx rfl rfl (by omega), ?_⟩
 | refine ⟨_, Zb rfl rfl (by omega) (by assumption), ?_⟩
 | refine ⟨_, Z4 rfl rfl (by omega), ?_⟩
 | refine ⟨_, Zv rfl rfl rfl, ?_⟩
 | refine ⟨_, Z7 rfl rfl (by omega), ?_⟩
 | refine ⟨_, Zr rfl rfl rfl rfl rfl rfl, ?_⟩))
      exact Rj 30 rfl (Ri (ends1 hm rfl (.agg [.own 2, .own 4]) ⟨1, 0, _, rfl, rfl, .inr ⟨2, inferInstance, nbT rfl, rfl⟩⟩ (.agg [.row 59 3 ((cdC z (cdT d d.length)).flatMap Vr), .row 3 1 ((cdE d d.length).map RV.int)]) [2, 4] ⟨_, rfl, _, _, [2], [4], rfl, rfl, ⟨2, rfl, rfl, rfl⟩, _, _, [4], [], rfl, rfl, ⟨4, rfl, rfl, rfl⟩, rfl, rfl⟩ (by simp) rfl))
  · rw [decide_eq_false hG] at hv
    rw [cdF_no hG]
    refine Yh Try.func34 rfl _ Try.ntmps34 (by simp) fun C hn hm => ?_
    repeat' (first
 | refine Rk Zu hn rfl ?_
 | refine Rl ?_
 | refine Zc 30 rfl ?_
 | ((first | refine Zg hn rfl rfl rfl ?_ | refine Zm rfl rfl ?_); first
 | refine ⟨_, Zw hv rfl, ?_⟩
 | refine ⟨_, Yj rfl, ?_⟩)
 | (refine Rj 30 rfl ?_; first | refine Zp rfl ?_ | refine Zz rfl ?_ | ((first | refine Zd rfl ?_ ?_ | refine Ze rfl ?_ ?_); · first | omega | rfl | assumption | (simp only [lmT]; omega)) | ((first | refine Zf rfl ?_ ?_ | refine Za rfl ?_ ?_); · first | omega | rfl | assumption | (simp only [lmT]; omega)) | refine Ri (Zt hm rfl rfl ?_) | exact Ri (Zj hm rfl rfl rfl (nbT rfl) rfl rfl))
 | refine Z1 rfl (tl hn rfl) ?_
 | refine Yc rfl rfl rfl rfl (nbT rfl) ?_
 | refine Z6 (tl hn rfl) ?_
 | refine Z3 rfl rfl rfl rfl (nbT rfl) ?_
 | ((first | refine Zg hn rfl rfl rfl ?_ | refine Zm rfl rfl ?_); first
 | refine ⟨_, Zx rfl rfl (by omega), ?_⟩
 | refine ⟨_, Zb rfl rfl (by omega) (by assumption), ?_⟩
 | refine ⟨_, Z4 rfl rfl (by omega), ?_⟩
 | refine ⟨_, Zv rfl rfl rfl, ?_⟩
 | refine ⟨_, Z7 rfl rfl (by omega), ?_⟩
 | refine ⟨_, Zr rfl rfl rfl rfl rfl rfl, ?_⟩))
    refine Rj 30 rfl ?_
    refine Z8 1 0 (e := 59) (sz := 3) (by decide) rfl rfl ?_
    refine Z8 1 1 (e := 3) (sz := 1) (by decide) rfl rfl ?_
    exact Ri (ends1 hm rfl (.agg [.own 2, .own 3]) ⟨1, 0, _, rfl, rfl, .inr ⟨2, inferInstance, nbT rfl, rfl⟩⟩ (.agg [.row 59 3 [], .row 3 1 []]) [2, 3] ⟨_, rfl, _, _, [2], [3], rfl, rfl, ⟨2, rfl, rfl, rfl⟩, _, _, [3], [], rfl, rfl, ⟨3, rfl, rfl, rfl⟩, rfl, rfl⟩ (by simp) rfl)
theorem O3 (e : TypeId) (l : List Ins) : Seals (.row e 3 (l.flatMap Vr)) (Ul l) := Et e 3 l Vr fun x _ => rfl
set_option maxRecDepth 100000
theorem seals_prg (p : Prg) : Seals (.agg [.row 59 3 (p.code.flatMap Vr), .row 3 1 (p.entries.map RV.int)]) (E8 p) := by
  simp only [Seals, E8]
  exact ⟨_, rfl, _, _, rfl, O3 _ _, _, _, rfl, (by
    have h := Ly 3 (p.entries.map RV.int)
    rw [List.map_map] at h
    exact h), rfl⟩
section
variable {C : Ctx} {env : Env} {σ : List Ob} {t : Nat} {ty : TypeId} {pos : String} {after : Array Edge} {gd : Option (Nat × Bool)}
end
theorem big_ac (b : List UInt8) : ACv Try.prog 17 [Yz b] (.bool (decide ((1048576 : Int) < b.length))) := by
  have hlb : (b.map fun z => [RV.u8 z]).length = b.length := lmT ..
  refine Yh Try.func17 rfl _ Try.ntmps17 (by simp) fun C hn hm => ?_
  repeat' (first
 | (refine Zg hn rfl rfl rfl ?_; first
 | refine ⟨_, Z0 b.length rfl hlb, ?_⟩)
 | refine Rk Zu hn rfl ?_
 | refine Rl ?_
 | refine Zc 30 rfl ?_
 | (refine Rj 30 rfl ?_; first | ((first | refine Zd rfl ?_ ?_ | refine Ze rfl ?_ ?_); · first | omega | rfl | assumption | (simp only [lmT]; omega)) | ((first | refine Zf rfl ?_ ?_ | refine Za rfl ?_ ?_); · first | omega | rfl | assumption | (simp only [lmT]; omega)) | refine Ri (Zt hm rfl rfl ?_) | exact Ri (Zj hm rfl rfl rfl (nbT rfl) rfl rfl))
    )
  all_goals exact Yf rfl
theorem kn_at {d : Des} (hG : Ut d) {j : Nat} (hj : j < d.length) : Kn d (j : Int) := ⟨hG, by
  show HasR d j
  exact ⟨by omega, by omega⟩⟩
def fnd (l : List Int) (a : Int) : Int := if a ∈ l then (l.idxOf a : Int) else -1
theorem Oe : ∀ {l : List Int} {j : Nat} {a : Int}, l[j]? = some a → a ∉ l.take j → l.idxOf a = j
  | [], j, a, h, _ => by simp at h
  | x :: l, 0, a, h, _ => by simp at h; subst h; simp
  | x :: l, j + 1, a, h, hn => by
    simp only [List.getElem?_cons_succ] at h
    simp only [List.take_succ_cons, List.mem_cons, not_or] at hn
    rw [List.idxOf_cons]
    have : (x == a) = false := by simpa using fun e => hn.1 e.symm
    rw [this, cond_false, Oe h hn.2]
theorem fnd_yes {l : List Int} {j : Nat} {a : Int} (h : l[j]? = some a) (hn : a ∉ l.take j) : fnd l a = j := by
  unfold fnd
  rw [if_pos (Re h), Oe h hn]
theorem fnd_no {l : List Int} {a : Int} (h : a ∉ l) : fnd l a = -1 := if_neg h
theorem fnd_ge (l : List Int) (a : Int) : (0 ≤ fnd l a) ↔ a ∈ l := by
  unfold fnd
  split
  · rename_i h; exact ⟨fun _ => h, fun _ => by omega⟩
  · rename_i h; exact ⟨fun h' => absurd h' (by omega), fun h' => absurd h' h⟩
theorem place1_ac (p : Prg) (tgt idx blk : Int) (h0 : 0 ≤ blk) (h1 : blk ≤ 9223372036854775806) (hl : p.entries.length ≤ maxLen) :
    ACv Try.prog 147 [.int tgt, .rp [.int idx], .rp [Ul p.code, Xc p.entries], .rp [.int blk]] (.bool (decide (idx < tgt ∧ tgt < endA p blk))) := by
  have he := J0 p blk h0 h1 hl
  refine Yh Try.func147 rfl _ Try.ntmps147 (by simp) fun C hn hm => ?_
  repeat' (first
 | refine Rk Zu hn rfl ?_
 | refine Rl ?_
 | refine Zc 30 rfl ?_
 | (refine Zg hn rfl rfl rfl ?_; first
 | refine ⟨_, Zw he rfl, ?_⟩)
 | (refine Rj 30 rfl ?_; first | ((first | refine Zd rfl ?_ ?_ | refine Ze rfl ?_ ?_); · first | omega | rfl | assumption | (simp only [lmT]; omega)) | ((first | refine Zf rfl ?_ ?_ | refine Za rfl ?_ ?_); · first | omega | rfl | assumption | (simp only [lmT]; omega)) | refine Ri (Zt hm rfl rfl ?_) | exact Ri (Zj hm rfl rfl rfl (nbT rfl) rfl rfl))
 | ((first | refine Zi rfl rfl rfl ?_ ?_ | refine Zh rfl rfl rfl ?_ ?_ | refine Zk rfl rfl rfl ?_ ?_ | refine Zl rfl rfl rfl ?_ ?_) <;> intro h <;> try (exfalso; first | omega | contradiction | (simp only [lmT] at h; omega))))
  all_goals exact Yf (by rw [Bool.eq_iff_iff]; simp [*])
theorem place2_ac (e : Int) (x : Ins) : ACv Try.prog 149 [.int e, .rp (Vr x)] (.bool (decide (e = x.a))) := by
  refine Yh Try.func149 rfl _ Try.ntmps149 (by simp) fun C hn hm => ?_
  repeat' (first
 | refine Rk Zu hn rfl ?_
 | refine Rl ?_
 | refine Zc 30 rfl ?_
 | (refine Rj 30 rfl ?_; first | ((first | refine Zd rfl ?_ ?_ | refine Ze rfl ?_ ?_); · first | omega | rfl | assumption | (simp only [lmT]; omega)) | ((first | refine Zf rfl ?_ ?_ | refine Za rfl ?_ ?_); · first | omega | rfl | assumption | (simp only [lmT]; omega)) | refine Ri (Zt hm rfl rfl ?_) | exact Ri (Zj hm rfl rfl rfl (nbT rfl) rfl rfl))
    )
  exact Yf rfl
set_option maxHeartbeats 4000000 in
theorem Gl (l : List Int) (x : Ins) (hl : l.length ≤ maxLen) : ACA Try.prog 148 [.ro (Xc l), .fn (.func 149) [] [.ro (.rp (Vr x))]] (fun rr => rr = .ro (.int (fnd l x.a))) := by
  have hlm : (l.map fun z => [RV.int z]).length = l.length := lmT ..
  unfold maxLen at hl
  refine G8 Try.func148 rfl _ Try.ntmps148 (by simp) fun C hn hm => ?_
  repeat' (first
 | refine Rk Zu hn rfl ?_
 | refine Rl ?_
 | refine Zc 30 rfl ?_
 | (refine Rj 30 rfl ?_; first | ((first | refine Zd rfl ?_ ?_ | refine Ze rfl ?_ ?_); · first | omega | rfl | assumption | (simp only [lmT]; omega)) | ((first | refine Zf rfl ?_ ?_ | refine Za rfl ?_ ?_); · first | omega | rfl | assumption | (simp only [lmT]; omega)) | refine Z9 rfl (fun h => ?_) (fun h => ?_) | refine Ri (Zt hm rfl rfl ?_) | exact Ri (Zj hm rfl rfl rfl (nbT rfl) rfl rfl))
 | (refine Zg hn rfl rfl rfl ?_; first
 | refine ⟨_, Zx rfl rfl (by omega), ?_⟩
 | refine ⟨_, Zb rfl rfl (by omega) (by assumption), ?_⟩
      ))
  refine Yw 30 rfl (fun j => [(7, .ro (Xc l)), (8, .int (l.length : Int)), (1, .fn (.func 149) [] [.ro (.rp (Vr x))]), (9, .int (j : Int))]) (fun _ => []) (fun j => x.a ∉ l.take j) l.length 0 (Nat.zero_le _) (by simp) ⟨rfl, by simp [look], rfl, rfl, trivial⟩ rfl fun j hj hQ next => ?_
  by_cases hlt : j < l.length
  · obtain ⟨z, hz⟩ : ∃ z, l[(j : Int).toNat]? = some z := ⟨_, P9 hlt⟩
    have hz' : l[j]? = some z := hz
    have h2 := place2_ac z x
    repeat' (first
 | refine Rk Zu hn rfl ?_
 | refine Rl ?_
 | refine Zc 30 rfl ?_
 | (refine Zg hn rfl rfl rfl ?_; first
 | refine ⟨_, K2 rfl h2 (.cons .ro (.cons .ro .nil)), ?_⟩)
 | (refine Rj 30 rfl ?_; first | ((first | refine Zd rfl ?_ ?_ | refine Ze rfl ?_ ?_); · first | omega | rfl | assumption | (simp only [lmT]; omega)) | ((first | refine Zf rfl ?_ ?_ | refine Za rfl ?_ ?_); · first | omega | rfl | assumption | (simp only [lmT]; omega)) | refine Z9 rfl (fun h => ?_) (fun h => ?_) | refine Ri (Zt hm rfl rfl ?_) | exact Ri (Zj hm rfl rfl rfl (nbT rfl) rfl rfl))
 | (refine Zg hn rfl rfl rfl ?_; first
 | refine ⟨_, Zx rfl rfl (by omega), ?_⟩
 | refine ⟨_, Zb rfl rfl (by omega) (by assumption), ?_⟩
        ))
    · exact Xx (fnd_yes (by rw [hz', h]) hQ).symm
    · refine next _ _ ⟨rfl, rfl, rfl, rfl, trivial⟩ hlt ?_ rfl
      rw [List.take_succ_eq_append_getElem hlt, List.mem_append]
      rintro (hm' | hm')
      · exact hQ hm'
      · rw [P9 hlt] at hz'; injection hz' with hz'
        simp only [List.mem_singleton] at hm'
        exact h (by rw [hm', hz'])
  · repeat' (first
 | refine Rk Zu hn rfl ?_
 | refine Rl ?_
 | refine Zc 30 rfl ?_
 | (refine Rj 30 rfl ?_; first | ((first | refine Zd rfl ?_ ?_ | refine Ze rfl ?_ ?_); · first | omega | rfl | assumption | (simp only [lmT]; omega)) | ((first | refine Zf rfl ?_ ?_ | refine Za rfl ?_ ?_); · first | omega | rfl | assumption | (simp only [lmT]; omega)) | refine Z9 rfl (fun h => ?_) (fun h => ?_) | refine Ri (Zt hm rfl rfl ?_) | exact Ri (Zj hm rfl rfl rfl (nbT rfl) rfl rfl))
 | (refine Zg hn rfl rfl rfl ?_; first
 | refine ⟨_, Zx rfl rfl (by omega), ?_⟩
 | refine ⟨_, Zb rfl rfl (by omega) (by assumption), ?_⟩
      ))
    rw [show j = l.length by omega, List.take_length] at hQ
    exact Xx (fnd_no hQ).symm
def Vx (p : Prg) (b : Nat) (k : Int) (x : Ins) : Prop :=
  x.op ≠ 17 ∧ (x.op = 9 → x.a ∈ p.entries.take b) ∧ (x.op = 7 → Q3 p k ∧ k < x.a ∧ x.a < endA p b) ∧ (x.op = 8 → Q3 p (k - 2)) ∧ (x.op = 6 → Q3 p (k + 1)) ∧
  (x.op = 13 → k < x.a ∧ x.a < endA p b) ∧ (x.op = 11 → k < x.b ∧ x.b < endA p b) ∧ (x.op = 14 → Dw p k) ∧ (x.op = 15 → Dw p (k - 2))
noncomputable instance (p : Prg) (b : Nat) (k : Int) (x : Ins) : Decidable (Vx p b k x) := Classical.propDecidable _
set_option maxHeartbeats 16000000 in
theorem Am (p : Prg) (b : Nat) (k : Int) (x : Ins) (hb : b < p.entries.length) (hk : 0 ≤ k ∧ k ≤ 1000) (hx : p.code[k.toNat]? = some x) (hl : p.entries.length ≤ maxLen) :
    ACv Try.prog 107 [E8 p, .int (b : Int), .int k] (.bool (decide (Vx p b k x))) := by
  have hlm : (p.entries.map fun z => [RV.int z]).length = p.entries.length := lmT ..
  have hl' := hl
  unfold maxLen at hl'
  have p1 := fun tgt => place1_ac p tgt k b (by omega) (by omega) hl
  have hf := Gl (p.entries.take b) x (by rw [List.length_take]; unfold maxLen; omega)
  have hge := fnd_ge (p.entries.take b) x.a
  have l1 := Jo p k ⟨by omega, by omega⟩
  have l2 := Jo p (k - 2) ⟨by omega, by omega⟩
  have l3 := Jo p (k + 1) ⟨by omega, by omega⟩
  have m1 := Nq p k ⟨by omega, by omega⟩
  have m2 := Nq p (k - 2) ⟨by omega, by omega⟩
  refine Yh Try.func107 rfl _ Try.ntmps107 (by simp) fun C hn hm => ?_
  by_cases k17 : x.op = 17
  · repeat' (first
 | refine Rk Zu hn rfl ?_
 | refine Rl ?_
 | refine Zc 30 rfl ?_
 | (refine Zg hn rfl rfl rfl ?_; first
 | refine ⟨_, Xo, ?_⟩)
 | (refine Rj 30 rfl ?_; first | ((first | refine Zd rfl ?_ ?_ | refine Ze rfl ?_ ?_); · first | omega | rfl | assumption | (simp only [lmT]; omega)) | ((first | refine Zf rfl ?_ ?_ | refine Za rfl ?_ ?_); · first | omega | rfl | assumption | (simp only [lmT]; omega)) | refine Ri (Zt hm rfl rfl ?_) | exact Ri (Zj hm rfl rfl rfl (nbT rfl) rfl rfl))
 | refine Z1 rfl (tl hn rfl) ?_
 | refine Z6 (tl hn rfl) ?_
 | refine Z3 rfl rfl rfl rfl (nbT rfl) ?_
 | (refine Zg hn rfl rfl rfl ?_; first
 | refine ⟨_, Zx rfl rfl (by omega), ?_⟩
 | refine ⟨_, Zb rfl rfl (by omega) (by assumption), ?_⟩
 | refine ⟨_, Z4 rfl rfl (by omega), ?_⟩
      )
 | ((first | refine Zi rfl rfl rfl ?_ ?_ | refine Zh rfl rfl rfl ?_ ?_ | refine Zk rfl rfl rfl ?_ ?_ | refine Zl rfl rfl rfl ?_ ?_) <;> intro h <;> try (exfalso; first | omega | contradiction | (simp only [lmT] at h; omega))))
    all_goals exact Yf (by rw [Bool.eq_iff_iff]; simp [Vx, *])
  by_cases k9 : x.op = 9
  · repeat' (first
 | refine Rk Zu hn rfl ?_
 | refine Rl ?_
 | refine Zc 30 rfl ?_
 | (refine Zg hn rfl rfl rfl ?_; first
 | refine ⟨_, Xo, ?_⟩
 | refine ⟨_, Uc rfl rfl (by omega) (by omega), ?_⟩
 | refine ⟨_, Iz hf (.cons (Lt Lends.ro) (.cons (LendsA.fn .nil (.cons (Lt (Lends.obj rfl (.cons .ro (.cons .ro (.cons .ro .nil))))) .nil)) .nil)), ?_⟩)
 | (refine Rj 30 rfl ?_; first | ((first | refine Zd rfl ?_ ?_ | refine Ze rfl ?_ ?_); · first | omega | rfl | assumption | (simp only [lmT]; omega)) | ((first | refine Zf rfl ?_ ?_ | refine Za rfl ?_ ?_); · first | omega | rfl | assumption | (simp only [lmT]; omega)) | refine Ri (Zt hm rfl rfl ?_) | exact Ri (Zj hm rfl rfl rfl (nbT rfl) rfl rfl))
 | refine Z1 rfl (tl hn rfl) ?_
 | refine Z6 (tl hn rfl) ?_
 | refine Z3 rfl rfl rfl rfl (nbT rfl) ?_
 | (refine Zg hn rfl rfl rfl ?_; first
 | refine ⟨_, Zx rfl rfl (by omega), ?_⟩
 | refine ⟨_, Zb rfl rfl (by omega) (by assumption), ?_⟩
 | refine ⟨_, Z4 rfl rfl (by omega), ?_⟩
      )
 | ((first | refine Zi rfl rfl rfl ?_ ?_ | refine Zh rfl rfl rfl ?_ ?_ | refine Zk rfl rfl rfl ?_ ?_ | refine Zl rfl rfl rfl ?_ ?_) <;> intro h <;> try (exfalso; first | omega | contradiction | (simp only [lmT] at h; omega))))
    all_goals exact Yf (by rw [Bool.eq_iff_iff]; simp [Vx, *])
  by_cases k7 : x.op = 7
  · repeat' (first
 | refine Rk Zu hn rfl ?_
 | refine Rl ?_
 | refine Zc 30 rfl ?_
 | (refine Zg hn rfl rfl rfl ?_; first
 | refine ⟨_, Xo, ?_⟩
 | refine ⟨_, Zw l1 rfl, ?_⟩
 | refine ⟨_, K2 rfl (p1 _) (.cons .ro (.cons (Lends.obj rfl (.cons .ro .nil)) (.cons (Lends.obj rfl (.cons .ro (.cons .ro .nil))) (.cons (Lends.obj rfl (.cons .ro .nil)) .nil)))), ?_⟩)
 | (refine Rj 30 rfl ?_; first | ((first | refine Zd rfl ?_ ?_ | refine Ze rfl ?_ ?_); · first | omega | rfl | assumption | (simp only [lmT]; omega)) | ((first | refine Zf rfl ?_ ?_ | refine Za rfl ?_ ?_); · first | omega | rfl | assumption | (simp only [lmT]; omega)) | refine Ri (Zt hm rfl rfl ?_) | exact Ri (Zj hm rfl rfl rfl (nbT rfl) rfl rfl))
 | refine Z1 rfl (tl hn rfl) ?_
 | refine Z6 (tl hn rfl) ?_
 | refine Z3 rfl rfl rfl rfl (nbT rfl) ?_
 | (refine Zg hn rfl rfl rfl ?_; first
 | refine ⟨_, Zx rfl rfl (by omega), ?_⟩
 | refine ⟨_, Zb rfl rfl (by omega) (by assumption), ?_⟩
 | refine ⟨_, Z4 rfl rfl (by omega), ?_⟩
      )
 | ((first | refine Zi rfl rfl rfl ?_ ?_ | refine Zh rfl rfl rfl ?_ ?_ | refine Zk rfl rfl rfl ?_ ?_ | refine Zl rfl rfl rfl ?_ ?_) <;> intro h <;> try (exfalso; first | omega | contradiction | (simp only [lmT] at h; omega))))
    all_goals exact Yf (by rw [Bool.eq_iff_iff]; simp [Vx, *])
  by_cases k8 : x.op = 8
  · repeat' (first
 | refine Rk Zu hn rfl ?_
 | refine Rl ?_
 | refine Zc 30 rfl ?_
 | (refine Zg hn rfl rfl rfl ?_; first
 | refine ⟨_, Xo, ?_⟩
 | refine ⟨_, Zw l2 rfl, ?_⟩)
 | (refine Rj 30 rfl ?_; first | ((first | refine Zd rfl ?_ ?_ | refine Ze rfl ?_ ?_); · first | omega | rfl | assumption | (simp only [lmT]; omega)) | ((first | refine Zf rfl ?_ ?_ | refine Za rfl ?_ ?_); · first | omega | rfl | assumption | (simp only [lmT]; omega)) | refine Ri (Zt hm rfl rfl ?_) | exact Ri (Zj hm rfl rfl rfl (nbT rfl) rfl rfl))
 | refine Z1 rfl (tl hn rfl) ?_
 | refine Z6 (tl hn rfl) ?_
 | refine Z3 rfl rfl rfl rfl (nbT rfl) ?_
 | (refine Zg hn rfl rfl rfl ?_; first
 | refine ⟨_, Zx rfl rfl (by omega), ?_⟩
 | refine ⟨_, Zb rfl rfl (by omega) (by assumption), ?_⟩
 | refine ⟨_, Z4 rfl rfl (by omega), ?_⟩
      )
 | ((first | refine Zi rfl rfl rfl ?_ ?_ | refine Zh rfl rfl rfl ?_ ?_ | refine Zk rfl rfl rfl ?_ ?_ | refine Zl rfl rfl rfl ?_ ?_) <;> intro h <;> try (exfalso; first | omega | contradiction | (simp only [lmT] at h; omega))))
    all_goals exact Yf (by rw [Bool.eq_iff_iff]; simp [Vx, *])
  by_cases k6 : x.op = 6
  · repeat' (first
 | refine Rk Zu hn rfl ?_
 | refine Rl ?_
 | refine Zc 30 rfl ?_
 | (refine Zg hn rfl rfl rfl ?_; first
 | refine ⟨_, Xo, ?_⟩
 | refine ⟨_, Zw l3 rfl, ?_⟩)
 | (refine Rj 30 rfl ?_; first | ((first | refine Zd rfl ?_ ?_ | refine Ze rfl ?_ ?_); · first | omega | rfl | assumption | (simp only [lmT]; omega)) | ((first | refine Zf rfl ?_ ?_ | refine Za rfl ?_ ?_); · first | omega | rfl | assumption | (simp only [lmT]; omega)) | refine Ri (Zt hm rfl rfl ?_) | exact Ri (Zj hm rfl rfl rfl (nbT rfl) rfl rfl))
 | refine Z1 rfl (tl hn rfl) ?_
 | refine Z6 (tl hn rfl) ?_
 | refine Z3 rfl rfl rfl rfl (nbT rfl) ?_
 | (refine Zg hn rfl rfl rfl ?_; first
 | refine ⟨_, Zx rfl rfl (by omega), ?_⟩
 | refine ⟨_, Zb rfl rfl (by omega) (by assumption), ?_⟩
 | refine ⟨_, Z4 rfl rfl (by omega), ?_⟩
      )
 | ((first | refine Zi rfl rfl rfl ?_ ?_ | refine Zh rfl rfl rfl ?_ ?_ | refine Zk rfl rfl rfl ?_ ?_ | refine Zl rfl rfl rfl ?_ ?_) <;> intro h <;> try (exfalso; first | omega | contradiction | (simp only [lmT] at h; omega))))
    all_goals exact Yf (by rw [Bool.eq_iff_iff]; simp [Vx, *])
  by_cases k13 : x.op = 13
  · repeat' (first
 | refine Rk Zu hn rfl ?_
 | refine Rl ?_
 | refine Zc 30 rfl ?_
 | (refine Zg hn rfl rfl rfl ?_; first
 | refine ⟨_, Xo, ?_⟩
 | refine ⟨_, K2 rfl (p1 _) (.cons .ro (.cons (Lends.obj rfl (.cons .ro .nil)) (.cons (Lends.obj rfl (.cons .ro (.cons .ro .nil))) (.cons (Lends.obj rfl (.cons .ro .nil)) .nil)))), ?_⟩)
 | (refine Rj 30 rfl ?_; first | ((first | refine Zd rfl ?_ ?_ | refine Ze rfl ?_ ?_); · first | omega | rfl | assumption | (simp only [lmT]; omega)) | ((first | refine Zf rfl ?_ ?_ | refine Za rfl ?_ ?_); · first | omega | rfl | assumption | (simp only [lmT]; omega)) | refine Ri (Zt hm rfl rfl ?_) | exact Ri (Zj hm rfl rfl rfl (nbT rfl) rfl rfl))
 | refine Z1 rfl (tl hn rfl) ?_
 | refine Z6 (tl hn rfl) ?_
 | refine Z3 rfl rfl rfl rfl (nbT rfl) ?_
 | (refine Zg hn rfl rfl rfl ?_; first
 | refine ⟨_, Zx rfl rfl (by omega), ?_⟩
 | refine ⟨_, Zb rfl rfl (by omega) (by assumption), ?_⟩
 | refine ⟨_, Z4 rfl rfl (by omega), ?_⟩
      )
 | ((first | refine Zi rfl rfl rfl ?_ ?_ | refine Zh rfl rfl rfl ?_ ?_ | refine Zk rfl rfl rfl ?_ ?_ | refine Zl rfl rfl rfl ?_ ?_) <;> intro h <;> try (exfalso; first | omega | contradiction | (simp only [lmT] at h; omega))))
    all_goals exact Yf (by rw [Bool.eq_iff_iff]; simp [Vx, *])
  by_cases k11 : x.op = 11
  · repeat' (first
 | refine Rk Zu hn rfl ?_
 | refine Rl ?_
 | refine Zc 30 rfl ?_
 | (refine Zg hn rfl rfl rfl ?_; first
 | refine ⟨_, Xo, ?_⟩
 | refine ⟨_, K2 rfl (p1 _) (.cons .ro (.cons (Lends.obj rfl (.cons .ro .nil)) (.cons (Lends.obj rfl (.cons .ro (.cons .ro .nil))) (.cons (Lends.obj rfl (.cons .ro .nil)) .nil)))), ?_⟩)
 | (refine Rj 30 rfl ?_; first | ((first | refine Zd rfl ?_ ?_ | refine Ze rfl ?_ ?_); · first | omega | rfl | assumption | (simp only [lmT]; omega)) | ((first | refine Zf rfl ?_ ?_ | refine Za rfl ?_ ?_); · first | omega | rfl | assumption | (simp only [lmT]; omega)) | refine Ri (Zt hm rfl rfl ?_) | exact Ri (Zj hm rfl rfl rfl (nbT rfl) rfl rfl))
 | refine Z1 rfl (tl hn rfl) ?_
 | refine Z6 (tl hn rfl) ?_
 | refine Z3 rfl rfl rfl rfl (nbT rfl) ?_
 | (refine Zg hn rfl rfl rfl ?_; first
 | refine ⟨_, Zx rfl rfl (by omega), ?_⟩
 | refine ⟨_, Zb rfl rfl (by omega) (by assumption), ?_⟩
 | refine ⟨_, Z4 rfl rfl (by omega), ?_⟩
      )
 | ((first | refine Zi rfl rfl rfl ?_ ?_ | refine Zh rfl rfl rfl ?_ ?_ | refine Zk rfl rfl rfl ?_ ?_ | refine Zl rfl rfl rfl ?_ ?_) <;> intro h <;> try (exfalso; first | omega | contradiction | (simp only [lmT] at h; omega))))
    all_goals exact Yf (by rw [Bool.eq_iff_iff]; simp [Vx, *])
  by_cases k14 : x.op = 14
  · repeat' (first
 | refine Rk Zu hn rfl ?_
 | refine Rl ?_
 | refine Zc 30 rfl ?_
 | (refine Zg hn rfl rfl rfl ?_; first
 | refine ⟨_, Xo, ?_⟩
 | refine ⟨_, Zw m1 rfl, ?_⟩)
 | (refine Rj 30 rfl ?_; first | ((first | refine Zd rfl ?_ ?_ | refine Ze rfl ?_ ?_); · first | omega | rfl | assumption | (simp only [lmT]; omega)) | ((first | refine Zf rfl ?_ ?_ | refine Za rfl ?_ ?_); · first | omega | rfl | assumption | (simp only [lmT]; omega)) | refine Ri (Zt hm rfl rfl ?_) | exact Ri (Zj hm rfl rfl rfl (nbT rfl) rfl rfl))
 | refine Z1 rfl (tl hn rfl) ?_
 | refine Z6 (tl hn rfl) ?_
 | refine Z3 rfl rfl rfl rfl (nbT rfl) ?_
 | (refine Zg hn rfl rfl rfl ?_; first
 | refine ⟨_, Zx rfl rfl (by omega), ?_⟩
 | refine ⟨_, Zb rfl rfl (by omega) (by assumption), ?_⟩
 | refine ⟨_, Z4 rfl rfl (by omega), ?_⟩
      )
 | ((first | refine Zi rfl rfl rfl ?_ ?_ | refine Zh rfl rfl rfl ?_ ?_ | refine Zk rfl rfl rfl ?_ ?_ | refine Zl rfl rfl rfl ?_ ?_) <;> intro h <;> try (exfalso; first | omega | contradiction | (simp only [lmT] at h; omega))))
    all_goals exact Yf (by rw [Bool.eq_iff_iff]; simp [Vx, *])
  by_cases k15 : x.op = 15
  · repeat' (first
 | refine Rk Zu hn rfl ?_
 | refine Rl ?_
 | refine Zc 30 rfl ?_
 | (refine Zg hn rfl rfl rfl ?_; first
 | refine ⟨_, Xo, ?_⟩
 | refine ⟨_, Zw m2 rfl, ?_⟩)
 | (refine Rj 30 rfl ?_; first | ((first | refine Zd rfl ?_ ?_ | refine Ze rfl ?_ ?_); · first | omega | rfl | assumption | (simp only [lmT]; omega)) | ((first | refine Zf rfl ?_ ?_ | refine Za rfl ?_ ?_); · first | omega | rfl | assumption | (simp only [lmT]; omega)) | refine Ri (Zt hm rfl rfl ?_) | exact Ri (Zj hm rfl rfl rfl (nbT rfl) rfl rfl))
 | refine Z1 rfl (tl hn rfl) ?_
 | refine Z6 (tl hn rfl) ?_
 | refine Z3 rfl rfl rfl rfl (nbT rfl) ?_
 | (refine Zg hn rfl rfl rfl ?_; first
 | refine ⟨_, Zx rfl rfl (by omega), ?_⟩
 | refine ⟨_, Zb rfl rfl (by omega) (by assumption), ?_⟩
 | refine ⟨_, Z4 rfl rfl (by omega), ?_⟩
      )
 | ((first | refine Zi rfl rfl rfl ?_ ?_ | refine Zh rfl rfl rfl ?_ ?_ | refine Zk rfl rfl rfl ?_ ?_ | refine Zl rfl rfl rfl ?_ ?_) <;> intro h <;> try (exfalso; first | omega | contradiction | (simp only [lmT] at h; omega))))
    all_goals exact Yf (by rw [Bool.eq_iff_iff]; simp [Vx, *])
  · repeat' (first
 | refine Rk Zu hn rfl ?_
 | refine Rl ?_
 | refine Zc 30 rfl ?_
 | (refine Zg hn rfl rfl rfl ?_; first
 | refine ⟨_, Xo, ?_⟩)
 | (refine Rj 30 rfl ?_; first | ((first | refine Zd rfl ?_ ?_ | refine Ze rfl ?_ ?_); · first | omega | rfl | assumption | (simp only [lmT]; omega)) | ((first | refine Zf rfl ?_ ?_ | refine Za rfl ?_ ?_); · first | omega | rfl | assumption | (simp only [lmT]; omega)) | refine Ri (Zt hm rfl rfl ?_) | exact Ri (Zj hm rfl rfl rfl (nbT rfl) rfl rfl))
 | refine Z1 rfl (tl hn rfl) ?_
 | refine Z6 (tl hn rfl) ?_
 | refine Z3 rfl rfl rfl rfl (nbT rfl) ?_
 | (refine Zg hn rfl rfl rfl ?_; first
 | refine ⟨_, Zx rfl rfl (by omega), ?_⟩
 | refine ⟨_, Zb rfl rfl (by omega) (by assumption), ?_⟩
 | refine ⟨_, Z4 rfl rfl (by omega), ?_⟩
      )
 | ((first | refine Zi rfl rfl rfl ?_ ?_ | refine Zh rfl rfl rfl ?_ ?_ | refine Zk rfl rfl rfl ?_ ?_ | refine Zl rfl rfl rfl ?_ ?_) <;> intro h <;> try (exfalso; first | omega | contradiction | (simp only [lmT] at h; omega))))
    all_goals exact Yf (by rw [Bool.eq_iff_iff]; simp [Vx, *])
def PlaceS (p : Prg) (k s e : Int) (x : Ins) : Prop :=
  x.op ≠ 17 ∧ (x.op = 9 → ∃ j : Nat, p.entries[j]? = some x.a ∧ ∀ (i : Nat) y, i ≤ j → p.entries[i]? = some y → y < s) ∧ (x.op = 6 → Q3 p (k + 1) ∧ k + 4 < e) ∧ (x.op = 7 → Q3 p k ∧ s ≤ k - 1 ∧ k + 3 < e) ∧ (x.op = 8 → Q3 p (k - 2) ∧ s ≤ k - 3) ∧
  (x.op = 13 → k + 1 ≤ x.a ∧ x.a ≤ e - 1) ∧ (x.op = 11 → k + 1 ≤ x.b ∧ x.b ≤ e - 1) ∧ (x.op = 14 → opA p (k + 1) = 9 ∧ opA p (k + 2) = 15 ∧ k + 2 < e) ∧ (x.op = 15 → opA p (k - 1) = 9 ∧ opA p (k - 2) = 14 ∧ s ≤ k - 2)
noncomputable instance (p : Prg) (k s e : Int) (x : Ins) : Decidable (PlaceS p k s e x) := Classical.propDecidable _
structure FrameP (p : Prg) : Prop where
  len : p.code.length ≤ 700
  first : p.entries[0]? = some 2
  op0 : opA p 0 = 9
  op1 : opA p 1 = 17
  last : p.entries[p.entries.length - 1]? = some (aA p 0)
  ins : ∀ i : Nat, i < p.code.length → T7 p i
  rise : ∀ (i : Nat) y z, p.entries[i]? = some y → p.entries[i + 1]? = some z → y < z
def Kq (p : Prg) : Prop := FrameP p ∧ ∀ (b : Nat) e, p.entries[b]? = some e → opA p (endA p b - 1) = 10 ∧ ∀ (k : Int) x, e ≤ k → k < endA p b → p.code[k.toNat]? = some x → Vx p b k x
def SafeS (p : Prg) : Prop := FrameP p ∧ (∀ (i : Nat) z, p.entries[i + 1]? = some z → z < p.code.length) ∧ ∀ (b : Nat) e, p.entries[b]? = some e → e < endA p b ∧ opA p (endA p b - 1) = 10 ∧ ∀ (k : Int) x, e ≤ k → k < endA p b → p.code[k.toNat]? = some x → PlaceS p k e (endA p b) x
noncomputable instance (p : Prg) : Decidable (Kq p) := Classical.propDecidable _
noncomputable instance (p : Prg) : Decidable (SafeS p) := Classical.propDecidable _
section
variable {p : Prg}
theorem FrameP.mono (h : FrameP p) : ∀ (j i : Nat) y z, i < j → p.entries[i]? = some y → p.entries[j]? = some z → y < z
  | 0, i, y, z, hij, _, _ => by omega
  | j + 1, i, y, z, hij, hy, hz => by
    have hj : j < p.entries.length := by have := (P8.1 hz).1; omega
    have hm := P9 hj
    have h1 := h.rise j _ z hm hz
    by_cases e : i = j
    · subst e; rw [hy] at hm; injection hm with hm; omega
    · have := h.mono j i y _ (by omega) hy hm; omega
theorem FrameP.two (h : FrameP p) {b : Nat} {e : Int} (he : p.entries[b]? = some e) : 2 ≤ e := by
  by_cases hb : b = 0
  · subst hb; rw [h.first] at he; injection he with he; omega
  · have := h.mono b 0 2 e (by omega) h.first he; omega
theorem FrameP.lt (h : FrameP p) {b : Nat} {e : Int} (he : p.entries[b]? = some e) : e < p.code.length := by
  have hi := N3 (p := p) (i := 0) (by rw [h.op0]; decide)
  obtain ⟨x, hx⟩ := Tr hi
  have hs := (V6 hx).1 (h.ins 0 (by have := hi.2; omega))
  have ho := N4 (Int.le_refl 0) hx
  have ha := In (Int.le_refl 0) hx
  rw [h.op0] at ho
  have hl := hs.2.2.1 (by omega)
  have hla := h.last
  have hbl := (P8.1 he).1
  by_cases hb : b = p.entries.length - 1
  · subst hb; rw [hla] at he; injection he with he; omega
  · have := h.mono _ b e _ (by omega) he hla; omega
theorem Qk {b : Nat} {z : Int} (h : p.entries[b + 1]? = some z) : endA p b = z := by
  unfold endA
  rw [show ((b : Int) + 1).toNat = b + 1 by omega, h]
theorem Ki {b : Nat} (h : p.entries[b + 1]? = none) : endA p b = p.code.length := by
  unfold endA
  rw [show ((b : Int) + 1).toNat = b + 1 by omega, h]
theorem FrameP.lt_end (h : FrameP p) {b : Nat} {e : Int} (he : p.entries[b]? = some e) : e < endA p b := by
  cases hz : p.entries[b + 1]? with
  | some z => rw [Qk hz]; exact h.rise b e z he hz
  | none => rw [Ki hz]; exact h.lt he
theorem FrameP.end_le (h : FrameP p) (b : Nat) : endA p b ≤ p.code.length := by
  cases hz : p.entries[b + 1]? with
  | some z => rw [Qk hz]; exact Int.le_of_lt (h.lt hz)
  | none => rw [Ki hz]; exact Int.le_refl _
end
noncomputable def stA (d : Des) (j : Nat) : Nat := (cdT d j).length + 2
noncomputable def blk (d : Des) (j : Nat) : List Ins := cmpL d j (stA d j : Nat) (cdE d j)
theorem W2 (d : Des) (j : Nat) : stA d (j + 1) = stA d j + (blk d j).length := by
  unfold stA blk
  rw [cdT, Ra]
  unfold stA
  omega
theorem Ot (d : Des) : ∀ n j : Nat, j < n → (cdE d n)[j]? = some (stA d j : Int)
  | 0, j, h => by omega
  | n + 1, j, h => by
    rw [cdE]
    by_cases e : j = n
    · subst e
      rw [Rh (by rw [Vt]; exact Nat.le_refl _), Vt, Nat.sub_self]; rfl
    · rw [Rg (by rw [Vt]; omega)]
      exact Ot d n j (by omega)
theorem cdE_out (d : Des) (n j : Nat) (h : n ≤ j) : (cdE d n)[j]? = none := List.getElem?_eq_none (by rw [Vt]; exact h)
theorem cdT_at (d : Des) : ∀ n j i : Nat, j < n → i < (blk d j).length → (cdT d n)[(cdT d j).length + i]? = (blk d j)[i]?
  | 0, j, i, h, _ => by omega
  | n + 1, j, i, h, hi => by
    rw [cdT]
    by_cases e : j = n
    · subst e
      rw [Rh (by omega), Nat.add_sub_cancel_left]
      rfl
    · have hle : (cdT d j).length + (blk d j).length ≤ (cdT d n).length := by
        have h1 : ∀ m, j + 1 ≤ m → (cdT d (j + 1)).length ≤ (cdT d m).length := fun m hm => by
          induction m with
          | zero => omega
          | succ m ih =>
            have hmm : (cdT d m).length ≤ (cdT d (m + 1)).length := by rw [cdT, Ra]; omega
            rcases Nat.lt_or_ge j m with h | h
            · have := ih (by omega); omega
            · obtain rfl : m = j := by omega
              exact Nat.le_refl _
        have h2 := h1 n (by omega)
        have h3 := W2 d j
        unfold stA at h3
        omega
      rw [Rg (by omega)]
      exact cdT_at d n j i (by omega) hi
section
variable {d : Des} (hD : DrawD d)
include hD
theorem Nb {j : Nat} {x : Rul} (hx : d[j]? = some x) : blk d j = Xm x (stA d j : Nat) (cdE d j) := by
  have hj := (P8.1 hx).1
  unfold blk
  exact B0 ⟨kn_at hD.good hj, by rw [Vt]; omega⟩ (by simpa using hx)
theorem Lo : (cdF d).entries = cdE d d.length := by rw [Ij hD.good]
theorem Jz {j : Nat} (hj : j < d.length) : (cdF d).entries[j]? = some (stA d j : Int) := by rw [Lo hD]; exact Ot d _ j hj
theorem Qw : (cdF d).entries.length = d.length := by rw [Lo hD, Vt]
theorem V4 : (cdF d).code = cdC (stA d (d.length - 1) : Int) (cdT d d.length) := by
  have := hD.pos
  rw [Ij hD.good]
  show cdC _ _ = _
  rw [Ot d d.length (d.length - 1) (by omega)]; rfl
theorem Qm : (cdF d).code.length = stA d d.length := by rw [V4 hD, B2]; rfl
theorem cdF_at {j i : Nat} (hj : j < d.length) (hi : i < (blk d j).length) : (cdF d).code[stA d j + i]? = (blk d j)[i]? := by
  rw [V4 hD, ← cdT_at d d.length j i hj hi]
  unfold stA cdC
  rw [show (cdT d j).length + 2 + i = ((cdT d j).length + i) + 1 + 1 by omega, List.getElem?_cons_succ, List.getElem?_cons_succ]
theorem end_at {j : Nat} (hj : j < d.length) : endA (cdF d) j = (stA d j : Int) + ((blk d j).length : Int) := by
  have h1 := W2 d j
  by_cases e : j + 1 < d.length
  · rw [Qk (Jz hD e)]; omega
  · rw [Ki (by rw [Lo hD]; exact cdE_out d _ _ (by omega)), Qm hD, show d.length = j + 1 by omega]; omega
end
structure Loc (s : Int) (en : List Int) (L : List Ins) (i : Nat) (x : Ins) : Prop where
  ok : Mq x
  no17 : x.op ≠ 17
  goes : Goes x.op → i + 1 < L.length
  call : x.op = 9 → x.a ∈ en
  loop : x.op = 7 → ∃ m y z w, i = m + 1 ∧ L[m]? = some y ∧ y.op = 6 ∧ L[m + 2]? = some z ∧ z.op = 9 ∧ L[m + 3]? = some w ∧ w.op = 8 ∧ w.a = s + i ∧ x.a = s + i + 3 ∧ i + 3 < L.length
  push : x.op = 6 → ∃ y, L[i + 1]? = some y ∧ y.op = 7
  jump : x.op = 8 → ∃ m y, i = m + 2 ∧ L[m]? = some y ∧ y.op = 7
  flag : x.op = 13 → s + i < x.a ∧ x.a < s + L.length
  tag : x.op = 11 → s + i < x.b ∧ x.b < s + L.length
  mark : x.op = 14 → ∃ y z, L[i + 1]? = some y ∧ y.op = 9 ∧ L[i + 2]? = some z ∧ z.op = 15
  sum : x.op = 15 → ∃ m y, i = m + 2 ∧ L[m]? = some y ∧ y.op = 14
theorem call_mem {en : List Int} {z : Int} (h : 0 ≤ z ∧ z < en.length) : (Xa en z).a ∈ en := by
  unfold Xa
  obtain ⟨e, he⟩ : ∃ e, en[z.toNat]? = some e := ⟨_, P9 (by omega)⟩
  rw [he]
  exact Re he
theorem Uy {s : Int} {en : List Int} {L : List Ins} {i : Nat} {z : Int} (h : 0 ≤ z ∧ z < en.length) (hi : i + 1 < L.length) : Loc s en L i (Xa en z) where
  ok := by simp [Mq, Xa, InR]
  no17 := by simp [Xa]
  goes := fun _ => hi
  call := fun _ => call_mem h
  loop := fun e => by simp [Xa] at e
  push := fun e => by simp [Xa] at e
  jump := fun e => by simp [Xa] at e
  flag := fun e => by simp [Xa] at e
  tag := fun e => by simp [Xa] at e
  mark := fun e => by simp [Xa] at e
  sum := fun e => by simp [Xa] at e
theorem Ux {s : Int} {en : List Int} {L : List Ins} {i : Nat} {x : Ins} (ok : Mq x) (hop : x.op = 1 ∨ x.op = 2 ∨ x.op = 3 ∨ x.op = 4 ∨ x.op = 5 ∨ x.op = 10 ∨ x.op = 12 ∨ x.op = 16) (hi : Goes x.op → i + 1 < L.length) : Loc s en L i x where
  ok := ok
  no17 := by omega
  goes := hi
  call := fun e => by omega
  loop := fun e => by omega
  push := fun e => by omega
  jump := fun e => by omega
  flag := fun e => by omega
  tag := fun e => by omega
  mark := fun e => by omega
  sum := fun e => by omega
theorem Ui {s : Int} {en : List Int} {L : List Ins} {i : Nat} : Loc s en L i ⟨10, 0, 0⟩ := Ux (by simp [Mq, InR]) (by simp) (fun h => by simp [Goes] at h)
def AllI (P : Nat → Ins → Prop) : Nat → List Ins → Prop
  | _, [] => True
  | n, a :: l => P n a ∧ AllI P (n + 1) l
theorem AllI.at_ {P : Nat → Ins → Prop} : ∀ {l : List Ins} {n i : Nat} {y : Ins}, AllI P n l → l[i]? = some y → P (n + i) y
  | [], n, i, y, _, h => by simp at h
  | a :: l, n, 0, y, h, e => by simp at e; subst e; exact h.1
  | a :: l, n, i + 1, y, h, e => by
    simp at e
    have := AllI.at_ h.2 e
    rwa [show n + 1 + i = n + (i + 1) by omega] at this
theorem T6 {P : Nat → Ins → Prop} : ∀ (l : List Ins) (n : Nat), (∀ (i : Nat) y, l[i]? = some y → P (n + i) y) → AllI P n l
  | [], _, _ => trivial
  | a :: l, n, h => ⟨h 0 a rfl, T6 l (n + 1) fun i y e => by
    have := h (i + 1) y (by simpa using e)
    rwa [show n + (i + 1) = n + 1 + i by omega] at this⟩
theorem Lr {P : Nat → Ins → Prop} : ∀ {a b : List Ins} {n : Nat}, AllI P n a → AllI P (n + a.length) b → AllI P n (a ++ b)
  | [], b, n, _, h => h
  | x :: a, b, n, h1, h2 => ⟨h1.1, Lr h1.2 (by rwa [show n + 1 + a.length = n + (x :: a).length by simp; omega])⟩
theorem G3 {tags : List Int} {first : Int} {j i : Nat} {y : Ins} (h : (Ql tags first j)[i]? = some y) : i < j ∧ y = ⟨11, (tags[i]?).getD 0, w64 (first + 2 * (i : Int))⟩ := by
  unfold Ql at h
  have hi := (P8.1 h).1
  simp at hi
  rw [List.getElem?_map, List.getElem?_range hi] at h
  simp at h
  exact ⟨hi, h.symm⟩
theorem Mo (kids en : List Int) : ∀ j : Nat, (X5 kids en (j + 1)).length = 2 * j + 1
  | 0 => by simp [X5]
  | j + 1 => by
    have h := Mo kids en j
    unfold X5 at h ⊢
    rw [List.range_succ, List.flatMap_append, List.flatMap_singleton, Ra, h]
    simp; omega
theorem T3 {kids en : List Int} {n : Nat} (hk : ∀ z ∈ kids, 0 ≤ z ∧ z < n) : ∀ j : Nat, j < kids.length → ∀ y ∈ X5 kids en j, y = ⟨10, 0, 0⟩ ∨ ∃ z : Int, 0 ≤ z ∧ z < n ∧ y = Xa en z
  | 0, _, y, h => by simp [X5] at h
  | j + 1, hj, y, h => by
    obtain ⟨z, hz⟩ : ∃ z, kids[j + 1]? = some z := ⟨_, P9 hj⟩
    rw [Mn hz] at h
    rcases List.mem_append.1 h with h | h
    · exact T3 hk j (by omega) y h
    · rcases List.mem_append.1 h with h | h
      · split at h
        · simp at h
        · simp at h; exact .inl h
      · simp at h
        have := hk z (Re hz)
        exact .inr ⟨z, this.1, this.2, h⟩
set_option maxHeartbeats 2000000 in
theorem rule_loc {d : Des} (hD : DrawD d) {j : Nat} {x : Rul} (hx : d[j]? = some x) (s : Int) (hs : 0 ≤ s ∧ s ≤ 1000000) (en : List Int) (hen : en.length = j) : ∀ (i : Nat) y, (Xm x s en)[i]? = some y → Loc s en (Xm x s en) i y := by
  have hkid := hD.kid hx
  obtain ⟨k', k1, k2, hr, hk', _, _⟩ := hD.kinds hx
  have hlen := hD.lens hx
  have hG := hD.good
  have hkd : ∀ z ∈ x.kids, 0 ≤ z ∧ z < en.length := fun z hz => by rw [hen]; exact hkid z hz
  suffices h : AllI (fun i y => Loc s en (Xm x s en) i y) 0 (Xm x s en) by
    intro i y hy
    have := h.at_ hy
    rwa [Nat.zero_add] at this
  have hrl : ∀ l : List Ins, Xe x s en = l → (Xm x s en).length = l.length + 1 := fun l e => by unfold Xm; rw [e]; simp
  by_cases e1 : x.kind = 1
  · have e : Xe x s en = [⟨1, x.size, if x.little = true then 1 else 0⟩] := by unfold Xe; rw [if_pos e1]
    have hl := hrl _ e
    have hz := hr.hsize.1 (by omega)
    have hrw : Xm x s en = [⟨1, x.size, if x.little = true then 1 else 0⟩, ⟨10, 0, 0⟩] := by unfold Xm; rw [e]; rfl
    conv => arg 3; rw [hrw]
    exact ⟨Ux (by simp only [Mq, InR]; refine ⟨fun _ => ⟨by omega, by split <;> omega⟩, by omega, by omega, by omega, by omega, by omega⟩) (by simp) (fun _ => by rw [hl]; simp), Ui, trivial⟩
  by_cases e2 : x.kind = 2
  · have e : Xe x s en = x.bytes.map fun b => ⟨2, (b.toNat : Int), 0⟩ := by unfold Xe; rw [if_neg e1, if_pos e2]
    have hl := hrl _ e
    conv => arg 3; rw [Xm, e]
    refine Lr (T6 _ _ fun i y hy => ?_) ⟨Ui, trivial⟩
    have hi := (P8.1 hy).1
    obtain ⟨b, hb⟩ := List.mem_map.1 (Re hy)
    have hbl := b.toNat_lt
    rw [← hb.2]
    exact Ux (by simp only [Mq, InR]; omega) (by simp) (fun _ => by rw [hl]; omega)
  by_cases e3 : x.kind = 3
  · have e : Xe x s en = [⟨3, x.size, 0⟩] := by unfold Xe; rw [if_neg e1, if_neg e2, if_pos e3]
    have hl := hrl _ e
    have hz := hr.hsize.2.1 (by omega)
    conv => arg 3; rw [Xm, e]
    exact ⟨Ux (by simp only [Mq, InR]; omega) (by simp) (fun _ => by rw [hl]; simp), Ui, trivial⟩
  by_cases e4 : x.kind = 4
  · obtain ⟨z, hz, hkk⟩ := hr.hkids.1 (by omega)
    have hz2 := hkd z (by rw [hkk]; simp)
    have e : Xe x s en = [Xa en z, ⟨4, 0, 0⟩] := by unfold Xe; rw [if_neg e1, if_neg e2, if_neg e3, if_pos e4, hkk]; rfl
    have hl := hrl _ e
    conv => arg 3; rw [Xm, e]
    exact ⟨Uy hz2 (by rw [hl]; simp), Ux (by simp only [Mq, InR]; omega) (by simp) (fun _ => by rw [hl]; simp), Ui, trivial⟩
  by_cases e5 : x.kind = 5
  · obtain ⟨z, z', hz, _, hkk⟩ := hr.hkids.2.1 (by omega)
    have hz2 := hkd z (by rw [hkk]; simp)
    have hz3 := hkd z' (by rw [hkk]; simp)
    have w1 : w64 (s + 6) = s + 6 := Mf (by omega)
    have w2 : w64 (s + 3) = s + 3 := Mf (by omega)
    have e : Xe x s en = [Xa en z, ⟨5, 40, 0⟩, ⟨6, 0, 0⟩, ⟨7, s + 6, 0⟩, Xa en z', ⟨8, s + 3, 0⟩] := by unfold Xe; rw [if_neg e1, if_neg e2, if_neg e3, if_neg e4, if_pos e5, hkk, w1, w2]; rfl
    have hl := hrl _ e
    have hL : Xm x s en = [Xa en z, ⟨5, 40, 0⟩, ⟨6, 0, 0⟩, ⟨7, s + 6, 0⟩, Xa en z', ⟨8, s + 3, 0⟩, ⟨10, 0, 0⟩] := by unfold Xm; rw [e]; rfl
    rw [hL]
    refine ⟨Uy hz2 (by simp), Ux (by simp only [Mq, InR]; omega) (by simp) (fun _ => by simp), ?_, ?_, Uy hz3 (by simp), ?_, Ui, trivial⟩
    · refine ⟨by simp only [Mq, InR]; omega, by simp, fun _ => by simp, fun e => by simp at e, fun e => by simp at e, fun _ => ⟨_, rfl, rfl⟩, fun e => by simp at e, fun e => by simp at e, fun e => by simp at e, fun e => by simp at e, fun e => by simp at e⟩
    · refine ⟨by simp only [Mq, InR]; omega, by simp, fun _ => by simp, fun e => by simp at e, fun _ => ⟨2, _, _, _, rfl, rfl, rfl, rfl, rfl, rfl, rfl, ?_, ?_, by simp⟩, fun e => by simp at e, fun e => by simp at e, fun e => by simp at e, fun e => by simp at e, fun e => by simp at e, fun e => by simp at e⟩
      · show s + 3 = s + ((0 + 1 + 1 + 1 : Nat) : Int); omega
      · show s + 6 = s + ((0 + 1 + 1 + 1 : Nat) : Int) + 3; omega
    · exact ⟨by simp only [Mq, InR]; omega, by simp, fun h => by simp [Goes] at h, fun e => by simp at e, fun e => by simp at e, fun e => by simp at e, fun _ => ⟨3, _, rfl, rfl, rfl⟩, fun e => by simp at e, fun e => by simp at e, fun e => by simp at e, fun e => by simp at e⟩
  by_cases e6 : x.kind = 6
  · have e : Xe x s en = x.kids.map (Xa en) := by unfold Xe; rw [if_neg e1, if_neg e2, if_neg e3, if_neg e4, if_neg e5, if_pos e6]
    have hl := hrl _ e
    conv => arg 3; rw [Xm, e]
    refine Lr (T6 _ _ fun i y hy => ?_) ⟨Ui, trivial⟩
    have hi := (P8.1 hy).1
    obtain ⟨z, hz⟩ := List.mem_map.1 (Re hy)
    rw [← hz.2]
    exact Uy (hkd z hz.1) (by rw [hl]; omega)
  by_cases e7 : x.kind = 7
  · obtain ⟨z, kl, hz, hkl, _, hkk⟩ := hr.hkids.2.2.2.1 (by omega)
    have htg := hr.htags.1 (by omega)
    have hz2 := hkd z (by rw [hkk]; simp)
    obtain ⟨T, hT⟩ : ∃ T, x.tags.length = T + 1 := ⟨x.tags.length - 1, by omega⟩
    have e : Xe x s en = Xa en z :: (Ql x.tags (s + (x.tags.length : Int) + 2) x.tags.length ++ ⟨12, 3, 0⟩ :: X5 x.kids en x.tags.length) := by
      unfold Xe
      rw [if_neg e1, if_neg e2, if_neg e3, if_neg e4, if_neg e5, if_neg e6, if_pos e7, show x.kids.headD 0 = z by rw [hkk]; rfl]
    have hl := hrl _ e
    have hcl : (X5 x.kids en x.tags.length).length = 2 * T + 1 := by rw [hT, Mo]
    simp only [Rb, Ra, Vh, hcl] at hl
    conv => arg 3; rw [Xm, e]
    refine Lr ⟨Uy hz2 (by rw [hl]; omega), Lr (T6 _ _ fun i y hy => ?_) ⟨Ux (by simp only [Mq, InR]; omega) (by simp) (fun h => by simp [Goes] at h), T6 _ _ fun i y hy => ?_⟩⟩ ⟨Ui, trivial⟩
    · obtain ⟨hi, rfl⟩ := G3 hy
      obtain ⟨t, ht⟩ : ∃ t, x.tags[i]? = some t := ⟨_, P9 hi⟩
      have htb := htg.2.2 i t ht
      have hw : w64 (s + (x.tags.length : Int) + 2 + 2 * (i : Int)) = s + (x.tags.length : Int) + 2 + 2 * (i : Int) := Mf (by omega)
      rw [hw, ht]
      exact ⟨by simp only [Mq, InR, Option.getD_some]; omega, by simp, fun _ => by rw [hl]; omega, fun e => by simp at e, fun e => by simp at e, fun e => by simp at e, fun e => by simp at e, fun e => by simp at e, fun _ => by rw [hl]; constructor <;> simp only <;> omega, fun e => by simp at e, fun e => by simp at e⟩
    · have hi := (P8.1 hy).1
      rw [hcl] at hi
      rcases T3 hkd x.tags.length (by rw [hkk, Rb]; omega) y (Re hy) with rfl | ⟨z3, h1, h2, rfl⟩
      · exact Ui
      · exact Uy ⟨h1, h2⟩ (by rw [hl, Vh]; omega)
  by_cases e8 : x.kind = 8
  · obtain ⟨z, hz, hkk⟩ := hr.hkids.2.2.2.2.1 (by omega)
    have hz2 := hkd z (by rw [hkk]; simp)
    have w1 : w64 (s + 2) = s + 2 := Mf (by omega)
    have hL : Xm x s en = [⟨13, s + 2, 0⟩, Xa en z, ⟨10, 0, 0⟩] := by
      unfold Xm Xe
      rw [if_neg e1, if_neg e2, if_neg e3, if_neg e4, if_neg e5, if_neg e6, if_neg e7, if_pos e8, hkk, w1]; rfl
    rw [hL]
    refine ⟨⟨by simp only [Mq, InR]; omega, by simp, fun _ => by simp, fun e => by simp at e, fun e => by simp at e, fun e => by simp at e, fun e => by simp at e, fun _ => ⟨?_, ?_⟩, fun e => by simp at e, fun e => by simp at e, fun e => by simp at e⟩, Uy hz2 (by simp), Ui, trivial⟩
    · show s + ((0 : Nat) : Int) < s + 2; omega
    · show s + 2 < s + ((3 : Nat) : Int); omega
  by_cases e9 : x.kind = 9
  · obtain ⟨z, hz, hkk⟩ := hr.hkids.2.2.2.2.1 (by omega)
    have hz2 := hkd z (by rw [hkk]; simp)
    have hL : Xm x s en = [⟨14, 0, 0⟩, Xa en z, ⟨15, 0, 0⟩, ⟨10, 0, 0⟩] := by
      unfold Xm Xe
      rw [if_neg e1, if_neg e2, if_neg e3, if_neg e4, if_neg e5, if_neg e6, if_neg e7, if_neg e8, if_pos e9, hkk]; rfl
    rw [hL]
    refine ⟨⟨by simp only [Mq, InR]; omega, by simp, fun _ => by simp, fun e => by simp at e, fun e => by simp at e, fun e => by simp at e, fun e => by simp at e, fun e => by simp at e, fun e => by simp at e, fun _ => ⟨_, _, rfl, rfl, rfl, rfl⟩, fun e => by simp at e⟩, Uy hz2 (by simp), ⟨by simp only [Mq, InR]; omega, by simp, fun _ => by simp, fun e => by simp at e, fun e => by simp at e, fun e => by simp at e, fun e => by simp at e, fun e => by simp at e, fun e => by simp at e, fun e => by simp at e, fun _ => ⟨0, _, rfl, rfl, rfl⟩⟩, Ui, trivial⟩
  · have e : Xe x s en = [⟨16, (((x.bytes[0]?).getD 0).toNat : Int), 0⟩] := by
      unfold Xe
      rw [if_neg e1, if_neg e2, if_neg e3, if_neg e4, if_neg e5, if_neg e6, if_neg e7, if_neg e8, if_neg e9]
    have hl := hrl _ e
    have hbl := ((x.bytes[0]?).getD 0).toNat_lt
    conv => arg 3; rw [Xm, e]
    exact ⟨Ux (by simp only [Mq, InR]; omega) (by simp) (fun _ => by rw [hl]; simp), Ui, trivial⟩
structure FrI (p : Prg) : Prop where
  len : p.code.length ≤ 700
  first : p.entries[0]? = some 2
  op0 : opA p 0 = 9
  op1 : opA p 1 = 17
  rise : ∀ (i : Nat) y z, p.entries[i]? = some y → p.entries[i + 1]? = some z → y < z
  last : p.entries[p.entries.length - 1]? = some (aA p 0)
noncomputable instance (p : Prg) : Decidable (FrI p) := Classical.propDecidable _
theorem FrI.two {p : Prg} (h : FrI p) : ∀ (b : Nat) (e : Int), p.entries[b]? = some e → 2 ≤ e
  | 0, e, he => by rw [h.first] at he; injection he with he; omega
  | b + 1, e, he => by
    have hb : b < p.entries.length := by have := (P8.1 he).1; omega
    have hm := P9 hb
    have := h.two b _ hm
    have := h.rise b _ e hm he
    omega
theorem FrI.frame {p : Prg} (h : FrI p) (hi : ∀ i : Nat, i < p.code.length → T7 p i) : FrameP p := ⟨h.len, h.first, h.op0, h.op1, h.last, hi, h.rise⟩
theorem FrameP.frI {p : Prg} (h : FrameP p) : FrI p := ⟨h.len, h.first, h.op0, h.op1, h.rise, h.last⟩
theorem FrI.end_ge {p : Prg} (h : FrI p) (b : Nat) : 0 ≤ endA p b := by
  cases hz : p.entries[b + 1]? with
  | some z => rw [Qk hz]; have := h.two _ z hz; omega
  | none => rw [Ki hz]; omega
structure PrgB (p : Prg) : Prop where
  code : p.code.length ≤ 1048576
  ents : p.entries.length ≤ 1048576
  vals : ∀ z ∈ p.entries, I64 z
theorem endA_i64 {p : Prg} (hB : PrgB p) (b : Nat) : I64 (endA p b) := by
  have h1 := hB.code
  cases hz : p.entries[b + 1]? with
  | some z => rw [Qk hz]; exact hB.vals z (Re hz)
  | none => rw [Ki hz]; unfold I64; omega
set_option maxHeartbeats 8000000 in
theorem An (p : Prg) (hB : PrgB p) : ACv Try.prog 104 [E8 p] (.bool (decide (FrI p))) := by
  have hlm : (p.entries.map fun z => [RV.int z]).length = p.entries.length := lmT ..
  have hlc : (p.code.map Vr).length = p.code.length := lmT ..
  have hb1 := hB.code
  have hb2 := hB.ents
  have o0 := L6 p 0
  have o1 := L6 p 1
  refine Yh Try.func104 rfl _ Try.ntmps104 (by simp) fun C hn hm => ?_
  by_cases h700 : (p.code.length : Int) ≤ 700
  · by_cases hne : p.entries.length = 0
    · have hn0 : ¬ FrI p := fun h => by have := (P8.1 h.first).1; omega
      repeat' (first
 | refine Rk Zu hn rfl ?_
 | refine Rl ?_
 | refine Zc 30 rfl ?_
 | ((first | refine Zg hn rfl rfl rfl ?_ | refine Zm rfl rfl ?_); first
 | refine ⟨_, Zw o0 rfl, ?_⟩
 | refine ⟨_, Zw o1 rfl, ?_⟩)
 | (refine Rj 30 rfl ?_; first | refine Zp rfl ?_ | ((first | refine Zd rfl ?_ ?_ | refine Ze rfl ?_ ?_); · first | omega | rfl | assumption | (simp only [lmT]; omega)) | ((first | refine Zf rfl ?_ ?_ | refine Za rfl ?_ ?_); · first | omega | rfl | assumption | (simp only [lmT]; omega)) | refine Z9 rfl (fun h => ?_) (fun h => ?_) | refine Ri (Zt hm rfl rfl ?_) | exact Ri (Zj hm rfl rfl rfl (nbT rfl) rfl rfl))
 | refine Z1 rfl (tl hn rfl) ?_
 | refine Rm Zu hn rfl rfl ?_
 | refine Rn ?_
 | refine Z2 30 Ym hn rfl (by kernel_rfl) rfl ?_
 | ((first | refine Zg hn rfl rfl rfl ?_ | refine Zm rfl rfl ?_); first
 | refine ⟨_, Zx rfl rfl (by omega), ?_⟩
 | refine ⟨_, Zb rfl rfl (by omega) (by assumption), ?_⟩
 | refine ⟨_, Z4 rfl rfl (by omega), ?_⟩
 | refine ⟨_, Zv rfl rfl rfl, ?_⟩
 | refine ⟨_, Z7 rfl rfl (by omega), ?_⟩
 | refine ⟨_, Zr rfl rfl rfl rfl rfl rfl, ?_⟩)
 | ((first | refine Zi rfl rfl rfl ?_ ?_ | refine Zh rfl rfl rfl ?_ ?_ | refine Zk rfl rfl rfl ?_ ?_ | refine Zl rfl rfl rfl ?_ ?_ | refine Zo rfl rfl rfl ?_ ?_ | refine Zn rfl rfl rfl ?_ ?_ | refine Zq rfl rfl rfl ?_ ?_ | refine Zs rfl rfl rfl ?_ ?_) <;> intro h <;> try (exfalso; first | omega | contradiction | (simp only [lmT] at h; omega))))
      all_goals exact Yf (decide_eq_false hn0).symm
    · obtain ⟨z, hz⟩ : ∃ z, p.entries[(0 : Int).toNat]? = some z := ⟨_, P9 (by simp; omega)⟩
      have hz' : p.entries[0]? = some z := hz
      by_cases hg : z = 2 ∧ opA p 0 = 9 ∧ opA p 1 = 17
      · obtain ⟨g1, g2, g3⟩ := hg
        subst g1
        repeat' (first
 | refine Rk Zu hn rfl ?_
 | refine Rl ?_
 | refine Zc 30 rfl ?_
 | ((first | refine Zg hn rfl rfl rfl ?_ | refine Zm rfl rfl ?_); first
 | refine ⟨_, Zw o0 rfl, ?_⟩
 | refine ⟨_, Zw o1 rfl, ?_⟩)
 | (refine Rj 30 rfl ?_; first | refine Zp rfl ?_ | ((first | refine Zd rfl ?_ ?_ | refine Ze rfl ?_ ?_); · first | omega | rfl | assumption | (simp only [lmT]; omega)) | ((first | refine Zf rfl ?_ ?_ | refine Za rfl ?_ ?_); · first | omega | rfl | assumption | (simp only [lmT]; omega)) | refine Z9 rfl (fun h => ?_) (fun h => ?_) | refine Ri (Zt hm rfl rfl ?_) | exact Ri (Zj hm rfl rfl rfl (nbT rfl) rfl rfl))
 | refine Z1 rfl (tl hn rfl) ?_
 | refine Rm Zu hn rfl rfl ?_
 | refine Rn ?_
 | refine Z2 30 Ym hn rfl (by kernel_rfl) rfl ?_
 | ((first | refine Zg hn rfl rfl rfl ?_ | refine Zm rfl rfl ?_); first
 | refine ⟨_, Zx rfl rfl (by omega), ?_⟩
 | refine ⟨_, Zb rfl rfl (by omega) (by assumption), ?_⟩
 | refine ⟨_, Z4 rfl rfl (by omega), ?_⟩
 | refine ⟨_, Zv rfl rfl rfl, ?_⟩
 | refine ⟨_, Z7 rfl rfl (by omega), ?_⟩
 | refine ⟨_, Zr rfl rfl rfl rfl rfl rfl, ?_⟩)
 | ((first | refine Zi rfl rfl rfl ?_ ?_ | refine Zh rfl rfl rfl ?_ ?_ | refine Zk rfl rfl rfl ?_ ?_ | refine Zl rfl rfl rfl ?_ ?_ | refine Zo rfl rfl rfl ?_ ?_ | refine Zn rfl rfl rfl ?_ ?_ | refine Zq rfl rfl rfl ?_ ?_ | refine Zs rfl rfl rfl ?_ ?_) <;> intro h <;> try (exfalso; first | omega | contradiction | (simp only [lmT] at h; omega))))
        refine Yw 30 rfl (fun j => [(1, .obj 0 0), (3, .int (j : Int))]) (fun _ => [⟨62, 0, [.ro (Ul p.code), .ro (Xc p.entries)]⟩]) (fun j => 1 ≤ j ∧ ∀ (i : Nat) y w, i + 1 < j → p.entries[i]? = some y → p.entries[i + 1]? = some w → y < w) p.entries.length 1 (by omega) ⟨Nat.le_refl _, fun i y w h => absurd h (by omega)⟩ ⟨rfl, rfl, trivial⟩ rfl fun j hj hQ next => ?_
        by_cases hlt : j < p.entries.length
        · obtain ⟨y, hy⟩ : ∃ y, p.entries[((j : Int) - 1).toNat]? = some y := ⟨_, P9 (by omega)⟩
          obtain ⟨w, hw⟩ : ∃ w, p.entries[(j : Int).toNat]? = some w := ⟨_, P9 hlt⟩
          have hw' : p.entries[j]? = some w := hw
          have hy' : p.entries[j - 1]? = some y := by rw [← hy]; congr 1; omega
          have hj1 := hQ.1
          repeat' (first
 | refine Rk Zu hn rfl ?_
 | refine Rl ?_
 | refine Zc 30 rfl ?_
 | (refine Rj 30 rfl ?_; first | refine Zp rfl ?_ | ((first | refine Zd rfl ?_ ?_ | refine Ze rfl ?_ ?_); · first | omega | rfl | assumption | (simp only [lmT]; omega)) | ((first | refine Zf rfl ?_ ?_ | refine Za rfl ?_ ?_); · first | omega | rfl | assumption | (simp only [lmT]; omega)) | refine Z9 rfl (fun h => ?_) (fun h => ?_) | refine Ri (Zt hm rfl rfl ?_) | exact Ri (Zj hm rfl rfl rfl (nbT rfl) rfl rfl))
 | refine Z1 rfl (tl hn rfl) ?_
 | refine Rm Zu hn rfl rfl ?_
 | refine Rn ?_
 | refine Z2 30 Ym hn rfl (by kernel_rfl) rfl ?_
 | ((first | refine Zg hn rfl rfl rfl ?_ | refine Zm rfl rfl ?_); first
 | refine ⟨_, Zx rfl rfl (by omega), ?_⟩
 | refine ⟨_, Zb rfl rfl (by omega) (by assumption), ?_⟩
 | refine ⟨_, Z4 rfl rfl (by omega), ?_⟩
 | refine ⟨_, Zv rfl rfl rfl, ?_⟩
 | refine ⟨_, Z7 rfl rfl (by omega), ?_⟩
 | refine ⟨_, Zr rfl rfl rfl rfl rfl rfl, ?_⟩)
 | ((first | refine Zi rfl rfl rfl ?_ ?_ | refine Zh rfl rfl rfl ?_ ?_ | refine Zk rfl rfl rfl ?_ ?_ | refine Zl rfl rfl rfl ?_ ?_ | refine Zo rfl rfl rfl ?_ ?_ | refine Zn rfl rfl rfl ?_ ?_ | refine Zq rfl rfl rfl ?_ ?_ | refine Zs rfl rfl rfl ?_ ?_) <;> intro h <;> try (exfalso; first | omega | contradiction | (simp only [lmT] at h; omega))))
          · exact Yf (decide_eq_false (p := FrI p) fun hN => by have := hN.rise (j - 1) y w hy' (by rwa [show j - 1 + 1 = j by omega]); omega).symm
          · refine next _ _ ⟨rfl, rfl, trivial⟩ hlt ⟨by omega, fun i a b hi ha hb => ?_⟩ rfl
            by_cases e : i = j - 1
            · subst e
              rw [hy'] at ha; injection ha with ha
              rw [show j - 1 + 1 = j by omega, hw'] at hb; injection hb with hb
              omega
            · exact hQ.2 i a b (by omega) ha hb
        · obtain ⟨x, hx⟩ := Tr (N3 (p := p) (i := 0) (by rw [g2]; decide))
          obtain ⟨l, hl⟩ : ∃ l, p.entries[((p.entries.length : Int) - 1).toNat]? = some l := ⟨_, P9 (by omega)⟩
          have hl2 : p.entries[(((p.entries.map fun z => [RV.int z]).length : Int) - 1).toNat]? = some l := by rw [hlm]; exact hl
          have hl' : p.entries[p.entries.length - 1]? = some l := by rw [← hl]; congr 1; omega
          have ha := In (Int.le_refl 0) hx
          repeat' (first
 | refine Rk Zu hn rfl ?_
 | refine Rl ?_
 | refine Zc 30 rfl ?_
 | (refine Rj 30 rfl ?_; first | refine Zp rfl ?_ | ((first | refine Zd rfl ?_ ?_ | refine Ze rfl ?_ ?_); · first | omega | rfl | assumption | (simp only [lmT]; omega)) | ((first | refine Zf rfl ?_ ?_ | refine Za rfl ?_ ?_); · first | omega | rfl | assumption | (simp only [lmT]; omega)) | refine Z9 rfl (fun h => ?_) (fun h => ?_) | refine Ri (Zt hm rfl rfl ?_) | exact Ri (Zj hm rfl rfl rfl (nbT rfl) rfl rfl))
 | refine Z1 rfl (tl hn rfl) ?_
 | refine Rm Zu hn rfl rfl ?_
 | refine Rn ?_
 | refine Z2 30 Ym hn rfl (by kernel_rfl) rfl ?_
 | ((first | refine Zg hn rfl rfl rfl ?_ | refine Zm rfl rfl ?_); first
 | refine ⟨_, Zx rfl rfl (by omega), ?_⟩
 | refine ⟨_, Zb rfl rfl (by omega) (by assumption), ?_⟩
 | refine ⟨_, Z4 rfl rfl (by omega), ?_⟩
 | refine ⟨_, Zv rfl rfl rfl, ?_⟩
 | refine ⟨_, Z7 rfl rfl (by omega), ?_⟩
 | refine ⟨_, Zr rfl rfl rfl rfl rfl rfl, ?_⟩)
 | ((first | refine Zi rfl rfl rfl ?_ ?_ | refine Zh rfl rfl rfl ?_ ?_ | refine Zk rfl rfl rfl ?_ ?_ | refine Zl rfl rfl rfl ?_ ?_ | refine Zo rfl rfl rfl ?_ ?_ | refine Zn rfl rfl rfl ?_ ?_ | refine Zq rfl rfl rfl ?_ ?_ | refine Zs rfl rfl rfl ?_ ?_) <;> intro h <;> try (exfalso; first | omega | contradiction | (simp only [lmT] at h; omega))))
          all_goals exact Yf (decide_eq_decide.2 ⟨fun h => ⟨by omega, hz', g2, g3, fun i y w hy hw => hQ.2 i y w (by have := (P8.1 hw).1; omega) hy hw, by rw [hl', ha, h]⟩, fun h => by have := h.last; rw [hl', ha] at this; injection this with this; omega⟩)
      · have hn0 : ¬ FrI p := fun h => hg ⟨by have := h.first; rw [hz'] at this; injection this, h.op0, h.op1⟩
        by_cases g1 : z = 2
        · by_cases g2 : opA p 0 = 9
          · have g3 : ¬ opA p 1 = 17 := fun h => hg ⟨g1, g2, h⟩
            repeat' (first
 | refine Rk Zu hn rfl ?_
 | refine Rl ?_
 | refine Zc 30 rfl ?_
 | ((first | refine Zg hn rfl rfl rfl ?_ | refine Zm rfl rfl ?_); first
 | refine ⟨_, Zw o0 rfl, ?_⟩
 | refine ⟨_, Zw o1 rfl, ?_⟩)
 | (refine Rj 30 rfl ?_; first | refine Zp rfl ?_ | ((first | refine Zd rfl ?_ ?_ | refine Ze rfl ?_ ?_); · first | omega | rfl | assumption | (simp only [lmT]; omega)) | ((first | refine Zf rfl ?_ ?_ | refine Za rfl ?_ ?_); · first | omega | rfl | assumption | (simp only [lmT]; omega)) | refine Z9 rfl (fun h => ?_) (fun h => ?_) | refine Ri (Zt hm rfl rfl ?_) | exact Ri (Zj hm rfl rfl rfl (nbT rfl) rfl rfl))
 | refine Z1 rfl (tl hn rfl) ?_
 | refine Rm Zu hn rfl rfl ?_
 | refine Rn ?_
 | refine Z2 30 Ym hn rfl (by kernel_rfl) rfl ?_
 | ((first | refine Zg hn rfl rfl rfl ?_ | refine Zm rfl rfl ?_); first
 | refine ⟨_, Zx rfl rfl (by omega), ?_⟩
 | refine ⟨_, Zb rfl rfl (by omega) (by assumption), ?_⟩
 | refine ⟨_, Z4 rfl rfl (by omega), ?_⟩
 | refine ⟨_, Zv rfl rfl rfl, ?_⟩
 | refine ⟨_, Z7 rfl rfl (by omega), ?_⟩
 | refine ⟨_, Zr rfl rfl rfl rfl rfl rfl, ?_⟩)
 | ((first | refine Zi rfl rfl rfl ?_ ?_ | refine Zh rfl rfl rfl ?_ ?_ | refine Zk rfl rfl rfl ?_ ?_ | refine Zl rfl rfl rfl ?_ ?_ | refine Zo rfl rfl rfl ?_ ?_ | refine Zn rfl rfl rfl ?_ ?_ | refine Zq rfl rfl rfl ?_ ?_ | refine Zs rfl rfl rfl ?_ ?_) <;> intro h <;> try (exfalso; first | omega | contradiction | (simp only [lmT] at h; omega))))
            all_goals exact Yf (decide_eq_false hn0).symm
          · repeat' (first
 | refine Rk Zu hn rfl ?_
 | refine Rl ?_
 | refine Zc 30 rfl ?_
 | ((first | refine Zg hn rfl rfl rfl ?_ | refine Zm rfl rfl ?_); first
 | refine ⟨_, Zw o0 rfl, ?_⟩
 | refine ⟨_, Zw o1 rfl, ?_⟩)
 | (refine Rj 30 rfl ?_; first | refine Zp rfl ?_ | ((first | refine Zd rfl ?_ ?_ | refine Ze rfl ?_ ?_); · first | omega | rfl | assumption | (simp only [lmT]; omega)) | ((first | refine Zf rfl ?_ ?_ | refine Za rfl ?_ ?_); · first | omega | rfl | assumption | (simp only [lmT]; omega)) | refine Z9 rfl (fun h => ?_) (fun h => ?_) | refine Ri (Zt hm rfl rfl ?_) | exact Ri (Zj hm rfl rfl rfl (nbT rfl) rfl rfl))
 | refine Z1 rfl (tl hn rfl) ?_
 | refine Rm Zu hn rfl rfl ?_
 | refine Rn ?_
 | refine Z2 30 Ym hn rfl (by kernel_rfl) rfl ?_
 | ((first | refine Zg hn rfl rfl rfl ?_ | refine Zm rfl rfl ?_); first
 | refine ⟨_, Zx rfl rfl (by omega), ?_⟩
 | refine ⟨_, Zb rfl rfl (by omega) (by assumption), ?_⟩
 | refine ⟨_, Z4 rfl rfl (by omega), ?_⟩
 | refine ⟨_, Zv rfl rfl rfl, ?_⟩
 | refine ⟨_, Z7 rfl rfl (by omega), ?_⟩
 | refine ⟨_, Zr rfl rfl rfl rfl rfl rfl, ?_⟩)
 | ((first | refine Zi rfl rfl rfl ?_ ?_ | refine Zh rfl rfl rfl ?_ ?_ | refine Zk rfl rfl rfl ?_ ?_ | refine Zl rfl rfl rfl ?_ ?_ | refine Zo rfl rfl rfl ?_ ?_ | refine Zn rfl rfl rfl ?_ ?_ | refine Zq rfl rfl rfl ?_ ?_ | refine Zs rfl rfl rfl ?_ ?_) <;> intro h <;> try (exfalso; first | omega | contradiction | (simp only [lmT] at h; omega))))
            all_goals exact Yf (decide_eq_false hn0).symm
        · repeat' (first
 | refine Rk Zu hn rfl ?_
 | refine Rl ?_
 | refine Zc 30 rfl ?_
 | ((first | refine Zg hn rfl rfl rfl ?_ | refine Zm rfl rfl ?_); first
 | refine ⟨_, Zw o0 rfl, ?_⟩
 | refine ⟨_, Zw o1 rfl, ?_⟩)
 | (refine Rj 30 rfl ?_; first | refine Zp rfl ?_ | ((first | refine Zd rfl ?_ ?_ | refine Ze rfl ?_ ?_); · first | omega | rfl | assumption | (simp only [lmT]; omega)) | ((first | refine Zf rfl ?_ ?_ | refine Za rfl ?_ ?_); · first | omega | rfl | assumption | (simp only [lmT]; omega)) | refine Z9 rfl (fun h => ?_) (fun h => ?_) | refine Ri (Zt hm rfl rfl ?_) | exact Ri (Zj hm rfl rfl rfl (nbT rfl) rfl rfl))
 | refine Z1 rfl (tl hn rfl) ?_
 | refine Rm Zu hn rfl rfl ?_
 | refine Rn ?_
 | refine Z2 30 Ym hn rfl (by kernel_rfl) rfl ?_
 | ((first | refine Zg hn rfl rfl rfl ?_ | refine Zm rfl rfl ?_); first
 | refine ⟨_, Zx rfl rfl (by omega), ?_⟩
 | refine ⟨_, Zb rfl rfl (by omega) (by assumption), ?_⟩
 | refine ⟨_, Z4 rfl rfl (by omega), ?_⟩
 | refine ⟨_, Zv rfl rfl rfl, ?_⟩
 | refine ⟨_, Z7 rfl rfl (by omega), ?_⟩
 | refine ⟨_, Zr rfl rfl rfl rfl rfl rfl, ?_⟩)
 | ((first | refine Zi rfl rfl rfl ?_ ?_ | refine Zh rfl rfl rfl ?_ ?_ | refine Zk rfl rfl rfl ?_ ?_ | refine Zl rfl rfl rfl ?_ ?_ | refine Zo rfl rfl rfl ?_ ?_ | refine Zn rfl rfl rfl ?_ ?_ | refine Zq rfl rfl rfl ?_ ?_ | refine Zs rfl rfl rfl ?_ ?_) <;> intro h <;> try (exfalso; first | omega | contradiction | (simp only [lmT] at h; omega))))
          all_goals exact Yf (decide_eq_false hn0).symm
  · have hn0 : ¬ FrI p := fun h => by have := h.len; omega
    repeat' (first
 | refine Rk Zu hn rfl ?_
 | refine Rl ?_
 | refine Zc 30 rfl ?_
 | ((first | refine Zg hn rfl rfl rfl ?_ | refine Zm rfl rfl ?_); first
 | refine ⟨_, Zw o0 rfl, ?_⟩
 | refine ⟨_, Zw o1 rfl, ?_⟩)
 | (refine Rj 30 rfl ?_; first | refine Zp rfl ?_ | ((first | refine Zd rfl ?_ ?_ | refine Ze rfl ?_ ?_); · first | omega | rfl | assumption | (simp only [lmT]; omega)) | ((first | refine Zf rfl ?_ ?_ | refine Za rfl ?_ ?_); · first | omega | rfl | assumption | (simp only [lmT]; omega)) | refine Z9 rfl (fun h => ?_) (fun h => ?_) | refine Ri (Zt hm rfl rfl ?_) | exact Ri (Zj hm rfl rfl rfl (nbT rfl) rfl rfl))
 | refine Z1 rfl (tl hn rfl) ?_
 | refine Rm Zu hn rfl rfl ?_
 | refine Rn ?_
 | refine Z2 30 Ym hn rfl (by kernel_rfl) rfl ?_
 | ((first | refine Zg hn rfl rfl rfl ?_ | refine Zm rfl rfl ?_); first
 | refine ⟨_, Zx rfl rfl (by omega), ?_⟩
 | refine ⟨_, Zb rfl rfl (by omega) (by assumption), ?_⟩
 | refine ⟨_, Z4 rfl rfl (by omega), ?_⟩
 | refine ⟨_, Zv rfl rfl rfl, ?_⟩
 | refine ⟨_, Z7 rfl rfl (by omega), ?_⟩
 | refine ⟨_, Zr rfl rfl rfl rfl rfl rfl, ?_⟩)
 | ((first | refine Zi rfl rfl rfl ?_ ?_ | refine Zh rfl rfl rfl ?_ ?_ | refine Zk rfl rfl rfl ?_ ?_ | refine Zl rfl rfl rfl ?_ ?_ | refine Zo rfl rfl rfl ?_ ?_ | refine Zn rfl rfl rfl ?_ ?_ | refine Zq rfl rfl rfl ?_ ?_ | refine Zs rfl rfl rfl ?_ ?_) <;> intro h <;> try (exfalso; first | omega | contradiction | (simp only [lmT] at h; omega))))
    all_goals exact Yf (decide_eq_false hn0).symm
set_option maxHeartbeats 16000000 in
theorem Uz (p : Prg) (hB : PrgB p) : ACv Try.prog 47 [E8 p] (.bool (decide (Kq p))) := by
  have hlm : (p.entries.map fun z => [RV.int z]).length = p.entries.length := lmT ..
  have hlc : (p.code.map Vr).length = p.code.length := lmT ..
  have hb1 := hB.code
  have hb2 := hB.ents
  have hel : p.entries.length ≤ maxLen := by unfold maxLen; omega
  have hcl : p.code.length ≤ maxLen := by unfold maxLen; omega
  have hf := An p hB
  refine Yh Try.func47 rfl _ Try.ntmps47 (by simp) fun C hn hm => ?_
  by_cases hF : FrI p
  · have h700 := hF.len
    repeat' (first
 | refine Rk Zu hn rfl ?_
 | refine Rl ?_
 | refine Zc 30 rfl ?_
 | (refine Zg hn rfl rfl rfl ?_; first
 | refine ⟨_, Zw hf rfl, ?_⟩)
 | (refine Rj 30 rfl ?_; first | ((first | refine Zd rfl ?_ ?_ | refine Ze rfl ?_ ?_); · first | omega | rfl | assumption | (simp only [lmT]; omega)) | ((first | refine Zf rfl ?_ ?_ | refine Za rfl ?_ ?_); · first | omega | rfl | assumption | (simp only [lmT]; omega)) | refine Ri (Zt hm rfl rfl ?_) | exact Ri (Zj hm rfl rfl rfl (nbT rfl) rfl rfl))
 | refine Z1 rfl (tl hn rfl) ?_
 | (refine Zg hn rfl rfl rfl ?_; first
 | refine ⟨_, Zx rfl rfl (by omega), ?_⟩
 | refine ⟨_, Zb rfl rfl (by omega) (by assumption), ?_⟩
 | refine ⟨_, Z4 rfl rfl (by omega), ?_⟩
        ))
    refine Yw 30 rfl (fun j => [(1, .obj 0 0), (13, .int (p.code.length : Int)), (14, .int (j : Int))]) (fun _ => [⟨62, 0, [.ro (Ul p.code), .ro (Xc p.entries)]⟩]) (fun j => ∀ i : Nat, i < j → T7 p i) p.code.length 0 (Nat.zero_le _) (fun i h => absurd h (by omega)) ⟨rfl, by simp only [look]; exact congrArg (fun z : Nat => AV.int (z : Int)) hlc, rfl, trivial⟩ rfl fun j hj hQ next => ?_
    by_cases hlt : j < p.code.length
    · have hi := Q5 p j (by unfold I64; omega) hcl
      by_cases hs : T7 p (j : Int)
      · repeat' (first
 | refine Rk Zu hn rfl ?_
 | refine Rl ?_
 | refine Zc 30 rfl ?_
 | (refine Zg hn rfl rfl rfl ?_; first
 | refine ⟨_, Zw hi rfl, ?_⟩)
 | (refine Rj 30 rfl ?_; first | ((first | refine Zd rfl ?_ ?_ | refine Ze rfl ?_ ?_); · first | omega | rfl | assumption | (simp only [lmT]; omega)) | ((first | refine Zf rfl ?_ ?_ | refine Za rfl ?_ ?_); · first | omega | rfl | assumption | (simp only [lmT]; omega)) | refine Ri (Zt hm rfl rfl ?_) | exact Ri (Zj hm rfl rfl rfl (nbT rfl) rfl rfl))
 | refine Z1 rfl (tl hn rfl) ?_
 | (refine Zg hn rfl rfl rfl ?_; first
 | refine ⟨_, Zx rfl rfl (by omega), ?_⟩
 | refine ⟨_, Zb rfl rfl (by omega) (by assumption), ?_⟩
 | refine ⟨_, Z4 rfl rfl (by omega), ?_⟩
          ))
        refine next _ _ ⟨rfl, rfl, rfl, trivial⟩ hlt (fun i hi => ?_) rfl
        by_cases e : i = j
        · subst e; exact hs
        · exact hQ i (by omega)
      · repeat' (first
 | refine Rk Zu hn rfl ?_
 | refine Rl ?_
 | refine Zc 30 rfl ?_
 | (refine Zg hn rfl rfl rfl ?_; first
 | refine ⟨_, Zw hi rfl, ?_⟩)
 | (refine Rj 30 rfl ?_; first | ((first | refine Zd rfl ?_ ?_ | refine Ze rfl ?_ ?_); · first | omega | rfl | assumption | (simp only [lmT]; omega)) | ((first | refine Zf rfl ?_ ?_ | refine Za rfl ?_ ?_); · first | omega | rfl | assumption | (simp only [lmT]; omega)) | refine Ri (Zt hm rfl rfl ?_) | exact Ri (Zj hm rfl rfl rfl (nbT rfl) rfl rfl))
 | refine Z1 rfl (tl hn rfl) ?_
 | (refine Zg hn rfl rfl rfl ?_; first
 | refine ⟨_, Zx rfl rfl (by omega), ?_⟩
 | refine ⟨_, Zb rfl rfl (by omega) (by assumption), ?_⟩
 | refine ⟨_, Z4 rfl rfl (by omega), ?_⟩
          ))
        all_goals exact Yf (decide_eq_false (p := Kq p) fun hN => hs (hN.1.ins j hlt)).symm
    · obtain rfl : j = p.code.length := by omega
      have hFr := hF.frame hQ
      repeat' (first
 | refine Rk Zu hn rfl ?_
 | refine Rl ?_
 | refine Zc 30 rfl ?_
 | (refine Rj 30 rfl ?_; first | ((first | refine Zd rfl ?_ ?_ | refine Ze rfl ?_ ?_); · first | omega | rfl | assumption | (simp only [lmT]; omega)) | ((first | refine Zf rfl ?_ ?_ | refine Za rfl ?_ ?_); · first | omega | rfl | assumption | (simp only [lmT]; omega)) | refine Ri (Zt hm rfl rfl ?_) | exact Ri (Zj hm rfl rfl rfl (nbT rfl) rfl rfl))
 | refine Z1 rfl (tl hn rfl) ?_
 | (refine Zg hn rfl rfl rfl ?_; first
 | refine ⟨_, Zx rfl rfl (by omega), ?_⟩
 | refine ⟨_, Zb rfl rfl (by omega) (by assumption), ?_⟩
 | refine ⟨_, Z4 rfl rfl (by omega), ?_⟩
          ))
      refine Yw 30 rfl (fun b => [(1, .obj 0 0), (4, .bool true), (24, .int (p.entries.length : Int)), (25, .int (b : Int))]) (fun _ => [⟨62, 0, [.ro (Ul p.code), .ro (Xc p.entries)]⟩]) (fun b => ∀ (c : Nat) e, c < b → p.entries[c]? = some e → opA p (endA p c - 1) = 10 ∧ ∀ (k : Int) x, e ≤ k → k < endA p c → p.code[k.toNat]? = some x → Vx p c k x) p.entries.length 0 (Nat.zero_le _) (fun c e h => absurd h (by omega)) ⟨rfl, rfl, by simp only [look]; exact congrArg (fun z : Nat => AV.int (z : Int)) hlm, rfl, trivial⟩ rfl fun b hb hR next2 => ?_
      by_cases hlt2 : b < p.entries.length
      · obtain ⟨e, he⟩ : ∃ e, p.entries[(b : Int).toNat]? = some e := ⟨_, P9 hlt2⟩
        have he' : p.entries[b]? = some e := he
        have hend := J0 p b (by omega) (by omega) hel
        have hge := hF.end_ge b
        have hi64 := endA_i64 hB b
        unfold I64 at hi64
        have h2 := hF.two b e he'
        have hop := L6 p (endA p b - 1)
        by_cases hret : opA p (endA p b - 1) = 10
        · have hidx := N3 (p := p) (by rw [hret]; decide : opA p (endA p b - 1) ≠ 0)
          unfold Idx at hidx
          repeat' (first
 | refine Rk Zu hn rfl ?_
 | refine Rl ?_
 | refine Zc 30 rfl ?_
 | (refine Zg hn rfl rfl rfl ?_; first
 | refine ⟨_, Zw hend rfl, ?_⟩
 | refine ⟨_, Zw hop rfl, ?_⟩)
 | (refine Rj 30 rfl ?_; first | ((first | refine Zd rfl ?_ ?_ | refine Ze rfl ?_ ?_); · first | omega | rfl | assumption | (simp only [lmT]; omega)) | ((first | refine Zf rfl ?_ ?_ | refine Za rfl ?_ ?_); · first | omega | rfl | assumption | (simp only [lmT]; omega)) | refine Ri (Zt hm rfl rfl ?_) | exact Ri (Zj hm rfl rfl rfl (nbT rfl) rfl rfl))
 | refine Z1 rfl (tl hn rfl) ?_
 | (refine Zg hn rfl rfl rfl ?_; first
 | refine ⟨_, Zx rfl rfl (by omega), ?_⟩
 | refine ⟨_, Zb rfl rfl (by omega) (by assumption), ?_⟩
 | refine ⟨_, Z4 rfl rfl (by omega), ?_⟩
              ))
          refine Yw 30 rfl (fun m => [(1, .obj 0 0), (4, .bool true), (24, .int (p.entries.length : Int)), (25, .int (b : Int)), (5, .int (b : Int)), (6, .int (endA p b)), (7, .int (e + m))]) (fun _ => [⟨62, 0, [.ro (Ul p.code), .ro (Xc p.entries)]⟩]) (fun m => ∀ (k : Int) x, e ≤ k → k < e + m → p.code[k.toNat]? = some x → Vx p b k x) (endA p b - e).toNat 0 (Nat.zero_le _) (fun k x h1 h2 => absurd h2 (by omega)) ⟨rfl, rfl, rfl, rfl, rfl, rfl, by simp only [look]; exact Ko (by omega), trivial⟩ rfl fun m hm' hP next3 => ?_
          by_cases hlt3 : m < (endA p b - e).toNat
          · obtain ⟨x, hx⟩ : ∃ x, p.code[(e + m).toNat]? = some x := ⟨_, P9 (by omega)⟩
            have hpl := Am p b (e + m) x hlt2 ⟨by omega, by omega⟩ hx hel
            by_cases hpx : Vx p b (e + m) x
            · repeat' (first
 | refine Rk Zu hn rfl ?_
 | refine Rl ?_
 | refine Zc 30 rfl ?_
 | (refine Zg hn rfl rfl rfl ?_; first
 | refine ⟨_, Zw hpl rfl, ?_⟩)
 | (refine Rj 30 rfl ?_; first | ((first | refine Zd rfl ?_ ?_ | refine Ze rfl ?_ ?_); · first | omega | rfl | assumption | (simp only [lmT]; omega)) | ((first | refine Zf rfl ?_ ?_ | refine Za rfl ?_ ?_); · first | omega | rfl | assumption | (simp only [lmT]; omega)) | refine Ri (Zt hm rfl rfl ?_) | exact Ri (Zj hm rfl rfl rfl (nbT rfl) rfl rfl))
 | refine Z1 rfl (tl hn rfl) ?_
 | (refine Zg hn rfl rfl rfl ?_; first
 | refine ⟨_, Zx rfl rfl (by omega), ?_⟩
 | refine ⟨_, Zb rfl rfl (by omega) (by assumption), ?_⟩
 | refine ⟨_, Z4 rfl rfl (by omega), ?_⟩
                ))
              refine next3 _ _ ⟨rfl, rfl, rfl, rfl, rfl, rfl, by simp only [look]; exact Ko (by omega), trivial⟩ hlt3 (fun k w hk1 hk2 hw => ?_) rfl
              by_cases ek : k = e + m
              · subst ek; rw [hx] at hw; injection hw with hw; subst hw; exact hpx
              · exact hP k w hk1 (by omega) hw
            · repeat' (first
 | refine Rk Zu hn rfl ?_
 | refine Rl ?_
 | refine Zc 30 rfl ?_
 | (refine Zg hn rfl rfl rfl ?_; first
 | refine ⟨_, Zw hpl rfl, ?_⟩)
 | (refine Rj 30 rfl ?_; first | ((first | refine Zd rfl ?_ ?_ | refine Ze rfl ?_ ?_); · first | omega | rfl | assumption | (simp only [lmT]; omega)) | ((first | refine Zf rfl ?_ ?_ | refine Za rfl ?_ ?_); · first | omega | rfl | assumption | (simp only [lmT]; omega)) | refine Ri (Zt hm rfl rfl ?_) | exact Ri (Zj hm rfl rfl rfl (nbT rfl) rfl rfl))
 | refine Z1 rfl (tl hn rfl) ?_
 | (refine Zg hn rfl rfl rfl ?_; first
 | refine ⟨_, Zx rfl rfl (by omega), ?_⟩
 | refine ⟨_, Zb rfl rfl (by omega) (by assumption), ?_⟩
 | refine ⟨_, Z4 rfl rfl (by omega), ?_⟩
                ))
              all_goals exact Yf (decide_eq_false (p := Kq p) fun hN => hpx ((hN.2 b e he').2 (e + m) x (by omega) (by omega) hx)).symm
          · repeat' (first
 | refine Rk Zu hn rfl ?_
 | refine Rl ?_
 | refine Zc 30 rfl ?_
 | (refine Rj 30 rfl ?_; first | ((first | refine Zd rfl ?_ ?_ | refine Ze rfl ?_ ?_); · first | omega | rfl | assumption | (simp only [lmT]; omega)) | ((first | refine Zf rfl ?_ ?_ | refine Za rfl ?_ ?_); · first | omega | rfl | assumption | (simp only [lmT]; omega)) | refine Ri (Zt hm rfl rfl ?_) | exact Ri (Zj hm rfl rfl rfl (nbT rfl) rfl rfl))
 | refine Z1 rfl (tl hn rfl) ?_
 | (refine Zg hn rfl rfl rfl ?_; first
 | refine ⟨_, Zx rfl rfl (by omega), ?_⟩
 | refine ⟨_, Zb rfl rfl (by omega) (by assumption), ?_⟩
 | refine ⟨_, Z4 rfl rfl (by omega), ?_⟩
              ))
            refine next2 _ _ ⟨rfl, rfl, rfl, rfl, trivial⟩ hlt2 (fun c d hc hd => ?_) rfl
            by_cases ec : c = b
            · subst ec; rw [he'] at hd; injection hd with hd; subst hd
              exact ⟨hret, fun k x h1 h2 hx => hP k x h1 (by omega) hx⟩
            · exact hR c d (by omega) hd
        · repeat' (first
 | refine Rk Zu hn rfl ?_
 | refine Rl ?_
 | refine Zc 30 rfl ?_
 | (refine Zg hn rfl rfl rfl ?_; first
 | refine ⟨_, Zw hend rfl, ?_⟩
 | refine ⟨_, Zw hop rfl, ?_⟩)
 | (refine Rj 30 rfl ?_; first | ((first | refine Zd rfl ?_ ?_ | refine Ze rfl ?_ ?_); · first | omega | rfl | assumption | (simp only [lmT]; omega)) | ((first | refine Zf rfl ?_ ?_ | refine Za rfl ?_ ?_); · first | omega | rfl | assumption | (simp only [lmT]; omega)) | refine Ri (Zt hm rfl rfl ?_) | exact Ri (Zj hm rfl rfl rfl (nbT rfl) rfl rfl))
 | refine Z1 rfl (tl hn rfl) ?_
 | (refine Zg hn rfl rfl rfl ?_; first
 | refine ⟨_, Zx rfl rfl (by omega), ?_⟩
 | refine ⟨_, Zb rfl rfl (by omega) (by assumption), ?_⟩
 | refine ⟨_, Z4 rfl rfl (by omega), ?_⟩
            ))
          all_goals exact Yf (decide_eq_false (p := Kq p) fun hN => hret (hN.2 b e he').1).symm
      · repeat' (first
 | refine Rk Zu hn rfl ?_
 | refine Rl ?_
 | refine Zc 30 rfl ?_
 | (refine Rj 30 rfl ?_; first | ((first | refine Zd rfl ?_ ?_ | refine Ze rfl ?_ ?_); · first | omega | rfl | assumption | (simp only [lmT]; omega)) | ((first | refine Zf rfl ?_ ?_ | refine Za rfl ?_ ?_); · first | omega | rfl | assumption | (simp only [lmT]; omega)) | refine Ri (Zt hm rfl rfl ?_) | exact Ri (Zj hm rfl rfl rfl (nbT rfl) rfl rfl))
 | refine Z1 rfl (tl hn rfl) ?_
 | (refine Zg hn rfl rfl rfl ?_; first
 | refine ⟨_, Zx rfl rfl (by omega), ?_⟩
 | refine ⟨_, Zb rfl rfl (by omega) (by assumption), ?_⟩
 | refine ⟨_, Z4 rfl rfl (by omega), ?_⟩
          ))
        exact Yf (decide_eq_true (p := Kq p) ⟨hFr, fun c e he => hR c e (by have := (P8.1 he).1; omega) he⟩).symm
  · repeat' (first
 | refine Rk Zu hn rfl ?_
 | refine Rl ?_
 | refine Zc 30 rfl ?_
 | (refine Zg hn rfl rfl rfl ?_; first
 | refine ⟨_, Zw hf rfl, ?_⟩)
 | (refine Rj 30 rfl ?_; first | ((first | refine Zd rfl ?_ ?_ | refine Ze rfl ?_ ?_); · first | omega | rfl | assumption | (simp only [lmT]; omega)) | ((first | refine Zf rfl ?_ ?_ | refine Za rfl ?_ ?_); · first | omega | rfl | assumption | (simp only [lmT]; omega)) | refine Ri (Zt hm rfl rfl ?_) | exact Ri (Zj hm rfl rfl rfl (nbT rfl) rfl rfl))
 | refine Z1 rfl (tl hn rfl) ?_
 | (refine Zg hn rfl rfl rfl ?_; first
 | refine ⟨_, Zx rfl rfl (by omega), ?_⟩
 | refine ⟨_, Zb rfl rfl (by omega) (by assumption), ?_⟩
 | refine ⟨_, Z4 rfl rfl (by omega), ?_⟩
      ))
    all_goals exact Yf (decide_eq_false (p := Kq p) fun hN => hF hN.1.frI).symm
def BlocksS (p : Prg) : Prop := ∀ (b : Nat) e, p.entries[b]? = some e → e < endA p b ∧ opA p (endA p b - 1) = 10 ∧ ∀ (k : Int) x, e ≤ k → k < endA p b → p.code[k.toNat]? = some x → PlaceS p k e (endA p b) x
noncomputable instance (p : Prg) : Decidable (BlocksS p) := Classical.propDecidable _
def Q4 (n : Nat) (u : Nat → Int) : List AV := (List.range n).map fun j => .int (u j)
def Hn (u : Nat → Int) (k : Nat) (b : Int) : Nat → Int := fun j => if j = k then b else u j
theorem Qg (n : Nat) (u : Nat → Int) : (Q4 n u).length = n := by simp [Q4]
theorem K6 (n : Nat) (u : Nat → Int) : (Q4 n u).length = n * 1 := by simp [Q4]
theorem Li {n : Nat} {u : Nat → Int} {k : Nat} (h : k < n) : (Q4 n u)[k]? = some (.int (u k)) := by simp [Q4, h]
theorem intsA_set {n : Nat} {u : Nat → Int} {k : Nat} (b : Int) : (Q4 n u).set k (.int b) = Q4 n (Hn u k b) := by
  apply List.ext_getElem?
  intro j
  rw [List.getElem?_set]
  by_cases hj : j < n
  · rw [Li hj, Qg]
    by_cases e : k = j
    · subst e; rw [if_pos rfl, if_pos hj, Li hj]; simp [Hn]
    · rw [if_neg e, Li hj]
      have : ¬ j = k := fun h => e h.symm
      simp [Hn, this]
  · have h1 : (Q4 n (Hn u k b))[j]? = none := by rw [List.getElem?_eq_none]; rw [Qg]; omega
    have h2 : (Q4 n u)[j]? = none := by rw [List.getElem?_eq_none]; rw [Qg]; omega
    rw [h1, h2]
    split
    · split
      · rename_i h; rw [Qg] at h; omega
      · rfl
    · rfl
theorem Pn (n : Nat) : ((List.replicate n (RV.c (Value.int .i64 0))).map AV.ro) = Q4 n fun _ => 0 := by
  apply List.ext_getElem?
  intro j
  by_cases hj : j < n
  · rw [Li hj]; simp [hj]
  · have h1 : (Q4 n fun _ => 0)[j]? = none := by rw [List.getElem?_eq_none]; rw [Qg]; omega
    rw [h1, List.getElem?_eq_none]; simp; omega
attribute [irreducible] Q4
section
variable {P : Program} {C : Ctx} {ops : Array Oper} {rest : List Oper} {k : List Item} {R : Act → World → Prop} {env : Env} {σ : List Ob} {t : Nat} {ty : TypeId} {pos : String} {after : Array Edge} {gd : Option (Nat × Bool)}
theorem Jr {tt : TypeId} {x : Operand} {i off n : Nat} {o : Ob} {u : Nat → Int} [T1 P tt] (hx : ev env x = .obj i off) (ho : σ[i]? = some o) (hc : o.cs = Q4 n u) (hlt : off < n) : Pur P C ⟨some t, .load tt x, ty, pos, after, gd⟩ env σ (.int (u off)) :=
  Yo hx ho (by rw [hc]; exact Li hlt)
theorem Db {tt : TypeId} {x y : Operand} {i off n : Nat} {o : Ob} {u : Nat → Int} {b : Int} [T1 P tt] (hx : ev env x = .obj i off) (hy : ev env y = .int b) (ho : σ[i]? = some o) (hc : o.cs = Q4 n u) (hlt : off < n)
    (hk : RunsL P C ops rest k R ⟨env, σ.set i ⟨o.t, o.sz, Q4 n (Hn u off b)⟩⟩) : RunsL P C ops (⟨none, .store tt x y, ty, pos, after, none⟩ :: rest) k R ⟨env, σ⟩ :=
  I0 hx hy rfl ho (by rw [hc, Qg]; exact hlt) (by rw [hc, intsA_set]; exact hk)
end
def Vc (l : List Int) (i : Int) : Nat → Int
  | 0 => -1
  | n + 1 => match l[n]? with
    | some e => if e ≤ i then (n : Int) else Vc l i n
    | none => Vc l i n
def bo (p : Prg) (i : Int) : Int := Vc p.entries i p.entries.length
theorem Qu {l : List Int} {i : Int} {n : Nat} {e : Int} (h : l[n]? = some e) : Vc l i (n + 1) = if e ≤ i then (n : Int) else Vc l i n := by
  rw [Vc, h]
theorem Th (l : List Int) (i : Int) : ∀ n, -1 ≤ Vc l i n ∧ Vc l i n < n
  | 0 => ⟨Int.le_refl _, by simp [Vc]⟩
  | n + 1 => by
    have := Th l i n
    rw [Vc]
    split
    · split <;> omega
    · omega
theorem Tg {l : List Int} {i : Int} {j : Nat} {e : Int} (hj : l[j]? = some e) (he : e ≤ i) : ∀ n, j < n → n ≤ l.length → (j : Int) ≤ Vc l i n
  | 0, h, _ => by omega
  | n + 1, h, hn => by
    have hm := P9 (show n < l.length by omega)
    rw [Qu hm]
    split
    · omega
    · by_cases e' : j = n
      · subst e'; rw [hj] at hm; injection hm with hm; omega
      · exact Tg hj he n (by omega) (by omega)
theorem Gi {l : List Int} {i : Int} : ∀ (n : Nat) (m : Nat), n ≤ l.length → Vc l i n = m → ∃ e, l[m]? = some e ∧ e ≤ i ∧ m < n ∧ ∀ (m' : Nat) e', m < m' → m' < n → l[m']? = some e' → i < e'
  | 0, m, _, h => by simp only [Vc] at h; omega
  | n + 1, m, hn, h => by
    have hm := P9 (show n < l.length by omega)
    rw [Qu hm] at h
    split at h
    · obtain rfl : m = n := by omega
      exact ⟨_, hm, by assumption, by omega, fun m' e' h1 h2 _ => by omega⟩
    · rename_i hgt
      obtain ⟨e, h1, h2, h3, h4⟩ := Gi n m (by omega) h
      refine ⟨e, h1, h2, by omega, fun m' e' k1 k2 k3 => ?_⟩
      by_cases e'' : m' = n
      · subst e''; rw [k3] at hm; injection hm with hm; omega
      · exact h4 m' e' k1 (by omega) k3
theorem Bn (p : Prg) (i : Int) (hl : p.entries.length ≤ maxLen) : ACv Try.prog 141 [E8 p, .int i] (.int (bo p i)) := by
  have hlm : (p.entries.map fun z => [RV.int z]).length = p.entries.length := lmT ..
  unfold maxLen at hl
  refine Yh Try.func141 rfl _ Try.ntmps141 (by simp) fun C hn hm => ?_
  repeat' (first
 | refine Rk Zu hn rfl ?_
 | refine Rl ?_
 | refine Zc 30 rfl ?_
 | (refine Rj 30 rfl ?_; first | refine Zz rfl ?_ | ((first | refine Zd rfl ?_ ?_ | refine Ze rfl ?_ ?_); · first | omega | rfl | assumption | (simp only [lmT]; omega)) | ((first | refine Zf rfl ?_ ?_ | refine Za rfl ?_ ?_); · first | omega | rfl | assumption | (simp only [lmT]; omega)) | refine Ri (Zt hm rfl rfl ?_) | exact Ri (Zj hm rfl rfl rfl (nbT rfl) rfl rfl))
 | refine Z1 rfl (tl hn rfl) ?_
 | (refine Zg hn rfl rfl rfl ?_; first
 | refine ⟨_, Zb rfl rfl (by omega) (by assumption), ?_⟩
 | refine ⟨_, Z4 rfl rfl (by omega), ?_⟩
      ))
  refine Wq 30 rfl (fun n E s => ∃ m : Nat, m = n ∧ m ≤ p.entries.length ∧ Vc p.entries i m = bo p i ∧ E = [(2, .obj 0 0), (1, .int i), (5, .int ((m : Int) - 1))] ∧ s = [⟨62, 0, [.ro (Ul p.code), .ro (Xc p.entries)]⟩]) p.entries.length [(2, .obj 0 0), (1, .int i), (5, .int ((p.entries.length : Int) - 1))] ⟨rfl, rfl, by simp only [look]; exact Ko (by rw [hlm]), trivial⟩ ⟨_, rfl, Nat.le_refl _, rfl, rfl, rfl⟩ ?_
  rintro n E s ⟨m, rfl, hm', hv, rfl, rfl⟩ ih
  by_cases h0 : m = 0
  · subst h0
    repeat' (first
 | refine Rk Zu hn rfl ?_
 | refine Rl ?_
 | refine Zc 30 rfl ?_
 | (refine Rj 30 rfl ?_; first | refine Zz rfl ?_ | ((first | refine Zd rfl ?_ ?_ | refine Ze rfl ?_ ?_); · first | omega | rfl | assumption | (simp only [lmT]; omega)) | ((first | refine Zf rfl ?_ ?_ | refine Za rfl ?_ ?_); · first | omega | rfl | assumption | (simp only [lmT]; omega)) | refine Ri (Zt hm rfl rfl ?_) | exact Ri (Zj hm rfl rfl rfl (nbT rfl) rfl rfl))
 | refine Z1 rfl (tl hn rfl) ?_
 | (refine Zg hn rfl rfl rfl ?_; first
 | refine ⟨_, Zb rfl rfl (by omega) (by assumption), ?_⟩
 | refine ⟨_, Z4 rfl rfl (by omega), ?_⟩
        ))
    exact Xx hv
  · obtain ⟨q, rfl⟩ : ∃ q, m = q + 1 := ⟨m - 1, by omega⟩
    obtain ⟨e, he⟩ : ∃ e, p.entries[(((q + 1 : Nat) : Int) - 1).toNat]? = some e := ⟨_, P9 (by omega)⟩
    have he' : p.entries[q]? = some e := by rw [← he]; congr 1; omega
    rw [Qu he'] at hv
    by_cases hle : e ≤ i
    · rw [if_pos hle] at hv
      repeat' (first
 | refine Rk Zu hn rfl ?_
 | refine Rl ?_
 | refine Zc 30 rfl ?_
 | (refine Rj 30 rfl ?_; first | refine Zz rfl ?_ | ((first | refine Zd rfl ?_ ?_ | refine Ze rfl ?_ ?_); · first | omega | rfl | assumption | (simp only [lmT]; omega)) | ((first | refine Zf rfl ?_ ?_ | refine Za rfl ?_ ?_); · first | omega | rfl | assumption | (simp only [lmT]; omega)) | refine Ri (Zt hm rfl rfl ?_) | exact Ri (Zj hm rfl rfl rfl (nbT rfl) rfl rfl))
 | refine Z1 rfl (tl hn rfl) ?_
 | (refine Zg hn rfl rfl rfl ?_; first
 | refine ⟨_, Zb rfl rfl (by omega) (by assumption), ?_⟩
 | refine ⟨_, Z4 rfl rfl (by omega), ?_⟩
          ))
      exact Xx (by omega)
    · rw [if_neg hle] at hv
      repeat' (first
 | refine Rk Zu hn rfl ?_
 | refine Rl ?_
 | refine Zc 30 rfl ?_
 | (refine Rj 30 rfl ?_; first | refine Zz rfl ?_ | ((first | refine Zd rfl ?_ ?_ | refine Ze rfl ?_ ?_); · first | omega | rfl | assumption | (simp only [lmT]; omega)) | ((first | refine Zf rfl ?_ ?_ | refine Za rfl ?_ ?_); · first | omega | rfl | assumption | (simp only [lmT]; omega)) | refine Ri (Zt hm rfl rfl ?_) | exact Ri (Zj hm rfl rfl rfl (nbT rfl) rfl rfl))
 | refine Z1 rfl (tl hn rfl) ?_
 | (refine Zg hn rfl rfl rfl ?_; first
 | refine ⟨_, Zb rfl rfl (by omega) (by assumption), ?_⟩
 | refine ⟨_, Z4 rfl rfl (by omega), ?_⟩
          ))
      exact ih q [(2, .obj 0 0), (1, .int i), (5, .int ((q : Int) - 1))] _ _ (by omega) ⟨q, rfl, by omega, hv, rfl, rfl⟩ ⟨rfl, rfl, by simp only [look]; exact Ko (by omega), trivial⟩
def mx (a b : Int) : Int := if a < b then b else a
theorem max1_ac (a b : Int) : ACv Try.prog 167 [.int a, .int b] (.bool (decide (b < a))) := by
  refine Yh Try.func167 rfl _ Try.ntmps167 (by simp) fun C hn hm => ?_
  repeat' (first
 | refine Rk Zu hn rfl ?_
 | refine Rl ?_
 | refine Zc 30 rfl ?_
 | (refine Rj 30 rfl ?_; first | ((first | refine Zd rfl ?_ ?_ | refine Ze rfl ?_ ?_); · first | omega | rfl | assumption | (simp only [lmT]; omega)) | ((first | refine Zf rfl ?_ ?_ | refine Za rfl ?_ ?_); · first | omega | rfl | assumption | (simp only [lmT]; omega)) | refine Ri (Zt hm rfl rfl ?_) | exact Ri (Zj hm rfl rfl rfl (nbT rfl) rfl rfl))
    )
  exact Yf rfl
theorem Pb (a b : Int) : ACA Try.prog 166 [.fn (.func 167) [] [], .ro (.int a), .ro (Xc [b])] (fun rr => rr = .ro (.int (mx a b))) := by
  unfold mx
  have h1 := max1_ac b a
  refine G8 Try.func166 rfl _ Try.ntmps166 (by simp) fun C hn hm => ?_
  repeat' (first
 | refine Rk Zu hn rfl ?_
 | refine Rl ?_
 | refine Zc 30 rfl ?_
 | (refine Rj 30 rfl ?_; first | refine Zp rfl ?_ | refine Zz rfl ?_ | ((first | refine Zd rfl ?_ ?_ | refine Ze rfl ?_ ?_); · first | omega | rfl | assumption | (simp only [lmT]; omega)) | ((first | refine Zf rfl ?_ ?_ | refine Za rfl ?_ ?_); · first | omega | rfl | assumption | (simp only [lmT]; omega)) | refine Ri (Zt hm rfl rfl ?_) | exact Ri (Zj hm rfl rfl rfl (nbT rfl) rfl rfl))
 | (refine Zg hn rfl rfl rfl ?_; first
 | refine ⟨_, Zx rfl rfl (by omega), ?_⟩
 | refine ⟨_, Zb rfl rfl (by omega) (by assumption), ?_⟩
      ))
  refine Yw 30 rfl (fun j => [(9, .ro (Xc [b])), (10, .int 1), (0, .fn (.func 167) [] []), (1, .int (if j = 0 then a else if a < b then b else a)), (11, .int (j : Int))]) (fun _ => []) (fun _ => True) 1 0 (Nat.zero_le _) trivial ⟨rfl, rfl, rfl, rfl, rfl, trivial⟩ rfl fun j hj _ next => ?_
  by_cases hlt : j < 1
  · obtain rfl : j = 0 := by omega
    have hz : [b][((0 : Nat) : Int).toNat]? = some b := rfl
    by_cases h : a < b
    · repeat' (first
 | refine Rk Zu hn rfl ?_
 | refine Rl ?_
 | refine Zc 30 rfl ?_
 | (refine Zg hn rfl rfl rfl ?_; first
 | refine ⟨_, K2 rfl h1 (.cons .ro (.cons .ro .nil)), ?_⟩)
 | (refine Rj 30 rfl ?_; first | refine Zp rfl ?_ | refine Zz rfl ?_ | ((first | refine Zd rfl ?_ ?_ | refine Ze rfl ?_ ?_); · first | omega | rfl | assumption | (simp only [lmT]; omega)) | ((first | refine Zf rfl ?_ ?_ | refine Za rfl ?_ ?_); · first | omega | rfl | assumption | (simp only [lmT]; omega)) | refine Ri (Zt hm rfl rfl ?_) | exact Ri (Zj hm rfl rfl rfl (nbT rfl) rfl rfl))
 | (refine Zg hn rfl rfl rfl ?_; first
 | refine ⟨_, Zx rfl rfl (by omega), ?_⟩
 | refine ⟨_, Zb rfl rfl (by omega) (by assumption), ?_⟩
        ))
      exact next _ _ ⟨rfl, rfl, rfl, by simp only [look]; exact Ko (by simp [h]), rfl, trivial⟩ hlt trivial rfl
    · repeat' (first
 | refine Rk Zu hn rfl ?_
 | refine Rl ?_
 | refine Zc 30 rfl ?_
 | (refine Zg hn rfl rfl rfl ?_; first
 | refine ⟨_, K2 rfl h1 (.cons .ro (.cons .ro .nil)), ?_⟩)
 | (refine Rj 30 rfl ?_; first | refine Zp rfl ?_ | refine Zz rfl ?_ | ((first | refine Zd rfl ?_ ?_ | refine Ze rfl ?_ ?_); · first | omega | rfl | assumption | (simp only [lmT]; omega)) | ((first | refine Zf rfl ?_ ?_ | refine Za rfl ?_ ?_); · first | omega | rfl | assumption | (simp only [lmT]; omega)) | refine Ri (Zt hm rfl rfl ?_) | exact Ri (Zj hm rfl rfl rfl (nbT rfl) rfl rfl))
 | (refine Zg hn rfl rfl rfl ?_; first
 | refine ⟨_, Zx rfl rfl (by omega), ?_⟩
 | refine ⟨_, Zb rfl rfl (by omega) (by assumption), ?_⟩
        ))
      exact next _ _ ⟨rfl, rfl, rfl, by simp only [look]; exact Ko (by simp [h]), rfl, trivial⟩ hlt trivial rfl
  · obtain rfl : j = 1 := by omega
    repeat' (first
 | refine Rk Zu hn rfl ?_
 | refine Rl ?_
 | refine Zc 30 rfl ?_
 | (refine Rj 30 rfl ?_; first | refine Zp rfl ?_ | refine Zz rfl ?_ | ((first | refine Zd rfl ?_ ?_ | refine Ze rfl ?_ ?_); · first | omega | rfl | assumption | (simp only [lmT]; omega)) | ((first | refine Zf rfl ?_ ?_ | refine Za rfl ?_ ?_); · first | omega | rfl | assumption | (simp only [lmT]; omega)) | refine Ri (Zt hm rfl rfl ?_) | exact Ri (Zj hm rfl rfl rfl (nbT rfl) rfl rfl))
 | (refine Zg hn rfl rfl rfl ?_; first
 | refine ⟨_, Zx rfl rfl (by omega), ?_⟩
 | refine ⟨_, Zb rfl rfl (by omega) (by assumption), ?_⟩
        ))
    exact Xx rfl
theorem Bl (a b : Int) : ACv Try.prog 142 [.int a, .int b] (.int (mx a b)) := by
  have hp := Pb a b
  refine Yh Try.func142 rfl _ Try.ntmps142 (by simp) fun C hn hm => ?_
  repeat' (first
 | refine Rk Zu hn rfl ?_
 | refine Rl ?_
 | refine Zc 30 rfl ?_
 | (refine Zg hn rfl rfl rfl ?_; first
 | refine ⟨_, Iz hp (.cons (LendsA.fn .nil .nil) (.cons (Lt Lends.ro) (.cons (Lt Lends.ro) .nil))), ?_⟩)
 | (refine Rj 30 rfl ?_; first | ((first | refine Zd rfl ?_ ?_ | refine Ze rfl ?_ ?_); · first | omega | rfl | assumption | (simp only [lmT]; omega)) | ((first | refine Zf rfl ?_ ?_ | refine Za rfl ?_ ?_); · first | omega | rfl | assumption | (simp only [lmT]; omega)) | refine Ri (Zt hm rfl rfl ?_) | exact Ri (Zj hm rfl rfl rfl (nbT rfl) rfl rfl))
 | (refine Zg hn rfl rfl rfl ?_; first
 | refine ⟨_, Zr rfl rfl rfl rfl rfl rfl, ?_⟩))
  exact Xx rfl
def X1 (p : Prg) : Nat → Nat → Int
  | 0, _ => 0
  | k + 1, j => if 2 ≤ k ∧ opA p k = 9 ∧ bo p k = j then mx (X1 p k j) ((if opA p ((k : Int) - 1) = 7 then 2 else 1) + X1 p k (bo p (aA p k)).toNat) else X1 p k j
theorem V1 (p : Prg) : ∀ k j, 0 ≤ X1 p k j ∧ X1 p k j ≤ 2 * k
  | 0, j => ⟨Int.le_refl _, by simp [X1]⟩
  | k + 1, j => by
    have h1 := V1 p k j
    have h2 := V1 p k (bo p (aA p k)).toNat
    rw [X1]
    unfold mx
    split
    · split <;> split <;> omega
    · omega
theorem needF_two (p : Prg) : X1 p 2 = fun _ => 0 := by
  funext j
  simp [X1]
theorem Pf {p : Prg} {k : Nat} (h : opA p k ≠ 9) : X1 p (k + 1) = X1 p k := by
  funext j
  rw [X1, if_neg fun h' => h h'.2.1]
theorem Pg {p : Prg} {k b : Nat} (h2 : 2 ≤ k) (h : opA p k = 9) (hb : bo p k = b) : X1 p (k + 1) = Hn (X1 p k) b (mx (X1 p k b) ((if opA p ((k : Int) - 1) = 7 then 2 else 1) + X1 p k (bo p (aA p k)).toNat)) := by
  funext j
  rw [X1]
  unfold Hn
  by_cases e : j = b
  · subst e; rw [if_pos ⟨h2, h, hb⟩, if_pos rfl]
  · rw [if_neg fun h' => e (by have := h'.2.2; omega), if_neg e]
section
variable {p : Prg}
theorem bo_block (hF : FrameP p) {b : Nat} {e k : Int} (he : p.entries[b]? = some e) (h1 : e ≤ k) (h2 : k < endA p b) : bo p k = b := by
  have hb := (P8.1 he).1
  have hge := Tg he h1 p.entries.length hb (Nat.le_refl _)
  have hbd := Th p.entries k p.entries.length
  obtain ⟨m, hm⟩ : ∃ m : Nat, Vc p.entries k p.entries.length = m := ⟨(Vc p.entries k p.entries.length).toNat, by omega⟩
  obtain ⟨e', g1, g2, g3, _⟩ := Gi _ m (Nat.le_refl _) hm
  show Vc p.entries k p.entries.length = b
  rw [hm]
  refine Classical.byContradiction fun hne => ?_
  have hbm : b < m := by omega
  have hn : b + 1 < p.entries.length := by omega
  have hz := P9 hn
  rw [Qk hz] at h2
  by_cases e2 : b + 1 = m
  · subst e2; rw [hz] at g1; injection g1 with g1; omega
  · have := hF.mono m (b + 1) _ e' (by omega) hz g1; omega
theorem call_bo (hS : Kq p) {b : Nat} {e k : Int} {x : Ins} (he : p.entries[b]? = some e) (h1 : e ≤ k) (h2 : k < endA p b) (hx : p.code[k.toNat]? = some x) (ho : x.op = 9) : 0 ≤ bo p x.a ∧ bo p x.a < p.entries.length := by
  have hP := ((hS.2 b e he).2 k x h1 h2 hx).2.1 ho
  obtain ⟨j, hj⟩ := List.getElem?_of_mem hP
  rw [List.getElem?_take] at hj
  split at hj
  · have hb := (P8.1 hj).1
    have := Tg hj (Int.le_refl x.a) p.entries.length hb (Nat.le_refl _)
    exact ⟨by unfold bo; omega, (Th _ _ _).2⟩
  · simp at hj
end
def need (p : Prg) : Int := 1 + X1 p p.code.length (p.entries.length - 1)
noncomputable def Is (p : Prg) : Int := open Classical in if Kq p then need p else -1
set_option maxHeartbeats 16000000 in
theorem Jd (p : Prg) (hB : PrgB p) (hS : Kq p) : ACv Try.prog 100 [E8 p] (.int (need p)) := by
  have hlm : (p.entries.map fun z => [RV.int z]).length = p.entries.length := lmT ..
  have hlc : (p.code.map Vr).length = p.code.length := lmT ..
  have hF := hS.1
  have h700 := hF.len
  have hb2 := hB.ents
  have hel : p.entries.length ≤ maxLen := by unfold maxLen; omega
  have hne : 0 < p.entries.length := (P8.1 hF.first).1
  refine Yh Try.func100 rfl _ Try.ntmps100 (by simp) fun C hn hm => ?_
  repeat' (first
 | refine Rk Zu hn rfl ?_
 | refine Rl ?_
 | refine Zc 30 rfl ?_
 | refine Le rfl rfl rfl rfl (by simp only [lmT]; omega) (by unfold maxLen; simp only [lmT]; omega) (tl hn rfl) ?_
 | (refine Rj 30 rfl ?_; first | ((first | refine Zd rfl ?_ ?_ | refine Ze rfl ?_ ?_); · first | omega | rfl | assumption | (simp only [lmT]; omega)) | ((first | refine Zf rfl ?_ ?_ | refine Za rfl ?_ ?_); · first | omega | rfl | assumption | (simp only [lmT]; omega)) | refine Ri (Zt hm rfl rfl ?_) | exact Ri (Zj hm rfl rfl rfl (nbT rfl) rfl rfl))
 | refine Z1 rfl (tl hn rfl) ?_
 | refine Rm Zu hn rfl rfl ?_
 | refine Rn ?_
 | refine Z2 30 Ym hn rfl (by kernel_rfl) rfl ?_
 | ((first | refine Zg hn rfl rfl rfl ?_ | refine Zm rfl rfl ?_); first
 | refine ⟨_, Zx rfl rfl (by omega), ?_⟩
 | refine ⟨_, Zb rfl rfl (by omega) (by assumption), ?_⟩
 | refine ⟨_, Z4 rfl rfl (by omega), ?_⟩
 | refine ⟨_, Zv rfl rfl rfl, ?_⟩
 | refine ⟨_, Z7 rfl rfl (by omega), ?_⟩
 | refine ⟨_, Zr rfl rfl rfl rfl rfl rfl, ?_⟩))
  refine Yw 30 rfl (fun b => [(1, .obj 0 0), (3, .own 1), (13, .int (p.entries.length : Int)), (14, .int (b : Int))]) (fun b => [⟨62, 0, [.ro (Ul p.code), .ro (Xc p.entries)]⟩, ⟨3, 1, Q4 p.entries.length (X1 p (endA p ((b : Int) - 1)).toNat)⟩]) (fun _ => True) p.entries.length 0 (Nat.zero_le _) trivial ⟨rfl, rfl, by simp only [look]; exact congrArg (fun z : Nat => AV.int (z : Int)) hlm, rfl, trivial⟩ (by
    have e0 : endA p (((0 : Nat) : Int) - 1) = 2 := by
      unfold endA
      rw [show (((0 : Nat) : Int) - 1 + 1).toNat = 0 by rfl, hF.first]
    rw [e0, show (2 : Int).toNat = 2 by rfl, needF_two, ← Pn]
    simp only [lmT]
    rfl) fun b hb _ next2 => ?_
  by_cases hlt2 : b < p.entries.length
  · obtain ⟨e, he⟩ : ∃ e, p.entries[(b : Int).toNat]? = some e := ⟨_, P9 hlt2⟩
    have he' : p.entries[b]? = some e := he
    have hend := J0 p b (by omega) (by omega) hel
    have hlt := hF.lt_end he'
    have hle := hF.end_le b
    have h2 := hF.two he'
    have est : endA p ((b : Int) - 1) = e := by
      unfold endA
      rw [show ((b : Int) - 1 + 1).toNat = b by omega, he']
    rw [est]
    repeat' (first
 | refine Rk Zu hn rfl ?_
 | refine Rl ?_
 | refine Zc 30 rfl ?_
 | (refine Rj 30 rfl ?_; first | ((first | refine Zd rfl ?_ ?_ | refine Ze rfl ?_ ?_); · first | omega | rfl | assumption | (simp only [lmT]; omega)) | ((first | refine Zf rfl ?_ ?_ | refine Za rfl ?_ ?_); · first | omega | rfl | assumption | (simp only [lmT]; omega)) | refine Ri (Zt hm rfl rfl ?_) | exact Ri (Zj hm rfl rfl rfl (nbT rfl) rfl rfl))
 | refine Z1 rfl (tl hn rfl) ?_
 | refine Rm Zu hn rfl rfl ?_
 | refine Rn ?_
 | refine Z2 30 Ym hn rfl (by kernel_rfl) rfl ?_
 | ((first | refine Zg hn rfl rfl rfl ?_ | refine Zm rfl rfl ?_); first
 | refine ⟨_, Zx rfl rfl (by omega), ?_⟩
 | refine ⟨_, Zb rfl rfl (by omega) (by assumption), ?_⟩
 | refine ⟨_, Z4 rfl rfl (by omega), ?_⟩
 | refine ⟨_, Zv rfl rfl rfl, ?_⟩
 | refine ⟨_, Z7 rfl rfl (by omega), ?_⟩
 | refine ⟨_, Zr rfl rfl rfl rfl rfl rfl, ?_⟩))
    refine Yw 30 rfl (fun m => [(1, .obj 0 0), (3, .own 1), (13, .int (p.entries.length : Int)), (14, .int (b : Int)), (4, .int (b : Int)), (5, .int (e + m))]) (fun m => [⟨62, 0, [.ro (Ul p.code), .ro (Xc p.entries)]⟩, ⟨3, 1, Q4 p.entries.length (X1 p (e + m).toNat)⟩]) (fun _ => True) (endA p b - e).toNat 0 (Nat.zero_le _) trivial ⟨rfl, rfl, rfl, rfl, rfl, by simp only [look]; exact Ko (by omega), trivial⟩ (by rw [show e + ((0 : Nat) : Int) = e by omega]) fun m hm' _ next3 => ?_
    by_cases hlt3 : m < (endA p b - e).toNat
    · obtain ⟨x, hx⟩ : ∃ x, p.code[(e + m).toNat]? = some x := ⟨_, P9 (by omega)⟩
      obtain ⟨y, hy⟩ : ∃ y, p.code[(e + m - 1).toNat]? = some y := ⟨_, P9 (by omega)⟩
      have ho : opA p (e + m) = x.op := N4 (by omega) hx
      have hoy : opA p (e + m - 1) = y.op := N4 (by omega) hy
      have ha : aA p (e + m) = x.a := In (by omega) hx
      have hnx : e + ((m + 1 : Nat) : Int) = e + m + 1 := by omega
      have hnt : (e + ((m + 1 : Nat) : Int)).toNat = (e + m).toNat + 1 := by omega
      have hkk : (((e + m).toNat : Nat) : Int) = e + m := by omega
      by_cases h9 : x.op = 9
      · have hbo := bo_block hF he' (show e ≤ e + m by omega) (by omega)
        have hcb := call_bo hS he' (show e ≤ e + m by omega) (by omega) hx h9
        have hbl := Bn p x.a hel
        have hbd := V1 p (e + m).toNat (bo p x.a).toNat
        have hmx := fun v => Bl (X1 p (e + m).toNat b) v
        have hcall := Pg (p := p) (k := (e + m).toNat) (b := b) (by omega) (by rw [hkk, ho, h9]) (by rw [hkk]; exact hbo)
        rw [hkk, hoy, ha] at hcall
        have ib : (b : Int).toNat * 1 = b := by omega
        by_cases h7 : y.op = 7
        · rw [if_pos h7] at hcall
          have e1 : 1 + X1 p (e + m).toNat (bo p x.a).toNat + 1 = 2 + X1 p (e + m).toNat (bo p x.a).toNat := by omega
          repeat' (first
 | ((first | refine Zg hn rfl rfl rfl ?_ | refine Zm rfl rfl ?_); first
 | refine ⟨_, Jr (tt := 3) (n := p.entries.length) rfl rfl rfl (by omega), ?_⟩)
 | refine Rk Zu hn rfl ?_
 | refine Rl ?_
 | refine Zc 30 rfl ?_
 | refine Db (n := p.entries.length) rfl rfl rfl rfl (by omega) ?_
 | ((first | refine Zg hn rfl rfl rfl ?_ | refine Zm rfl rfl ?_); first
 | refine ⟨_, Zw hend rfl, ?_⟩
 | refine ⟨_, Zw hbl rfl, ?_⟩
 | refine ⟨_, Zw (Bl _ _) rfl, ?_⟩
 | refine ⟨_, Yl (sz := 1) (n := p.entries.length) rfl rfl rfl rfl (K6 _ _) (by omega) (by omega), ?_⟩
 | refine ⟨_, Zx rfl rfl (by have := V1 p (e + m).toNat ((bo p x.a).toNat * 1); omega), ?_⟩)
 | (refine Rj 30 rfl ?_; first | ((first | refine Zd rfl ?_ ?_ | refine Ze rfl ?_ ?_); · first | omega | rfl | assumption | (simp only [lmT]; omega)) | ((first | refine Zf rfl ?_ ?_ | refine Za rfl ?_ ?_); · first | omega | rfl | assumption | (simp only [lmT]; omega)) | refine Ri (Zt hm rfl rfl ?_) | exact Ri (Zj hm rfl rfl rfl (nbT rfl) rfl rfl))
 | refine Z1 rfl (tl hn rfl) ?_
 | refine Rm Zu hn rfl rfl ?_
 | refine Rn ?_
 | refine Z2 30 Ym hn rfl (by kernel_rfl) rfl ?_
 | ((first | refine Zg hn rfl rfl rfl ?_ | refine Zm rfl rfl ?_); first
 | refine ⟨_, Zx rfl rfl (by omega), ?_⟩
 | refine ⟨_, Zb rfl rfl (by omega) (by assumption), ?_⟩
 | refine ⟨_, Z4 rfl rfl (by omega), ?_⟩
 | refine ⟨_, Zv rfl rfl rfl, ?_⟩
 | refine ⟨_, Z7 rfl rfl (by omega), ?_⟩
 | refine ⟨_, Zr rfl rfl rfl rfl rfl rfl, ?_⟩))
          refine next3 _ _ ⟨rfl, rfl, rfl, rfl, rfl, by simp only [look]; exact Ko (by omega), trivial⟩ hlt3 trivial ?_
          rw [hnt, hcall]
          simp only [ib, Nat.mul_one, e1]
          rfl
        · rw [if_neg h7] at hcall
          repeat' (first
 | ((first | refine Zg hn rfl rfl rfl ?_ | refine Zm rfl rfl ?_); first
 | refine ⟨_, Jr (tt := 3) (n := p.entries.length) rfl rfl rfl (by omega), ?_⟩)
 | refine Rk Zu hn rfl ?_
 | refine Rl ?_
 | refine Zc 30 rfl ?_
 | refine Db (n := p.entries.length) rfl rfl rfl rfl (by omega) ?_
 | ((first | refine Zg hn rfl rfl rfl ?_ | refine Zm rfl rfl ?_); first
 | refine ⟨_, Zw hend rfl, ?_⟩
 | refine ⟨_, Zw hbl rfl, ?_⟩
 | refine ⟨_, Zw (Bl _ _) rfl, ?_⟩
 | refine ⟨_, Yl (sz := 1) (n := p.entries.length) rfl rfl rfl rfl (K6 _ _) (by omega) (by omega), ?_⟩
 | refine ⟨_, Zx rfl rfl (by have := V1 p (e + m).toNat ((bo p x.a).toNat * 1); omega), ?_⟩)
 | (refine Rj 30 rfl ?_; first | ((first | refine Zd rfl ?_ ?_ | refine Ze rfl ?_ ?_); · first | omega | rfl | assumption | (simp only [lmT]; omega)) | ((first | refine Zf rfl ?_ ?_ | refine Za rfl ?_ ?_); · first | omega | rfl | assumption | (simp only [lmT]; omega)) | refine Ri (Zt hm rfl rfl ?_) | exact Ri (Zj hm rfl rfl rfl (nbT rfl) rfl rfl))
 | refine Z1 rfl (tl hn rfl) ?_
 | refine Rm Zu hn rfl rfl ?_
 | refine Rn ?_
 | refine Z2 30 Ym hn rfl (by kernel_rfl) rfl ?_
 | ((first | refine Zg hn rfl rfl rfl ?_ | refine Zm rfl rfl ?_); first
 | refine ⟨_, Zx rfl rfl (by omega), ?_⟩
 | refine ⟨_, Zb rfl rfl (by omega) (by assumption), ?_⟩
 | refine ⟨_, Z4 rfl rfl (by omega), ?_⟩
 | refine ⟨_, Zv rfl rfl rfl, ?_⟩
 | refine ⟨_, Z7 rfl rfl (by omega), ?_⟩
 | refine ⟨_, Zr rfl rfl rfl rfl rfl rfl, ?_⟩))
          refine next3 _ _ ⟨rfl, rfl, rfl, rfl, rfl, by simp only [look]; exact Ko (by omega), trivial⟩ hlt3 trivial ?_
          rw [hnt, hcall]
          simp only [ib, Nat.mul_one]
          rfl
      · have hsk := Pf (p := p) (k := (e + m).toNat) (by rw [hkk, ho]; exact h9)
        repeat' (first
 | refine Rk Zu hn rfl ?_
 | refine Rl ?_
 | refine Zc 30 rfl ?_
 | ((first | refine Zg hn rfl rfl rfl ?_ | refine Zm rfl rfl ?_); first
 | refine ⟨_, Zw hend rfl, ?_⟩)
 | (refine Rj 30 rfl ?_; first | ((first | refine Zd rfl ?_ ?_ | refine Ze rfl ?_ ?_); · first | omega | rfl | assumption | (simp only [lmT]; omega)) | ((first | refine Zf rfl ?_ ?_ | refine Za rfl ?_ ?_); · first | omega | rfl | assumption | (simp only [lmT]; omega)) | refine Ri (Zt hm rfl rfl ?_) | exact Ri (Zj hm rfl rfl rfl (nbT rfl) rfl rfl))
 | refine Z1 rfl (tl hn rfl) ?_
 | refine Rm Zu hn rfl rfl ?_
 | refine Rn ?_
 | refine Z2 30 Ym hn rfl (by kernel_rfl) rfl ?_
 | ((first | refine Zg hn rfl rfl rfl ?_ | refine Zm rfl rfl ?_); first
 | refine ⟨_, Zx rfl rfl (by omega), ?_⟩
 | refine ⟨_, Zb rfl rfl (by omega) (by assumption), ?_⟩
 | refine ⟨_, Z4 rfl rfl (by omega), ?_⟩
 | refine ⟨_, Zv rfl rfl rfl, ?_⟩
 | refine ⟨_, Z7 rfl rfl (by omega), ?_⟩
 | refine ⟨_, Zr rfl rfl rfl rfl rfl rfl, ?_⟩))
        refine next3 _ _ ⟨rfl, rfl, rfl, rfl, rfl, by simp only [look]; exact Ko (by omega), trivial⟩ hlt3 trivial ?_
        rw [hnt, hsk]
    · repeat' (first
 | refine Rk Zu hn rfl ?_
 | refine Rl ?_
 | refine Zc 30 rfl ?_
 | ((first | refine Zg hn rfl rfl rfl ?_ | refine Zm rfl rfl ?_); first
 | refine ⟨_, Zw hend rfl, ?_⟩)
 | (refine Rj 30 rfl ?_; first | ((first | refine Zd rfl ?_ ?_ | refine Ze rfl ?_ ?_); · first | omega | rfl | assumption | (simp only [lmT]; omega)) | ((first | refine Zf rfl ?_ ?_ | refine Za rfl ?_ ?_); · first | omega | rfl | assumption | (simp only [lmT]; omega)) | refine Ri (Zt hm rfl rfl ?_) | exact Ri (Zj hm rfl rfl rfl (nbT rfl) rfl rfl))
 | refine Z1 rfl (tl hn rfl) ?_
 | refine Rm Zu hn rfl rfl ?_
 | refine Rn ?_
 | refine Z2 30 Ym hn rfl (by kernel_rfl) rfl ?_
 | ((first | refine Zg hn rfl rfl rfl ?_ | refine Zm rfl rfl ?_); first
 | refine ⟨_, Zx rfl rfl (by omega), ?_⟩
 | refine ⟨_, Zb rfl rfl (by omega) (by assumption), ?_⟩
 | refine ⟨_, Z4 rfl rfl (by omega), ?_⟩
 | refine ⟨_, Zv rfl rfl rfl, ?_⟩
 | refine ⟨_, Z7 rfl rfl (by omega), ?_⟩
 | refine ⟨_, Zr rfl rfl rfl rfl rfl rfl, ?_⟩))
      refine next2 _ _ ⟨rfl, rfl, rfl, rfl, trivial⟩ hlt2 trivial ?_
      rw [show (((b + 1 : Nat) : Int) - 1) = b by omega, show endA p b = e + m by omega]
  · obtain rfl : b = p.entries.length := by omega
    have est : endA p ((p.entries.length : Int) - 1) = p.code.length := by
      unfold endA
      rw [show ((p.entries.length : Int) - 1 + 1).toNat = p.entries.length by omega, List.getElem?_eq_none (Nat.le_refl _)]
    rw [est, Int.toNat_natCast]
    have hbd := V1 p p.code.length (p.entries.length - 1)
    have il : ((p.entries.length : Int) - 1).toNat * 1 = p.entries.length - 1 := by omega
    have hix : ∀ i, ((p.entries.length : Int) - 1).toNat * 1 = i → X1 p p.code.length i = X1 p p.code.length (p.entries.length - 1) := fun i hi => by rw [← hi, il]
    have hbd2 := hix _ rfl
    repeat' (first
 | ((first | refine Zg hn rfl rfl rfl ?_ | refine Zm rfl rfl ?_); first
 | refine ⟨_, Jr (tt := 3) (n := p.entries.length) rfl rfl rfl (by omega), ?_⟩)
 | refine Rk Zu hn rfl ?_
 | refine Rl ?_
 | refine Zc 30 rfl ?_
 | ((first | refine Zg hn rfl rfl rfl ?_ | refine Zm rfl rfl ?_); first
 | refine ⟨_, Yp (n := p.entries.length) rfl rfl (K6 _ _), ?_⟩
 | refine ⟨_, Yl (sz := 1) (n := p.entries.length) rfl rfl rfl rfl (K6 _ _) (by omega) (by omega), ?_⟩)
 | (refine Rj 30 rfl ?_; first | ((first | refine Zd rfl ?_ ?_ | refine Ze rfl ?_ ?_); · first | omega | rfl | assumption | (simp only [lmT]; omega)) | ((first | refine Zf rfl ?_ ?_ | refine Za rfl ?_ ?_); · first | omega | rfl | assumption | (simp only [lmT]; omega)) | refine Ri (Zt hm rfl rfl ?_) | exact Ri (Zj hm rfl rfl rfl (nbT rfl) rfl rfl))
 | refine Z1 rfl (tl hn rfl) ?_
 | refine Rm Zu hn rfl rfl ?_
 | refine Rn ?_
 | refine Z2 30 Ym hn rfl (by kernel_rfl) rfl ?_
 | ((first | refine Zg hn rfl rfl rfl ?_ | refine Zm rfl rfl ?_); first
 | refine ⟨_, Zx rfl rfl (by omega), ?_⟩
 | refine ⟨_, Zb rfl rfl (by omega) (by assumption), ?_⟩
 | refine ⟨_, Z4 rfl rfl (by omega), ?_⟩
 | refine ⟨_, Zv rfl rfl rfl, ?_⟩
 | refine ⟨_, Z7 rfl rfl (by omega), ?_⟩
 | refine ⟨_, Zr rfl rfl rfl rfl rfl rfl, ?_⟩))
    exact Xx (by rw [hbd2]; rfl)
theorem Mv (p : Prg) (hB : PrgB p) : ACv Try.prog 43 [E8 p] (.int (Is p)) := by
  have h1 := Uz p hB
  unfold Is
  refine Yh Try.func43 rfl _ Try.ntmps43 (by simp) fun C hn hm => ?_
  by_cases hS : Kq p
  · have h2 := Jd p hB hS
    rw [if_pos hS]
    repeat' (first
 | refine Rk Zu hn rfl ?_
 | refine Rl ?_
 | refine Zc 30 rfl ?_
 | (refine Zg hn rfl rfl rfl ?_; first
 | refine ⟨_, Zw h1 rfl, ?_⟩
 | refine ⟨_, Zw h2 rfl, ?_⟩)
 | (refine Rj 30 rfl ?_; first | ((first | refine Zd rfl ?_ ?_ | refine Ze rfl ?_ ?_); · first | omega | rfl | assumption | (simp only [lmT]; omega)) | ((first | refine Zf rfl ?_ ?_ | refine Za rfl ?_ ?_); · first | omega | rfl | assumption | (simp only [lmT]; omega)) | refine Ri (Zt hm rfl rfl ?_) | exact Ri (Zj hm rfl rfl rfl (nbT rfl) rfl rfl))
 | refine Z1 rfl (tl hn rfl) ?_
      )
    exact Xx rfl
  · rw [if_neg hS]
    repeat' (first
 | refine Rk Zu hn rfl ?_
 | refine Rl ?_
 | refine Zc 30 rfl ?_
 | (refine Zg hn rfl rfl rfl ?_; first
 | refine ⟨_, Zw h1 rfl, ?_⟩)
 | (refine Rj 30 rfl ?_; first | ((first | refine Zd rfl ?_ ?_ | refine Ze rfl ?_ ?_); · first | omega | rfl | assumption | (simp only [lmT]; omega)) | ((first | refine Zf rfl ?_ ?_ | refine Za rfl ?_ ?_); · first | omega | rfl | assumption | (simp only [lmT]; omega)) | refine Ri (Zt hm rfl rfl ?_) | exact Ri (Zj hm rfl rfl rfl (nbT rfl) rfl rfl))
 | refine Z1 rfl (tl hn rfl) ?_
      )
    all_goals exact Xx rfl
theorem Mx (p : Prg) (hB : PrgB p) : ACv Try.prog 50 [E8 p] (.bool (decide (Kq p ∧ need p ≤ 60))) := by
  have h1 := Uz p hB
  refine Yh Try.func50 rfl _ Try.ntmps50 (by simp) fun C hn hm => ?_
  by_cases hS : Kq p
  · have h2 := Jd p hB hS
    repeat' (first
 | refine Rk Zu hn rfl ?_
 | refine Rl ?_
 | refine Zc 30 rfl ?_
 | (refine Zg hn rfl rfl rfl ?_; first
 | refine ⟨_, Zw h1 rfl, ?_⟩
 | refine ⟨_, Zw h2 rfl, ?_⟩)
 | (refine Rj 30 rfl ?_; first | ((first | refine Zd rfl ?_ ?_ | refine Ze rfl ?_ ?_); · first | omega | rfl | assumption | (simp only [lmT]; omega)) | ((first | refine Zf rfl ?_ ?_ | refine Za rfl ?_ ?_); · first | omega | rfl | assumption | (simp only [lmT]; omega)) | refine Ri (Zt hm rfl rfl ?_) | exact Ri (Zj hm rfl rfl rfl (nbT rfl) rfl rfl))
 | refine Z1 rfl (tl hn rfl) ?_
 | ((first | refine Zi rfl rfl rfl ?_ ?_ | refine Zh rfl rfl rfl ?_ ?_ | refine Zk rfl rfl rfl ?_ ?_ | refine Zl rfl rfl rfl ?_ ?_) <;> intro h <;> try (exfalso; first | omega | contradiction | (simp only [lmT] at h; omega))))
    all_goals exact Yf (by rw [Bool.eq_iff_iff]; simp [*])
  · repeat' (first
 | refine Rk Zu hn rfl ?_
 | refine Rl ?_
 | refine Zc 30 rfl ?_
 | (refine Zg hn rfl rfl rfl ?_; first
 | refine ⟨_, Zw h1 rfl, ?_⟩)
 | (refine Rj 30 rfl ?_; first | ((first | refine Zd rfl ?_ ?_ | refine Ze rfl ?_ ?_); · first | omega | rfl | assumption | (simp only [lmT]; omega)) | ((first | refine Zf rfl ?_ ?_ | refine Za rfl ?_ ?_); · first | omega | rfl | assumption | (simp only [lmT]; omega)) | refine Ri (Zt hm rfl rfl ?_) | exact Ri (Zj hm rfl rfl rfl (nbT rfl) rfl rfl))
 | refine Z1 rfl (tl hn rfl) ?_
 | ((first | refine Zi rfl rfl rfl ?_ ?_ | refine Zh rfl rfl rfl ?_ ?_ | refine Zk rfl rfl rfl ?_ ?_ | refine Zl rfl rfl rfl ?_ ?_) <;> intro h <;> try (exfalso; first | omega | contradiction | (simp only [lmT] at h; omega))))
    all_goals exact Yf (decide_eq_false (p := Kq p ∧ need p ≤ 60) fun h => hS h.1).symm
theorem O5 {d : Des} (hD : DrawD d) {j : Nat} {x : Rul} (hx : d[j]? = some x) (s : Int) (en : List Int) : 1 ≤ (Xm x s en).length ∧ (Xm x s en).length ≤ 12 := by
  have hlen := hD.lens hx
  have hc := Un x.kids en x.tags.length
  unfold Xm Xe
  rw [Ra, Rf]
  repeat' split
  all_goals simp only [Rb, Rc, lmT, Ra, Vh]
  all_goals omega
theorem Or (d : Des) : ∀ n b : Nat, b ≤ n → (cdE d n).take b = cdE d b
  | 0, b, h => by
    obtain rfl : b = 0 := by omega
    simp [cdE]
  | n + 1, b, h => by
    by_cases e : b = n + 1
    · subst e; rw [List.take_of_length_le (by rw [Vt]; exact Nat.le_refl _)]
    · rw [cdE, List.take_append_of_le_length (by rw [Vt]; omega)]
      exact Or d n b (by omega)
theorem T4 {d : Des} {n : Nat} {a : Int} (h : a ∈ cdE d n) : ∃ j, j < n ∧ a = (stA d j : Int) := by
  obtain ⟨j, hj⟩ := List.getElem?_of_mem h
  have hl := (P8.1 hj).1
  rw [Vt] at hl
  rw [Ot d n j hl] at hj
  injection hj with hj
  exact ⟨j, hl, hj.symm⟩
theorem Vz (d : Des) : ∀ m j : Nat, j ≤ m → stA d j ≤ stA d m
  | 0, j, h => by
    obtain rfl : j = 0 := by omega
    exact Nat.le_refl _
  | m + 1, j, h => by
    by_cases e : j = m + 1
    · subst e; exact Nat.le_refl _
    · have := Vz d m j (by omega)
      rw [W2]; omega
theorem M7 (d : Des) : ∀ (n i : Nat), 2 ≤ i → i < stA d n → ∃ j, j < n ∧ stA d j ≤ i ∧ i < stA d (j + 1)
  | 0, i, h, hi => by simp [stA, cdT] at hi; omega
  | n + 1, i, h, hi => by
    by_cases e : i < stA d n
    · obtain ⟨j, h1, h2, h3⟩ := M7 d n i h e
      exact ⟨j, by omega, h2, h3⟩
    · exact ⟨n, by omega, by omega, hi⟩
section
variable {d : Des} (hD : DrawD d)
include hD
theorem Jk {j : Nat} (hj : j < d.length) : 1 ≤ (blk d j).length ∧ (blk d j).length ≤ 12 := by
  have hx : d[j]? = some _ := P9 hj
  rw [Nb hD hx]
  exact O5 hD hx _ _
theorem Ak : ∀ j : Nat, j ≤ d.length → stA d j ≤ 2 + 12 * j
  | 0, _ => by simp [stA, cdT]
  | j + 1, h => by
    have h1 := Ak j (by omega)
    have h2 := Jk hD (j := j) (by omega)
    rw [W2]; omega
theorem Me : (cdF d).code.length ≤ 74 := by
  have h1 := Ak hD d.length (Nat.le_refl _)
  have h2 := hD.most
  rw [Qm hD]; omega
theorem W7 {j i : Nat} {y : Ins} (hj : j < d.length) (hy : (blk d j)[i]? = some y) : Loc (stA d j : Int) (cdE d j) (blk d j) i y := by
  have hx : d[j]? = some _ := P9 hj
  have hs := Ak hD j (by omega)
  have hm := hD.most
  rw [Nb hD hx] at hy ⊢
  exact rule_loc hD hx _ (by omega) _ (Vt d j) i y hy
theorem Uv {j i : Nat} {y : Ins} (hj : j < d.length) (hy : (blk d j)[i]? = some y) (k : Int) (hk : k = (stA d j : Int) + (i : Int)) : (cdF d).code[k.toNat]? = some y ∧ opA (cdF d) k = y.op ∧ aA (cdF d) k = y.a := by
  have hi := (P8.1 hy).1
  have h1 : (cdF d).code[k.toNat]? = some y := by
    rw [show k.toNat = stA d j + i by omega, cdF_at hD hj hi]; exact hy
  exact ⟨h1, N4 (by omega) h1, In (by omega) h1⟩
theorem Td {j i : Nat} {y : Ins} (hj : j < d.length) (hy : (blk d j)[i]? = some y) (h7 : y.op = 7) : Q3 (cdF d) ((stA d j : Int) + (i : Int)) ∧ (∃ w, (blk d j)[i + 2]? = some w ∧ w.op = 8 ∧ w.a = (stA d j : Int) + (i : Int)) := by
  obtain ⟨m, y6, z, w, rfl, h6, h6o, hz, hzo, hw, hwo, hwa, hya, _⟩ := (W7 hD hj hy).loop h7
  obtain ⟨_, b1, b2⟩ := Uv hD hj hy ((stA d j : Int) + ((m + 1 : Nat) : Int)) rfl
  obtain ⟨_, b3, _⟩ := Uv hD hj h6 ((stA d j : Int) + ((m + 1 : Nat) : Int) - 1) (by omega)
  obtain ⟨_, b4, _⟩ := Uv hD hj hz ((stA d j : Int) + ((m + 1 : Nat) : Int) + 1) (by omega)
  obtain ⟨_, b5, b6⟩ := Uv hD hj hw ((stA d j : Int) + ((m + 1 : Nat) : Int) + 2) (by omega)
  exact ⟨⟨by omega, by omega, by omega, by omega, by omega, by omega⟩, w, hw, hwo, hwa⟩
theorem mark_at {j i : Nat} {y : Ins} (hj : j < d.length) (hy : (blk d j)[i]? = some y) (h14 : y.op = 14) : Dw (cdF d) ((stA d j : Int) + (i : Int)) := by
  obtain ⟨z, w, hz, hzo, hw, hwo⟩ := (W7 hD hj hy).mark h14
  obtain ⟨_, b1, _⟩ := Uv hD hj hy ((stA d j : Int) + (i : Int)) rfl
  obtain ⟨_, b2, _⟩ := Uv hD hj hz ((stA d j : Int) + (i : Int) + 1) (by omega)
  obtain ⟨_, b3, _⟩ := Uv hD hj hw ((stA d j : Int) + (i : Int) + 2) (by omega)
  exact ⟨by omega, by omega, by omega⟩
theorem last_ret {j : Nat} (hj : j < d.length) : opA (cdF d) (endA (cdF d) j - 1) = 10 := by
  have hx : d[j]? = some _ := P9 hj
  have hb := Jk hD hj
  have hlast : (blk d j)[(blk d j).length - 1]? = some ⟨10, 0, 0⟩ := by
    rw [Nb hD hx]
    unfold Xm
    rw [Ra, Rf, Nat.add_sub_cancel, Rh (Nat.le_refl _), Nat.sub_self]; rfl
  have he := end_at hD hj
  exact (Uv hD hj hlast (endA (cdF d) j - 1) (by omega)).2.1
theorem Ev : FrameP (cdF d) where
  len := by have := Me hD; omega
  first := by rw [Jz hD hD.pos]; simp [stA, cdT]
  op0 := by refine N4 (x := ⟨9, (stA d (d.length - 1) : Int), 0⟩) (Int.le_refl _) ?_; rw [V4 hD]; rfl
  op1 := by refine N4 (x := ⟨17, 0, 0⟩) (by omega) ?_; rw [V4 hD]; rfl
  last := by
    have hp := hD.pos
    rw [Qw hD, Jz hD (by omega)]
    congr 1
    refine (In (x := ⟨9, (stA d (d.length - 1) : Int), 0⟩) (Int.le_refl _) ?_).symm
    rw [V4 hD]; rfl
  ins := fun i hi => by
    have hp := hD.pos
    have hcl := Qm hD
    have hb0 := Jk hD (j := d.length - 1) (by omega)
    have hn := W2 d (d.length - 1)
    rw [show d.length - 1 + 1 = d.length by omega] at hn
    have h2 := Vz d (d.length - 1) 0 (by omega)
    have h20 : stA d 0 = 2 := by simp [stA, cdT]
    match i, hi with
    | 0, hi =>
      refine (V6 (x := ⟨9, (stA d (d.length - 1) : Int), 0⟩) (by rw [V4 hD]; rfl)).2 ⟨Int.le_refl _, ?_⟩
      refine ⟨by simp [Mq, InR], fun _ => ⟨by simp only; omega, by simp only; omega⟩, fun e => by simp at e, fun _ => ?_⟩
      show (0 : Int) + 1 < _; omega
    | 1, hi =>
      refine (V6 (x := ⟨17, 0, 0⟩) (by rw [V4 hD]; rfl)).2 ⟨by omega, ?_⟩
      exact ⟨by simp [Mq, InR], fun e => by simp at e, fun e => by simp at e, fun e => by simp [Goes] at e⟩
    | i + 2, hi =>
      obtain ⟨j, hj, h3, h4⟩ := M7 d d.length (i + 2) (by omega) (by omega)
      obtain ⟨t, ht⟩ : ∃ t, i + 2 = stA d j + t := ⟨i + 2 - stA d j, by omega⟩
      have hnx := W2 d j
      obtain ⟨y, hy⟩ : ∃ y, (blk d j)[t]? = some y := ⟨_, P9 (by omega)⟩
      have hL := W7 hD hj hy
      have hc := (Uv hD hj hy ((i + 2 : Nat) : Int) (by omega)).1
      have hjn := Vz d d.length (j + 1) (by omega)
      refine (V6 hc).2 ⟨by omega, hL.ok, fun h => ?_, fun h => ?_, fun h => ?_⟩
      · rcases h with h | h | h | h
        · obtain ⟨m, y6, z, w, rfl, h6, h6o, hz, hzo, hw, hwo, hwa, hya, hlt⟩ := hL.loop h
          omega
        · obtain ⟨m, y7, rfl, h7, h7o⟩ := hL.jump h
          obtain ⟨_, w, hw, _, hwa⟩ := Td hD hj h7 h7o
          rw [hy] at hw; injection hw with hw; subst hw
          omega
        · obtain ⟨j', hj', e⟩ := T4 (hL.call h)
          have := Vz d j j' (by omega)
          omega
        · have := hL.flag h; omega
      · have := hL.tag h; omega
      · have := hL.goes h; omega
  rise := fun i y z hy hz => by
    have hi := (P8.1 hz).1
    rw [Qw hD] at hi
    rw [Jz hD (by omega)] at hy
    rw [Jz hD hi] at hz
    injection hy with hy; injection hz with hz
    have h1 := W2 d i
    have h2 := Jk hD (j := i) (by omega)
    omega
theorem It : Kq (cdF d) := by
  refine ⟨Ev hD, fun b e he => ?_⟩
  have hb := (P8.1 he).1
  rw [Qw hD] at hb
  rw [Jz hD hb] at he
  injection he with he
  refine ⟨last_ret hD hb, fun k x h1 h2 hx => ?_⟩
  have hend := end_at hD hb
  obtain ⟨t, ht⟩ : ∃ t : Nat, k = (stA d b : Int) + (t : Int) := ⟨(k - stA d b).toNat, by omega⟩
  obtain ⟨y, hy⟩ : ∃ y, (blk d b)[t]? = some y := ⟨_, P9 (by omega)⟩
  obtain ⟨hc, ho, ha⟩ := Uv hD hb hy k ht
  rw [hc] at hx; injection hx with hx; subst hx
  have hL := W7 hD hb hy
  refine ⟨hL.no17, fun h => ?_, fun h => ?_, fun h => ?_, fun h => ?_, fun h => ?_, fun h => ?_, fun h => ?_, fun h => ?_⟩
  · rw [Lo hD, Or d _ _ (by omega)]; exact hL.call h
  · obtain ⟨m, y6, z, w, rfl, h6, h6o, hz, hzo, hw, hwo, hwa, hya, hlt⟩ := hL.loop h
    rw [ht]
    exact ⟨(Td hD hb hy h).1, by omega, by omega⟩
  · obtain ⟨m, y7, rfl, h7, h7o⟩ := hL.jump h
    have := (Td hD hb h7 h7o).1
    rwa [show k - 2 = (stA d b : Int) + (m : Int) by omega]
  · obtain ⟨y7, h7, h7o⟩ := hL.push h
    have := (Td hD hb h7 h7o).1
    rwa [show k + 1 = (stA d b : Int) + ((t + 1 : Nat) : Int) by omega]
  · have := hL.flag h; omega
  · have := hL.tag h; omega
  · rw [ht]; exact mark_at hD hb hy h
  · obtain ⟨m, y14, rfl, h14, h14o⟩ := hL.sum h
    have := mark_at hD hb h14 h14o
    rwa [show k - 2 = (stA d b : Int) + (m : Int) by omega]
theorem bo_at {j : Nat} (hj : j < d.length) {i : Int} (h1 : (stA d j : Int) ≤ i) (h2 : i < (stA d (j + 1) : Int)) : bo (cdF d) i = j := by
  unfold bo
  rw [Qw hD]
  suffices h : ∀ m, j < m → m ≤ d.length → Vc (cdF d).entries i m = j from h _ hj (Nat.le_refl _)
  intro m
  induction m with
  | zero => omega
  | succ m ih =>
    intro hm hmd
    rw [Qu (Jz hD (by omega))]
    by_cases e : j = m
    · subst e; rw [if_pos h1]
    · have := Vz d m (j + 1) (by omega)
      rw [if_neg (by omega)]
      exact ih (by omega) (by omega)
theorem need_le : ∀ k j : Nat, X1 (cdF d) k j ≤ 2 * (j : Int)
  | 0, j => by simp only [X1]; omega
  | k + 1, j => by
    have ih := need_le k
    rw [X1]
    split
    · rename_i h
      obtain ⟨h2, h9, hb⟩ := h
      have hin := N3 (p := cdF d) (i := (k : Int)) (by rw [h9]; decide)
      have hcl := Qm hD
      obtain ⟨b, hbn, h3, h4⟩ := M7 d d.length k h2 (by have := hin.2; omega)
      have hbo := bo_at hD hbn (i := (k : Int)) (by omega) (by omega)
      obtain rfl : b = j := by omega
      obtain ⟨t, ht⟩ : ∃ t : Nat, k = stA d b + t := ⟨k - stA d b, by omega⟩
      have hnx := W2 d b
      obtain ⟨y, hy⟩ : ∃ y, (blk d b)[t]? = some y := ⟨_, P9 (by omega)⟩
      obtain ⟨_, ho, ha⟩ := Uv hD hbn hy (k : Int) (by omega)
      obtain ⟨j', hj', e⟩ := T4 ((W7 hD hbn hy).call (by omega))
      have hnx' := W2 d j'
      have hb' := Jk hD (j := j') (by omega)
      have hbo' := bo_at hD (j := j') (by omega) (i := aA (cdF d) k) (by omega) (by omega)
      rw [hbo', Int.toNat_natCast]
      have i1 := ih b
      have i2 := ih j'
      unfold mx
      split <;> split <;> omega
    · exact ih j
theorem M4 : 1 ≤ need (cdF d) ∧ need (cdF d) ≤ 1 + 2 * (d.length : Int) := by
  have h1 := need_le hD (cdF d).code.length (d.length - 1)
  have h2 := V1 (cdF d) (cdF d).code.length (d.length - 1)
  unfold need
  rw [Qw hD]
  omega
end
section
variable {d : Des} (hD : DrawD d)
include hD
theorem safe_big : PrgB (cdF d) where
  code := by have := Me hD; omega
  ents := by have := Qw hD; have := hD.most; omega
  vals := fun z hz => by
    rw [Lo hD] at hz
    obtain ⟨j, hj, rfl⟩ := T4 hz
    have := Ak hD j (by omega)
    have := hD.most
    unfold I64; omega
end
structure Mch where
  pc : Int
  register : Int
  stack : List Int
  sums : List Int
  left : Int
  started : Bool
  escaped : Bool
  state : Int
  code : Int
  read : Int
deriving DecidableEq
def mchR (m : Mch) : RV := .agg [.int m.pc, .int m.register, Xc m.stack, Xc m.sums, .int m.left, .bool m.started, .bool m.escaped, .int m.state, .int m.code, .int m.read]
structure MchOk (m : Mch) : Prop where
  ats : I64 m.pc
  register : I64 m.register
  stack : ∀ z ∈ m.stack, I64 z
  sums : ∀ z ∈ m.sums, I64 z
  left : I64 m.left
  state : I64 m.state
  code : I64 m.code
  read : I64 m.read
  slen : m.stack.length ≤ maxLen
  tlen : m.sums.length ≤ maxLen
def Wh (m : Mch) (c : Int) : Mch := { m with state := 2, code := c }
def L7 (m : Mch) : Mch := { m with pc := w64 (m.pc + 1) }
def Wi (m : Mch) (l : Int) : Mch := if l = 0 then L7 m else { m with started := true, left := l }
def Jt (m : Mch) (n nx : Int) : Mch := if 60 ≤ m.stack.length then Wh m 8 else { m with stack := m.stack ++ [n], pc := nx }
def I6 (m : Mch) : Int := (m.stack[m.stack.length - 1]?).getD 0
def Ju (m : Mch) : Mch := { m with stack := m.stack.take (m.stack.length - 1) }
def L8 (m : Mch) (a : Int) : Mch :=
  if m.stack.length = 0 then Wh m 8
  else if I6 m = 0 then { Ju m with pc := a }
  else { m with stack := m.stack.set (m.stack.length - 1) (w64 (I6 m - 1)), pc := w64 (m.pc + 1) }
def Tc (m : Mch) : Mch := if m.stack.length = 0 then Wh m 8 else { Ju m with pc := I6 m }
def Xb (m : Mch) (i : Ins) : Mch :=
  if i.op = 1 then Wi { m with register := 0 } i.a
  else if i.op = 3 then Wi m i.a
  else if i.op = 4 then Wi m m.register
  else if i.op = 2 ∨ i.op = 13 ∨ i.op = 16 then Wi m 1
  else if i.op = 5 then (if i.a < m.register then Wh m 6 else L7 m)
  else if i.op = 6 then Jt m m.register (w64 (m.pc + 1))
  else if i.op = 7 then L8 m i.a
  else if i.op = 8 then { m with pc := i.a }
  else if i.op = 9 then Jt m (w64 (m.pc + 1)) i.a
  else if i.op = 10 then Tc m
  else if i.op = 11 then (if m.register = i.a then { m with pc := i.b } else L7 m)
  else if i.op = 12 then Wh m i.a
  else if i.op = 14 then (if 30 ≤ m.sums.length then Wh m 8 else { L7 m with sums := m.sums ++ [0] })
  else if i.op = 15 then (if m.sums.length = 0 then Wh m 8 else Wi m 1)
  else if i.op = 17 then { m with state := 1 }
  else m
abbrev Oy (m : Mch) : Prop := m.state = 0 ∧ m.started = false
def mAt (p : Prg) (m : Mch) : Ins := (p.code[m.pc.toNat]?).getD ⟨0, 0, 0⟩
def K5 (p : Prg) : Nat → Mch → Mch
  | 0, m => if Oy m then Wh m 8 else m
  | n + 1, m => if Oy m then (if Idx p m.pc then K5 p n (Xb m (mAt p m)) else Wh m 8) else m
def mIt (p : Prg) (m : Mch) : Nat → Mch
  | 0 => m
  | j + 1 => Xb (mIt p m j) (mAt p (mIt p m j))
def Mj (p : Prg) (fits : Bool) (m : Mch) : Mch :=
  if m.state ≠ 0 then m else if fits = false ∨ (m.started = true ∧ ¬ Idx p m.pc) then Wh m 8 else K5 p 100001 m
def Uh (m : Mch) : Mch := if m.left = 0 then { m with started := false, pc := w64 (m.pc + 1) } else m
def Yy (m : Mch) (b : Int) : Mch := { m with sums := m.sums.map fun z => (w64 (z + b)).tmod 256, read := w64 (m.read + 1), left := w64 (m.left - 1) }
def Qb (m : Mch) (i : Ins) (b : Int) : Mch :=
  if i.op = 1 then Uh { m with register := if i.b = 1 then w64 (m.register + b * 2 ^ (8 * (i.a - m.left - 1)).toNat) else w64 (w64 (256 * m.register) + b) }
  else if i.op = 13 then (if 1 < b then Wh m 4 else if m.left ≠ 0 then m else { m with started := false, pc := if b = 0 then i.a else w64 (m.pc + 1) })
  else if i.op = 16 then (if m.escaped = false ∧ b = i.a then Uh m else { m with escaped := !m.escaped && decide (b = 92), left := 1 })
  else if i.op = 2 then (if b ≠ i.a then Wh m 2 else Uh m)
  else Uh m
def Bh (m : Mch) (i : Ins) (b : Int) : Mch :=
  if i.op = 15 then (if (m.sums[m.sums.length - 1]?).getD 0 ≠ b then Wh m 5 else Qb (Yy { m with sums := m.sums.take (m.sums.length - 1) } b) i b)
  else Qb (Yy m b) i b
def mByte (p : Prg) (m : Mch) (b : Int) : Mch :=
  if ((mAt p m).op = 1 ∧ ¬ InR m.left 1 (mAt p m).a) ∨ ((mAt p m).op = 15 ∧ m.sums.length = 0) then Wh m 8 else Bh m (mAt p m) b
def Hz (p : Prg) (fits : Bool) (m : Mch) (b : Int) : Mch :=
  if (Mj p fits m).state = 1 then Wh (Mj p fits m) 7 else if (Mj p fits m).state ≠ 0 then Mj p fits m else mByte p (Mj p fits m) b
def m0 : Mch := ⟨0, 0, [], [], 0, false, false, 0, 0, 0⟩
theorem mRes_it {p : Prg} {m : Mch} {n j : Nat} (hj : j < n) (h : K5 p n m = K5 p (n - j) (mIt p m j)) (hr : Oy (mIt p m j)) (hi : Idx p (mIt p m j).pc) : K5 p n m = K5 p (n - (j + 1)) (mIt p m (j + 1)) := by
  rw [h, show n - j = n - (j + 1) + 1 by omega, K5, if_pos hr, if_pos hi]
  rfl
theorem mRes_stop {p : Prg} {m : Mch} {n j : Nat} (h : K5 p n m = K5 p (n - j) (mIt p m j)) (hr : ¬ Oy (mIt p m j)) : K5 p n m = mIt p m j := by
  rw [h]
  cases n - j with
  | zero => rw [K5, if_neg hr]
  | succ k => rw [K5, if_neg hr]
theorem mRes_out {p : Prg} {m : Mch} {n j : Nat} (h : K5 p n m = K5 p (n - j) (mIt p m j)) (hr : Oy (mIt p m j)) (hi : ¬ Idx p (mIt p m j).pc ∨ j = n) : K5 p n m = Wh (mIt p m j) 8 := by
  rw [h]
  rcases hi with hi | rfl
  · cases n - j with
    | zero => rw [K5, if_pos hr]
    | succ k => rw [K5, if_pos hr, if_neg hi]
  · rw [Nat.sub_self, K5, if_pos hr]
theorem Ys {α : Type} {P : α → Prop} {c : Prop} [Decidable c] {a b : α} (ha : c → P a) (hb : ¬ c → P b) : P (if c then a else b) := by
  by_cases h : c
  · rw [if_pos h]; exact ha h
  · rw [if_neg h]; exact hb h
def Jc (m : Mch) : Prop := m.stack.length ≤ 1048576 ∧ m.sums.length ≤ 1048576
theorem Qc {m : Mch} {c : Int} (h : Jc m) : Jc (Wi m c) := by unfold Wi; split <;> exact h
theorem Gb {m : Mch} {c d : Int} (h : Jc m) : Jc (Jt m c d) := by
  unfold Jt; split
  · exact h
  · exact ⟨by simp only [Ra, Rf]; omega, h.2⟩
theorem Ge {m : Mch} {a : Int} (h : Jc m) : Jc { Ju m with pc := a } := ⟨by have := h.1; simp only [Ju, List.length_take]; omega, h.2⟩
theorem mLoop_len {m : Mch} {a : Int} (h : Jc m) : Jc (L8 m a) := by
  unfold L8; split
  · exact h
  split
  · exact Ge h
  · exact ⟨by simp only [List.length_set]; exact h.1, h.2⟩
theorem mBack_len {m : Mch} (h : Jc m) : Jc (Tc m) := by
  unfold Tc; split
  · exact h
  · exact Ge h
theorem Gc {m : Mch} {i : Ins} (h : Jc m) : Jc (Xb m i) := by
  unfold Xb
  refine Ys (fun _ => Qc (m := { m with register := 0 }) h) fun _ => ?_
  refine Ys (fun _ => Qc h) fun _ => ?_
  refine Ys (fun _ => Qc h) fun _ => ?_
  refine Ys (fun _ => Qc h) fun _ => ?_
  refine Ys (fun _ => Ys (fun _ => h) fun _ => h) fun _ => ?_
  refine Ys (fun _ => Gb h) fun _ => ?_
  refine Ys (fun _ => mLoop_len h) fun _ => ?_
  refine Ys (fun _ => h) fun _ => ?_
  refine Ys (fun _ => Gb h) fun _ => ?_
  refine Ys (fun _ => mBack_len h) fun _ => ?_
  refine Ys (fun _ => Ys (fun _ => h) fun _ => h) fun _ => ?_
  refine Ys (fun _ => h) fun _ => ?_
  refine Ys (fun _ => Ys (fun _ => h) fun _ => ⟨h.1, by simp only [L7, Ra, Rf]; omega⟩) fun _ => ?_
  refine Ys (fun _ => Ys (fun _ => h) fun _ => Qc h) fun _ => ?_
  exact Ys (fun _ => h) fun _ => h
theorem I7 {p : Prg} : ∀ (n : Nat) {m : Mch}, Jc m → Jc (K5 p n m)
  | 0, m, h => by unfold K5; split <;> exact h
  | n + 1, m, h => by
    unfold K5
    split
    · split
      · exact I7 n (Gc h)
      · exact h
    · exact h
theorem mIt_len {p : Prg} {m : Mch} (h : Jc m) : ∀ j, Jc (mIt p m j)
  | 0 => h
  | j + 1 => Gc (mIt_len h j)
theorem mAdv_len {p : Prg} {f : Bool} {m : Mch} (h : Jc m) : Jc (Mj p f m) := by
  unfold Mj
  split
  · exact h
  split
  · exact h
  · exact I7 _ h
theorem Ph {m : Mch} {b : Int} (h : Jc m) : Jc (Yy m b) := ⟨h.1, by simp only [Yy, lmT]; exact h.2⟩
def MIdx (p : Prg) (m : Mch) : Prop := m.started = true → Idx p m.pc
theorem Qd {p : Prg} {m : Mch} {l : Int} (h : m.started = false) (hi : Idx p m.pc) : MIdx p (Wi m l) := by
  unfold Wi
  split
  · intro h'; simp only [L7] at h'; rw [h] at h'; cases h'
  · exact fun _ => hi
theorem Wv {p : Prg} {m : Mch} (h : m.started = false) : MIdx p m := fun h' => by rw [h] at h'; cases h'
theorem mPush_started {m : Mch} {n nx : Int} : (Jt m n nx).started = m.started := by unfold Jt; split <;> rfl
theorem mLoop_started {m : Mch} {n : Int} : (L8 m n).started = m.started := by unfold L8; split; rfl; split <;> rfl
theorem mBack_started {m : Mch} : (Tc m).started = m.started := by unfold Tc; split <;> rfl
theorem mPerf_idx {p : Prg} {m : Mch} {i : Ins} (h : m.started = false) (hi : Idx p m.pc) : MIdx p (Xb m i) := by
  unfold Xb
  refine Ys (fun _ => Qd (m := { m with register := 0 }) h hi) fun _ => ?_
  refine Ys (fun _ => Qd h hi) fun _ => ?_
  refine Ys (fun _ => Qd h hi) fun _ => ?_
  refine Ys (fun _ => Qd h hi) fun _ => ?_
  refine Ys (fun _ => Ys (fun _ => Wv h) fun _ => Wv h) fun _ => ?_
  refine Ys (fun _ => Wv (mPush_started.trans h)) fun _ => ?_
  refine Ys (fun _ => Wv (mLoop_started.trans h)) fun _ => ?_
  refine Ys (fun _ => Wv h) fun _ => ?_
  refine Ys (fun _ => Wv (mPush_started.trans h)) fun _ => ?_
  refine Ys (fun _ => Wv (mBack_started.trans h)) fun _ => ?_
  refine Ys (fun _ => Ys (fun _ => Wv h) fun _ => Wv h) fun _ => ?_
  refine Ys (fun _ => Wv h) fun _ => ?_
  refine Ys (fun _ => Ys (fun _ => Wv h) fun _ => Wv h) fun _ => ?_
  refine Ys (fun _ => Ys (fun _ => Wv h) fun _ => Qd h hi) fun _ => ?_
  exact Ys (fun _ => Wv h) fun _ => Wv h
theorem I8 {p : Prg} : ∀ (n : Nat) {m : Mch}, MIdx p m → (K5 p n m).state = 0 → (K5 p n m).started = true ∧ Idx p (K5 p n m).pc
  | 0, m, h, h0 => by
    unfold K5 at h0 ⊢
    split at h0
    · cases h0
    · rename_i hr
      rw [if_neg hr]
      have hs : m.started = true := by
        cases hb : m.started with
        | true => rfl
        | false => exact absurd ⟨h0, hb⟩ hr
      exact ⟨hs, h hs⟩
  | n + 1, m, h, h0 => by
    unfold K5 at h0 ⊢
    by_cases hr : Oy m
    · rw [if_pos hr] at h0 ⊢
      by_cases hi : Idx p m.pc
      · rw [if_pos hi] at h0 ⊢
        exact I8 n (mPerf_idx hr.2 hi) h0
      · rw [if_neg hi] at h0; cases h0
    · rw [if_neg hr] at h0 ⊢
      have hs : m.started = true := by
        cases hb : m.started with
        | true => rfl
        | false => exact absurd ⟨h0, hb⟩ hr
      exact ⟨hs, h hs⟩
theorem mAdv_idx {p : Prg} {f : Bool} {m : Mch} (h0 : (Mj p f m).state = 0) : f = true ∧ (Mj p f m).started = true ∧ Idx p (Mj p f m).pc := by
  unfold Mj at h0 ⊢
  by_cases hs : m.state ≠ 0
  · rw [if_pos hs] at h0; exact absurd h0 hs
  · rw [if_neg hs] at h0 ⊢
    by_cases hf : f = false ∨ (m.started = true ∧ ¬ Idx p m.pc)
    · rw [if_pos hf] at h0; cases h0
    · rw [if_neg hf] at h0 ⊢
      refine ⟨?_, I8 _ (fun hs => ?_) h0⟩
      · cases f with
        | true => rfl
        | false => exact absurd (.inl rfl) hf
      · exact Classical.byContradiction fun hi => hf (.inr ⟨hs, hi⟩)
def opL (L : List Ins) (i : Nat) : Int := ((L[i]?).getD ⟨0, 0, 0⟩).op
theorem Vv {L : List Ins} {i : Nat} {y : Ins} (h : L[i]? = some y) : opL L i = y.op := by unfold opL; rw [h]; rfl
def lpL (L : List Ins) (i : Nat) : Nat := if opL L i = 7 ∨ opL L i = 8 ∨ (1 ≤ i ∧ opL L (i - 1) = 7) then 1 else 0
def smL (L : List Ins) (i : Nat) : Nat := if opL L i = 15 ∨ (1 ≤ i ∧ opL L (i - 1) = 14) then 1 else 0
structure Shp (L : List Ins) : Prop where
  l7 : ∀ i, opL L i = 7 → 1 ≤ i ∧ opL L (i - 1) = 6 ∧ opL L (i + 1) = 9 ∧ opL L (i + 2) = 8
  l6 : ∀ i, opL L i = 6 → opL L (i + 1) = 7
  l8 : ∀ i, opL L i = 8 → 2 ≤ i ∧ opL L (i - 2) = 7
  l14 : ∀ i, opL L i = 14 → opL L (i + 1) = 9 ∧ opL L (i + 2) = 15
  l15 : ∀ i, opL L i = 15 → 2 ≤ i ∧ opL L (i - 2) = 14
section
variable {L : List Ins} (h : Shp L)
include h
theorem Shp.after7 {i : Nat} (hi : 1 ≤ i) (h7 : opL L (i - 1) = 7) : opL L i = 9 := by
  have := (h.l7 _ h7).2.2.1
  rwa [show i - 1 + 1 = i by omega] at this
theorem Shp.after14 {i : Nat} (hi : 1 ≤ i) (h14 : opL L (i - 1) = 14) : opL L i = 9 := by
  have := (h.l14 _ h14).1
  rwa [show i - 1 + 1 = i by omega] at this
theorem Shp.plain {i : Nat} (ho : opL L i ≠ 6 ∧ opL L i ≠ 7 ∧ opL L i ≠ 8 ∧ opL L i ≠ 9 ∧ opL L i ≠ 14 ∧ opL L i ≠ 15) : lpL L i = 0 ∧ smL L i = 0 ∧ lpL L (i + 1) = 0 ∧ smL L (i + 1) = 0 := by
  obtain ⟨o6, o7, o8, o9, o14, o15⟩ := ho
  refine ⟨if_neg ?_, if_neg ?_, if_neg ?_, if_neg ?_⟩
  · rintro (e | e | ⟨e1, e2⟩)
    · exact o7 e
    · exact o8 e
    · exact o9 (h.after7 e1 e2)
  · rintro (e | ⟨e1, e2⟩)
    · exact o15 e
    · exact o9 (h.after14 e1 e2)
  · rintro (e | e | ⟨_, e⟩)
    · have := (h.l7 _ e).2.1
      rw [Nat.add_sub_cancel] at this; exact o6 this
    · obtain ⟨e1, e2⟩ := h.l8 _ e
      have := h.after7 (i := i) (by omega) (by rwa [show i + 1 - 2 = i - 1 by omega] at e2)
      exact o9 this
    · rw [Nat.add_sub_cancel] at e; exact o7 e
  · rintro (e | ⟨_, e⟩)
    · obtain ⟨e1, e2⟩ := h.l15 _ e
      have := h.after14 (i := i) (by omega) (by rwa [show i + 1 - 2 = i - 1 by omega] at e2)
      exact o9 this
    · rw [Nat.add_sub_cancel] at e; exact o14 e
theorem Shp.ret {i : Nat} (ho : opL L i = 10) : lpL L i = 0 ∧ smL L i = 0 := by
  have := h.plain (i := i) (by omega)
  exact ⟨this.1, this.2.1⟩
theorem Shp.push {i : Nat} (ho : opL L i = 6) : lpL L i = 0 ∧ smL L i = 0 ∧ lpL L (i + 1) = 1 ∧ smL L (i + 1) = 0 := by
  have h7 := h.l6 _ ho
  refine ⟨if_neg ?_, if_neg ?_, if_pos (.inl h7), if_neg ?_⟩
  · rintro (e | e | ⟨e1, e2⟩)
    · omega
    · omega
    · have := h.after7 e1 e2; omega
  · rintro (e | ⟨e1, e2⟩)
    · omega
    · have := h.after14 e1 e2; omega
  · rintro (e | ⟨_, e⟩)
    · omega
    · rw [Nat.add_sub_cancel] at e; omega
theorem Shp.loop {i : Nat} (ho : opL L i = 7) : lpL L i = 1 ∧ smL L i = 0 ∧ lpL L (i + 1) = 1 ∧ smL L (i + 1) = 0 ∧ lpL L (i + 3) = 0 ∧ smL L (i + 3) = 0 ∧ opL L (i + 3) ≠ 8 := by
  obtain ⟨h0, h6, h9, h8⟩ := h.l7 _ ho
  have n8 : opL L (i + 3) ≠ 8 := fun e => by
    have := (h.l8 _ e).2
    rw [show i + 3 - 2 = i + 1 by omega] at this; omega
  refine ⟨if_pos (.inl ho), if_neg ?_, if_pos (.inr (.inr ⟨by omega, by rw [Nat.add_sub_cancel]; exact ho⟩)), if_neg ?_, if_neg ?_, if_neg ?_, n8⟩
  · rintro (e | ⟨e1, e2⟩) <;> omega
  · rintro (e | ⟨_, e⟩)
    · omega
    · rw [Nat.add_sub_cancel] at e; omega
  · rintro (e | e | ⟨_, e⟩)
    · have := (h.l7 _ e).2.1
      rw [show i + 3 - 1 = i + 2 by omega] at this; omega
    · exact n8 e
    · rw [show i + 3 - 1 = i + 2 by omega] at e; omega
  · rintro (e | ⟨_, e⟩)
    · have := (h.l15 _ e).2
      rw [show i + 3 - 2 = i + 1 by omega] at this; omega
    · rw [show i + 3 - 1 = i + 2 by omega] at e; omega
theorem Shp.jump {i : Nat} (ho : opL L i = 8) : lpL L i = 1 ∧ smL L i = 0 ∧ lpL L (i - 2) = 1 ∧ smL L (i - 2) = 0 := by
  obtain ⟨h2, h7⟩ := h.l8 _ ho
  have hl := h.loop h7
  refine ⟨if_pos (.inr (.inl ho)), if_neg ?_, hl.1, hl.2.1⟩
  rintro (e | ⟨e1, e2⟩)
  · omega
  · have := h.after14 e1 e2; omega
theorem Shp.call {i : Nat} (ho : opL L i = 9) : lpL L (i + 1) = lpL L i ∧ smL L (i + 1) = smL L i := by
  constructor
  · unfold lpL
    rw [Nat.add_sub_cancel]
    by_cases e : 1 ≤ i ∧ opL L (i - 1) = 7
    · have := (h.l7 _ e.2).2.2.2
      rw [show i - 1 + 2 = i + 1 by omega] at this
      rw [if_pos (.inr (.inl this)), if_pos (.inr (.inr e))]
    · rw [if_neg, if_neg]
      · rintro (e1 | e1 | e1)
        · omega
        · omega
        · exact e e1
      · rintro (e1 | e1 | e1)
        · have := (h.l7 _ e1).2.1
          rw [Nat.add_sub_cancel] at this; omega
        · obtain ⟨e2, e3⟩ := h.l8 _ e1
          exact e ⟨by omega, by rwa [show i + 1 - 2 = i - 1 by omega] at e3⟩
        · omega
  · unfold smL
    rw [Nat.add_sub_cancel]
    by_cases e : 1 ≤ i ∧ opL L (i - 1) = 14
    · have := (h.l14 _ e.2).2
      rw [show i - 1 + 2 = i + 1 by omega] at this
      rw [if_pos (.inl this), if_pos (.inr e)]
    · rw [if_neg, if_neg]
      · rintro (e1 | e1)
        · omega
        · exact e e1
      · rintro (e1 | e1)
        · obtain ⟨e2, e3⟩ := h.l15 _ e1
          exact e ⟨by omega, by rwa [show i + 1 - 2 = i - 1 by omega] at e3⟩
        · omega
theorem Shp.mark {i : Nat} (ho : opL L i = 14) : lpL L i = 0 ∧ smL L i = 0 ∧ lpL L (i + 1) = 0 ∧ smL L (i + 1) = 1 := by
  obtain ⟨h9, h15⟩ := h.l14 _ ho
  refine ⟨if_neg ?_, if_neg ?_, if_neg ?_, if_pos (.inr ⟨by omega, by rw [Nat.add_sub_cancel]; exact ho⟩)⟩
  · rintro (e | e | ⟨e1, e2⟩)
    · omega
    · omega
    · have := h.after7 e1 e2; omega
  · rintro (e | ⟨e1, e2⟩)
    · omega
    · have := h.after14 e1 e2; omega
  · rintro (e | e | ⟨_, e⟩)
    · omega
    · omega
    · rw [Nat.add_sub_cancel] at e; omega
theorem Shp.sum {i : Nat} (ho : opL L i = 15) : lpL L i = 0 ∧ smL L i = 1 ∧ lpL L (i + 1) = 0 ∧ smL L (i + 1) = 0 ∧ opL L (i + 1) ≠ 8 := by
  obtain ⟨h2, h14⟩ := h.l15 _ ho
  have h9 := (h.l14 _ h14).1
  rw [show i - 2 + 1 = i - 1 by omega] at h9
  have n8 : opL L (i + 1) ≠ 8 := fun e => by
    have := (h.l8 _ e).2
    rw [show i + 1 - 2 = i - 1 by omega] at this; omega
  refine ⟨if_neg ?_, if_pos (.inl ho), if_neg ?_, if_neg ?_, n8⟩
  · rintro (e | e | ⟨e1, e2⟩) <;> omega
  · rintro (e | e | ⟨_, e⟩)
    · have := (h.l7 _ e).2.1
      rw [Nat.add_sub_cancel] at this; omega
    · exact n8 e
    · rw [Nat.add_sub_cancel] at e; omega
  · rintro (e | ⟨_, e⟩)
    · have := (h.l15 _ e).2
      rw [show i + 1 - 2 = i - 1 by omega] at this; omega
    · rw [Nat.add_sub_cancel] at e; omega
theorem Shp.start : lpL L 0 = 0 ∧ smL L 0 = 0 := by
  refine ⟨if_neg ?_, if_neg ?_⟩
  · rintro (e | e | ⟨e1, _⟩)
    · have := (h.l7 _ e).1; omega
    · have := (h.l8 _ e).1; omega
    · omega
  · rintro (e | ⟨e1, _⟩)
    · have := (h.l15 _ e).1; omega
    · omega
theorem Shp.no8 {i : Nat} (ho : opL L i ≠ 9) : opL L (i + 1) ≠ 8 := fun e => by
  obtain ⟨e1, e2⟩ := h.l8 _ e
  exact ho (h.after7 (i := i) (by omega) (by rwa [show i + 1 - 2 = i - 1 by omega] at e2))
end
theorem J1 {d : Des} (hD : DrawD d) {j : Nat} (hj : j < d.length) : Shp (blk d j) := by
  have key : ∀ i o, opL (blk d j) i = o → o ≠ 0 → ∃ y, (blk d j)[i]? = some y ∧ y.op = o := fun i o h ho => by
    unfold opL at h
    cases hy : (blk d j)[i]? with
    | none => rw [hy] at h; exact absurd h.symm ho
    | some y => rw [hy] at h; exact ⟨y, rfl, h⟩
  refine ⟨fun i h => ?_, fun i h => ?_, fun i h => ?_, fun i h => ?_, fun i h => ?_⟩
  · obtain ⟨y, hy, ho⟩ := key i 7 h (by decide)
    obtain ⟨m, y6, z, w, rfl, h6, h6o, hz, hzo, hw, hwo, _⟩ := (W7 hD hj hy).loop ho
    exact ⟨by omega, by rw [Nat.add_sub_cancel, Vv h6]; exact h6o, by rw [show m + 1 + 1 = m + 2 by omega, Vv hz]; exact hzo, by rw [show m + 1 + 2 = m + 3 by omega, Vv hw]; exact hwo⟩
  · obtain ⟨y, hy, ho⟩ := key i 6 h (by decide)
    obtain ⟨z, hz, hzo⟩ := (W7 hD hj hy).push ho
    rw [Vv hz]; exact hzo
  · obtain ⟨y, hy, ho⟩ := key i 8 h (by decide)
    obtain ⟨m, z, rfl, hz, hzo⟩ := (W7 hD hj hy).jump ho
    exact ⟨by omega, by rw [Nat.add_sub_cancel, Vv hz]; exact hzo⟩
  · obtain ⟨y, hy, ho⟩ := key i 14 h (by decide)
    obtain ⟨z, w, hz, hzo, hw, hwo⟩ := (W7 hD hj hy).mark ho
    exact ⟨by rw [Vv hz]; exact hzo, by rw [Vv hw]; exact hwo⟩
  · obtain ⟨y, hy, ho⟩ := key i 15 h (by decide)
    obtain ⟨m, z, rfl, hz, hzo⟩ := (W7 hD hj hy).sum ho
    exact ⟨by omega, by rw [Nat.add_sub_cancel, Vv hz]; exact hzo⟩
structure RuX (L : List Ins) : Prop where
  skip : ∀ y ∈ L, y.op = 3 → 1 ≤ y.a
  fail : ∀ y ∈ L, y.op = 12 → y.a = 3
  first : opL L 0 = 1 ∨ opL L 0 = 2 ∨ opL L 0 = 3 ∨ opL L 0 = 9 ∨ opL L 0 = 13 ∨ opL L 0 = 14 ∨ opL L 0 = 16
  jumps : (∃ y ∈ L, y.op = 11 ∨ y.op = 13) → ∀ y ∈ L, y.op ≠ 7 ∧ y.op ≠ 8 ∧ y.op ≠ 14 ∧ y.op ≠ 15
theorem rule_x {d : Des} (hD : DrawD d) {j : Nat} {x : Rul} (hx : d[j]? = some x) (s : Int) (en : List Int) : RuX (Xm x s en) := by
  obtain ⟨k', k1, k2, hr, hk', _, _⟩ := hD.kinds hx
  have hc : ∀ r, (Xa en r).op = 9 := fun r => rfl
  have hch : ∀ y ∈ X5 x.kids en x.tags.length, y.op = 10 ∨ y.op = 9 := fun y hy => by
    unfold X5 at hy
    obtain ⟨i, _, hi⟩ := List.mem_flatMap.1 hy
    rcases List.mem_append.1 hi with h | h
    · split at h
      · simp at h
      · simp at h; subst h; exact .inl rfl
    · simp at h; subst h; exact .inr rfl
  have hct : ∀ y ∈ Ql x.tags (s + (x.tags.length : Int) + 2) x.tags.length, y.op = 11 := fun y hy => by
    obtain ⟨i, hi⟩ := List.getElem?_of_mem hy
    obtain ⟨_, rfl⟩ := G3 hi
    rfl
  by_cases e1 : x.kind = 1
  · have hL : Xm x s en = [⟨1, x.size, if x.little = true then 1 else 0⟩, ⟨10, 0, 0⟩] := by unfold Xm Xe; rw [if_pos e1]; rfl
    rw [hL]
    exact ⟨by simp, by simp, .inl rfl, by simp⟩
  by_cases e2 : x.kind = 2
  · have hL : Xm x s en = (x.bytes.map fun b => (⟨2, (b.toNat : Int), 0⟩ : Ins)) ++ [⟨10, 0, 0⟩] := by unfold Xm Xe; rw [if_neg e1, if_pos e2]
    have hb := hr.hbytes.1 (by omega)
    rw [hL]
    have hm : ∀ y ∈ (x.bytes.map fun b => (⟨2, (b.toNat : Int), 0⟩ : Ins)) ++ [⟨10, 0, 0⟩], y.op = 2 ∨ y.op = 10 := fun y hy => by
      rcases List.mem_append.1 hy with h | h
      · obtain ⟨b, _, rfl⟩ := List.mem_map.1 h; exact .inl rfl
      · simp at h; subst h; exact .inr rfl
    refine ⟨fun y hy e => by have := hm y hy; omega, fun y hy e => by have := hm y hy; omega, ?_, fun ⟨y, hy, e⟩ => by have := hm y hy; omega⟩
    cases hbs : x.bytes with
    | nil => rw [hbs] at hb; simp at hb
    | cons c l => exact .inr (.inl rfl)
  by_cases e3 : x.kind = 3
  · have hL : Xm x s en = [⟨3, x.size, 0⟩, ⟨10, 0, 0⟩] := by unfold Xm Xe; rw [if_neg e1, if_neg e2, if_pos e3]; rfl
    have hz := hr.hsize.2.1 (by omega)
    rw [hL]
    exact ⟨by simp; omega, by simp, .inr (.inr (.inl rfl)), by simp⟩
  by_cases e4 : x.kind = 4
  · have hL : Xm x s en = [Xa en (x.kids.headD 0), ⟨4, 0, 0⟩, ⟨10, 0, 0⟩] := by unfold Xm Xe; rw [if_neg e1, if_neg e2, if_neg e3, if_pos e4]; rfl
    rw [hL]
    exact ⟨by simp [Xa], by simp [Xa], .inr (.inr (.inr (.inl rfl))), by simp [Xa]⟩
  by_cases e5 : x.kind = 5
  · have hL : Xm x s en = [Xa en (x.kids.headD 0), ⟨5, 40, 0⟩, ⟨6, 0, 0⟩, ⟨7, w64 (s + 6), 0⟩, Xa en ((x.kids[1]?).getD 0), ⟨8, w64 (s + 3), 0⟩, ⟨10, 0, 0⟩] := by unfold Xm Xe; rw [if_neg e1, if_neg e2, if_neg e3, if_neg e4, if_pos e5]; rfl
    rw [hL]
    exact ⟨by simp [Xa], by simp [Xa], .inr (.inr (.inr (.inl rfl))), by simp [Xa]⟩
  by_cases e6 : x.kind = 6
  · have hL : Xm x s en = x.kids.map (Xa en) ++ [⟨10, 0, 0⟩] := by unfold Xm Xe; rw [if_neg e1, if_neg e2, if_neg e3, if_neg e4, if_neg e5, if_pos e6]
    have hkk := (hr.hkids.2.2.1 (by omega)).1
    have hnn := hr.hnames.1 (by omega)
    rw [hL]
    have hm : ∀ y ∈ x.kids.map (Xa en) ++ [⟨10, 0, 0⟩], y.op = 9 ∨ y.op = 10 := fun y hy => by
      rcases List.mem_append.1 hy with h | h
      · obtain ⟨b, _, rfl⟩ := List.mem_map.1 h; exact .inl rfl
      · simp at h; subst h; exact .inr rfl
    refine ⟨fun y hy e => by have := hm y hy; omega, fun y hy e => by have := hm y hy; omega, ?_, fun ⟨y, hy, e⟩ => by have := hm y hy; omega⟩
    cases hks : x.kids with
    | nil => rw [hks] at hkk; simp at hkk; omega
    | cons c l => exact .inr (.inr (.inr (.inl rfl)))
  by_cases e7 : x.kind = 7
  · have hL : Xm x s en = Xa en (x.kids.headD 0) :: (Ql x.tags (s + (x.tags.length : Int) + 2) x.tags.length ++ ⟨12, 3, 0⟩ :: X5 x.kids en x.tags.length) ++ [⟨10, 0, 0⟩] := by unfold Xm Xe; rw [if_neg e1, if_neg e2, if_neg e3, if_neg e4, if_neg e5, if_neg e6, if_pos e7]
    rw [hL]
    have hm : ∀ y ∈ Xa en (x.kids.headD 0) :: (Ql x.tags (s + (x.tags.length : Int) + 2) x.tags.length ++ ⟨12, 3, 0⟩ :: X5 x.kids en x.tags.length) ++ [⟨10, 0, 0⟩], y.op = 9 ∨ y.op = 10 ∨ y.op = 11 ∨ (y.op = 12 ∧ y.a = 3) := fun y hy => by
      rcases List.mem_append.1 hy with h | h
      · rcases List.mem_cons.1 h with rfl | h
        · exact .inl rfl
        rcases List.mem_append.1 h with h | h
        · exact .inr (.inr (.inl (hct y h)))
        · rcases List.mem_cons.1 h with rfl | h
          · exact .inr (.inr (.inr ⟨rfl, rfl⟩))
          · rcases hch y h with h | h
            · exact .inr (.inl h)
            · exact .inl h
      · simp at h; subst h; exact .inr (.inl rfl)
    exact ⟨fun y hy e => by have := hm y hy; omega, fun y hy e => by have := hm y hy; omega, .inr (.inr (.inr (.inl rfl))), fun _ y hy => by have := hm y hy; omega⟩
  by_cases e8 : x.kind = 8
  · have hL : Xm x s en = [⟨13, w64 (s + 2), 0⟩, Xa en (x.kids.headD 0), ⟨10, 0, 0⟩] := by unfold Xm Xe; rw [if_neg e1, if_neg e2, if_neg e3, if_neg e4, if_neg e5, if_neg e6, if_neg e7, if_pos e8]; rfl
    rw [hL]
    exact ⟨by simp [Xa], by simp [Xa], .inr (.inr (.inr (.inr (.inl rfl)))), by simp [Xa]⟩
  by_cases e9 : x.kind = 9
  · have hL : Xm x s en = [⟨14, 0, 0⟩, Xa en (x.kids.headD 0), ⟨15, 0, 0⟩, ⟨10, 0, 0⟩] := by unfold Xm Xe; rw [if_neg e1, if_neg e2, if_neg e3, if_neg e4, if_neg e5, if_neg e6, if_neg e7, if_neg e8, if_pos e9]; rfl
    rw [hL]
    exact ⟨by simp [Xa], by simp [Xa], .inr (.inr (.inr (.inr (.inr (.inl rfl))))), by simp [Xa]⟩
  · have hL : Xm x s en = [⟨16, (((x.bytes[0]?).getD 0).toNat : Int), 0⟩, ⟨10, 0, 0⟩] := by unfold Xm Xe; rw [if_neg e1, if_neg e2, if_neg e3, if_neg e4, if_neg e5, if_neg e6, if_neg e7, if_neg e8, if_neg e9]; rfl
    rw [hL]
    exact ⟨by simp, by simp, .inr (.inr (.inr (.inr (.inr (.inr rfl))))), by simp⟩
inductive RS (d : Des) : Nat → List Int → Nat → Nat → Prop
  | base : RS d (d.length - 1) [1] 0 1
  | call {b i b' s κ : Nat} {R cs : List Int} {y : Ins} (h : RS d b R s κ) (hy : (blk d b)[i]? = some y) (ho : y.op = 9) (ha : y.a = (stA d b' : Int)) (hb : b' < b) (hc : cs.length = lpL (blk d b) i) : RS d b' (R ++ cs ++ [(stA d b : Int) + (i : Int) + 1]) (s + smL (blk d b) i) (κ + 30)
section
variable {d : Des} (hD : DrawD d)
include hD
theorem blk_x {j : Nat} (hj : j < d.length) : RuX (blk d j) := by
  have hx : d[j]? = some _ := P9 hj
  rw [Nb hD hx]
  exact rule_x hD hx _ _
theorem Dg (p : Prg) (j : Nat) : ∀ k' k : Nat, k ≤ k' → X1 p k j ≤ X1 p k' j
  | 0, k, h => by
    obtain rfl : k = 0 := by omega
    exact Int.le_refl _
  | k' + 1, k, h => by
    by_cases e : k = k' + 1
    · subst e; exact Int.le_refl _
    · have ih := Dg p j k' k (by omega)
      rw [X1]
      unfold mx
      split
      · split <;> omega
      · exact ih
theorem Df {j : Nat} : ∀ k' k : Nat, k ≤ k' → stA d (j + 1) ≤ k → k' ≤ (cdF d).code.length → X1 (cdF d) k' j = X1 (cdF d) k j
  | 0, k, h, h1, _ => by
    obtain rfl : k = 0 := by omega
    rfl
  | k' + 1, k, h, h1, h2 => by
    by_cases e : k = k' + 1
    · subst e; rfl
    · have ih := Df k' k (by omega) h1 (by omega)
      rw [X1, if_neg, ih]
      rintro ⟨q1, _, q3⟩
      have hcl := Qm hD
      obtain ⟨b, hb, h3, h4⟩ := M7 d d.length k' q1 (by omega)
      rw [bo_at hD hb (by omega) (by omega)] at q3
      have := Vz d (j + 1) (b + 1) (by omega)
      omega
theorem A8 {b i b' : Nat} {y : Ins} (hb : b < d.length) (hy : (blk d b)[i]? = some y) (ho : y.op = 9) (ha : y.a = (stA d b' : Int)) (hb' : b' < b) : X1 (cdF d) (cdF d).code.length b' + 1 + (lpL (blk d b) i : Int) ≤ X1 (cdF d) (cdF d).code.length b := by
  have hi := (P8.1 hy).1
  have hcl := Qm hD
  have hnx := W2 d b
  have hnx' := W2 d b'
  have hbd' := Jk hD (j := b') (by omega)
  have hmn := Vz d d.length (b + 1) (by omega)
  have hmn' := Vz d b (b' + 1) (by omega)
  have h20 : stA d 0 = 2 := by simp [stA, cdT]
  have h2 := Vz d b 0 (by omega)
  obtain ⟨_, o1, o2⟩ := Uv hD hb hy ((stA d b + i : Nat) : Int) (by omega)
  have hbo := bo_at hD hb (i := ((stA d b + i : Nat) : Int)) (by omega) (by omega)
  have hbo' := bo_at hD (j := b') (by omega) (i := (stA d b' : Int)) (by omega) (by omega)
  have m1 := Dg hD (cdF d) b (cdF d).code.length (stA d b + i + 1) (by omega)
  have m2 := Df hD (j := b') (cdF d).code.length (stA d b + i) (by omega) (by omega) (Nat.le_refl _)
  have e : X1 (cdF d) (stA d b + i + 1) b = mx (X1 (cdF d) (stA d b + i) b) ((if opA (cdF d) (((stA d b + i : Nat) : Int) - 1) = 7 then 2 else 1) + X1 (cdF d) (stA d b + i) b') := by
    rw [X1, if_pos ⟨by omega, by omega, hbo⟩, o2, ha, hbo', Int.toNat_natCast]
  have hlp : lpL (blk d b) i = 1 → opA (cdF d) (((stA d b + i : Nat) : Int) - 1) = 7 := fun h => by
    unfold lpL at h
    split at h
    · rename_i h7
      have o9 := Vv hy
      rcases h7 with h7 | h7 | ⟨h7a, h7b⟩
      · omega
      · omega
      · obtain ⟨z, hz⟩ : ∃ z, (blk d b)[i - 1]? = some z := ⟨_, P9 (by omega)⟩
        rw [Vv hz] at h7b
        rw [(Uv hD hb hz (((stA d b + i : Nat) : Int) - 1) (by omega)).2.1]; exact h7b
    · omega
  have hl1 : lpL (blk d b) i = 0 ∨ lpL (blk d b) i = 1 := by unfold lpL; split <;> omega
  rw [e] at m1
  unfold mx at m1
  rcases hl1 with h | h
  · rw [h]; split at m1 <;> split at m1 <;> omega
  · rw [if_pos (hlp h)] at m1
    rw [h]; split at m1 <;> omega
theorem rs_bd {b s κ : Nat} {R : List Int} (h : RS d b R s κ) : b < d.length ∧ (R.length : Int) + X1 (cdF d) (cdF d).code.length b ≤ need (cdF d) ∧ s + b ≤ d.length - 1 ∧ κ + 30 * b ≤ 1 + 30 * (d.length - 1) ∧ 1 ≤ κ := by
  have hp := hD.pos
  induction h with
  | base => refine ⟨by omega, ?_, by omega, by omega, by omega⟩; unfold need; rw [Qw hD]; simp
  | @call b i b' s κ R cs y h hy ho ha hb hc ih =>
    obtain ⟨i1, i2, i3, i4, i5⟩ := ih
    have hn := A8 hD i1 hy ho ha hb
    have hs1 : smL (blk d b) i ≤ 1 := by unfold smL; split <;> omega
    refine ⟨by omega, ?_, by omega, by omega, by omega⟩
    rw [Ra, Ra, Rf, hc]
    omega
end
structure At (d : Des) (m : Mch) (b i s κ : Nat) (R cs : List Int) : Prop where
  hb : b < d.length
  hi : i < (blk d b).length
  pos : m.pc = (stA d b : Int) + (i : Int)
  rs : RS d b R s κ
  stack : m.stack = R ++ cs
  lp : cs.length = lpL (blk d b) i
  sums : m.sums.length = s + smL (blk d b) i
def P7 (L : List Ins) (i : Nat) : Prop := i = 0 ∨ (i = 1 ∧ opL L 0 = 14)
instance (L : List Ins) (i : Nat) : Decidable (P7 L i) := by unfold P7; infer_instance
def wL (L : List Ins) (i : Nat) : Nat := if opL L i = 8 then L.length - i + 3 else L.length - i
noncomputable def rk (d : Des) (b i κ : Nat) : Nat := if P7 (blk d b) i then 2 * b + 2 - i else wL (blk d b) i + κ + 15
def Cfg (d : Des) (m : Mch) (ρ : Nat) : Prop := m.state = 0 ∧ m.started = false ∧ ((m.pc = 0 ∧ m.stack = [] ∧ m.sums = [] ∧ ρ = 20) ∨ (m.pc = 1 ∧ m.stack = [] ∧ m.sums.length = 0 ∧ ρ = 1) ∨ ∃ b i s κ R cs, At d m b i s κ R cs ∧ ρ = rk d b i κ)
def Stt (d : Des) (m : Mch) : Prop := m.state = 0 ∧ m.started = true ∧ ∃ b i s κ R cs y, At d m b i s κ R cs ∧ (blk d b)[i]? = some y ∧ (y.op = 1 ∨ y.op = 2 ∨ y.op = 3 ∨ y.op = 4 ∨ y.op = 13 ∨ y.op = 15 ∨ y.op = 16) ∧ ((y.op = 1 → 1 ≤ m.left ∧ m.left ≤ y.a) ∧ (y.op = 15 → m.left = 1))
def MBd (d : Des) (m : Mch) : Prop := (m.stack.length : Int) ≤ need (cdF d) ∧ m.sums.length ≤ d.length
def MGd (d : Des) (m : Mch) : Prop := MBd d m ∧ ((∃ ρ, ρ ≤ 100000 ∧ Cfg d m ρ) ∨ Stt d m ∨ m.state = 1 ∨ (m.state = 2 ∧ m.code ≠ 8))
section
variable {d : Des} (hD : DrawD d)
include hD
theorem Py {m : Mch} {b i s κ : Nat} {R cs : List Int} (h : At d m b i s κ R cs) : MBd d m := by
  obtain ⟨r1, r2, r3, r4, r5⟩ := rs_bd hD h.rs
  have hS := J1 hD h.hb
  have hn := V1 (cdF d) (cdF d).code.length b
  have hs1 : smL (blk d b) i ≤ 1 := by unfold smL; split <;> omega
  have hsl := h.sums
  have hst := congrArg List.length h.stack
  rw [Ra, h.lp] at hst
  refine ⟨?_, by omega⟩
  by_cases h0 : lpL (blk d b) i = 0
  · omega
  have hl1 : lpL (blk d b) i = 1 := by unfold lpL at h0 ⊢; split at h0 <;> simp_all
  have hc : ∃ c, opL (blk d b) c = 9 := by
    unfold lpL at hl1
    split at hl1
    · rename_i h7
      rcases h7 with h7 | h7 | ⟨h7a, h7⟩
      · exact ⟨_, (hS.l7 _ h7).2.2.1⟩
      · exact ⟨_, (hS.l7 _ (hS.l8 _ h7).2).2.2.1⟩
      · exact ⟨_, (hS.l7 _ h7).2.2.1⟩
    · omega
  obtain ⟨c, hc⟩ := hc
  obtain ⟨y, hy⟩ : ∃ y, (blk d b)[c]? = some y := by
    cases hy : (blk d b)[c]? with
    | none => unfold opL at hc; rw [hy] at hc; simp at hc
    | some y => exact ⟨y, rfl⟩
  rw [Vv hy] at hc
  obtain ⟨b', hb', ha⟩ := T4 ((W7 hD h.hb hy).call hc)
  have h1 := A8 hD h.hb hy hc ha hb'
  have h2 := V1 (cdF d) (cdF d).code.length b'
  omega
theorem wL_le {b i : Nat} (hb : b < d.length) (hi : i < (blk d b).length) : 1 ≤ wL (blk d b) i ∧ wL (blk d b) i ≤ 15 := by
  have := Jk hD hb
  unfold wL
  split <;> omega
theorem rk_pos {b i κ : Nat} (hb : b < d.length) : 1 ≤ rk d b i κ := by
  unfold rk
  split
  · rename_i h
    rcases h with h | ⟨h, _⟩ <;> omega
  · omega
theorem Mp {b i : Nat} (hb : b < d.length) (ho : opL (blk d b) i ≠ 1 ∧ opL (blk d b) i ≠ 2 ∧ opL (blk d b) i ≠ 3 ∧ opL (blk d b) i ≠ 9 ∧ opL (blk d b) i ≠ 13 ∧ opL (blk d b) i ≠ 14 ∧ opL (blk d b) i ≠ 16) : ¬ P7 (blk d b) i := by
  rintro (rfl | ⟨rfl, h⟩)
  · have := (blk_x hD hb).first; omega
  · have := ((J1 hD hb).l14 _ h).1; simp at this; omega
theorem E1 {b i κ : Nat} (h : ¬ P7 (blk d b) i) : rk d b i κ = wL (blk d b) i + κ + 15 := if_neg h
theorem Ez {b i κ t : Nat} (h : ¬ P7 (blk d b) i) (h8 : opL (blk d b) i ≠ 8) (hi : i < (blk d b).length) (ht : i < t) (ht8 : opL (blk d b) t ≠ 8) (h14 : ¬ P7 (blk d b) t) : rk d b t κ < rk d b i κ := by
  rw [E1 hD h, E1 hD h14]
  unfold wL
  rw [if_neg h8, if_neg ht8]
  omega
theorem N7 {b t : Nat} (ht : 2 ≤ t) : ¬ P7 (blk d b) t := by rintro (h | ⟨h, _⟩) <;> omega
theorem Q2 {m : Mch} {b i s κ : Nat} {R cs : List Int} (h0 : m.state = 0) (h1 : m.started = false) (h : At d m b i s κ R cs) : Cfg d m (rk d b i κ) := ⟨h0, h1, .inr (.inr ⟨b, i, s, κ, R, cs, h, rfl⟩)⟩
theorem at_ins {m : Mch} {b i s κ : Nat} {R cs : List Int} (h : At d m b i s κ R cs) : ∃ y, (blk d b)[i]? = some y ∧ mAt (cdF d) m = y ∧ Idx (cdF d) m.pc := by
  obtain ⟨y, hy⟩ : ∃ y, (blk d b)[i]? = some y := ⟨_, P9 h.hi⟩
  have hc := (Uv hD h.hb hy m.pc h.pos).1
  refine ⟨y, hy, by unfold mAt; rw [hc]; rfl, ?_⟩
  have := (P8.1 hc).1
  have hp := h.pos
  unfold Idx
  omega
theorem Ov {m : Mch} {b i s κ : Nat} {R cs : List Int} (h : At d m b i s κ R cs) : w64 (m.pc + 1) = (stA d b : Int) + ((i + 1 : Nat) : Int) := by
  have h1 := Ak hD b (by have := h.hb; omega)
  have h2 := hD.most
  have h3 := Jk hD h.hb
  have h4 := h.hi
  have h5 := h.hb
  rw [h.pos, Mf (by omega)]; omega
theorem De : need (cdF d) ≤ 13 := by have := M4 hD; have := hD.most; omega
theorem step_at {m : Mch} {b i s κ : Nat} {R cs : List Int} (h : At d m b i s κ R cs) (h0 : m.state = 0) (h1 : m.started = false) {y : Ins} (hy : (blk d b)[i]? = some y) : (∃ ρ', ρ' < rk d b i κ ∧ Cfg d (Xb m y) ρ') ∨ (MGd d (Xb m y) ∧ ¬ Oy (Xb m y)) := by
  have hS := J1 hD h.hb
  have hX := blk_x hD h.hb
  have hL := W7 hD h.hb hy
  have hop := Vv hy
  have hmb := Py hD h
  have hat := Ov hD h
  have hns := De hD
  have hr := rs_bd hD h.rs
  have hmost := hD.most
  have hmem := Re hy
  have h17 := hL.no17
  have hok := hL.ok
  have hstt : ∀ m' : Mch, m'.state = 0 → m'.started = true → m'.pc = m.pc → m'.stack = m.stack → m'.sums = m.sums → (y.op = 1 ∨ y.op = 2 ∨ y.op = 3 ∨ y.op = 4 ∨ y.op = 13 ∨ y.op = 15 ∨ y.op = 16) → ((y.op = 1 → 1 ≤ m'.left ∧ m'.left ≤ y.a) ∧ (y.op = 15 → m'.left = 1)) → MGd d m' ∧ ¬ Oy m' := fun m' a1 a2 a3 a4 a5 a6 a7 => by
    have hA : At d m' b i s κ R cs := ⟨h.hb, h.hi, a3.trans h.pos, h.rs, a4.trans h.stack, h.lp, (congrArg List.length a5).trans h.sums⟩
    exact ⟨⟨Py hD hA, .inr (.inl ⟨a1, a2, b, i, s, κ, R, cs, y, hA, hy, a6, a7⟩)⟩, fun hm => by have := hm.2; rw [a2] at this; cases this⟩
  have hfail : ∀ c : Int, c ≠ 8 → MGd d (Wh m c) ∧ ¬ Oy (Wh m c) := fun c hc => ⟨⟨hmb, .inr (.inr (.inr ⟨rfl, hc⟩))⟩, fun hm => by have := hm.1; simp [Wh] at this⟩
  have hplain : ∀ m' : Mch, m'.state = 0 → m'.started = false → m'.pc = w64 (m.pc + 1) → m'.stack = m.stack → m'.sums = m.sums → (opL (blk d b) i ≠ 6 ∧ opL (blk d b) i ≠ 7 ∧ opL (blk d b) i ≠ 8 ∧ opL (blk d b) i ≠ 9 ∧ opL (blk d b) i ≠ 14 ∧ opL (blk d b) i ≠ 15) → i + 1 < (blk d b).length → ¬ P7 (blk d b) i → ∃ ρ', ρ' < rk d b i κ ∧ Cfg d m' ρ' := fun m' a1 a2 a3 a4 a5 a6 a7 a8 => by
    obtain ⟨p1, p2, p3, p4⟩ := hS.plain a6
    have hi1 : 1 ≤ i := by rcases Nat.eq_zero_or_pos i with e | e; exact absurd (.inl e) a8; exact e
    have hA : At d m' b (i + 1) s κ R cs := ⟨h.hb, a7, by rw [a3, hat], h.rs, a4.trans h.stack, by rw [p3, h.lp, p1], by rw [a5, h.sums, p4, p2]⟩
    exact ⟨_, Ez hD a8 a6.2.2.1 h.hi (by omega) (hS.no8 a6.2.2.2.1) (N7 hD (by omega)), Q2 hD a1 a2 hA⟩
  rcases (show y.op = 1 ∨ y.op = 2 ∨ y.op = 3 ∨ y.op = 4 ∨ y.op = 5 ∨ y.op = 6 ∨ y.op = 7 ∨ y.op = 8 ∨ y.op = 9 ∨ y.op = 10 ∨ y.op = 11 ∨ y.op = 12 ∨ y.op = 13 ∨ y.op = 14 ∨ y.op = 15 ∨ y.op = 16 by have := hok.2.2.2.2.2; unfold InR at this; omega) with o | o | o | o | o | o | o | o | o | o | o | o | o | o | o | o
  · have ha := (hok.1 o).1
    unfold InR at ha
    have e : Xb m y = { m with register := 0, started := true, left := y.a } := by simp only [Xb, o, if_pos, Wi]; rw [if_neg (by omega)]
    rw [e]
    exact .inr (hstt _ h0 rfl rfl rfl rfl (.inl o) ⟨fun _ => ⟨ha.1, Int.le_refl _⟩, fun e => by omega⟩)
  · have e : Xb m y = { m with started := true, left := 1 } := by simp [Xb, o, Wi]
    rw [e]
    exact .inr (hstt _ h0 rfl rfl rfl rfl (.inr (.inl o)) ⟨fun e => by omega, fun e => by first | rfl | omega⟩)
  · have ha := hX.skip y hmem o
    have e : Xb m y = { m with started := true, left := y.a } := by simp [Xb, o, Wi]; omega
    rw [e]
    exact .inr (hstt _ h0 rfl rfl rfl rfl (.inr (.inr (.inl o))) ⟨fun e => by omega, fun e => by first | rfl | omega⟩)
  · have e : Xb m y = Wi m m.register := by simp [Xb, o]
    rw [e]
    unfold Wi
    split
    · exact .inl (hplain _ h0 h1 rfl rfl rfl (by omega) (hL.goes (by omega)) (Mp hD h.hb (by omega)))
    · exact .inr (hstt _ h0 rfl rfl rfl rfl (.inr (.inr (.inr (.inl o)))) ⟨fun e => by omega, fun e => by first | rfl | omega⟩)
  · have e : Xb m y = if y.a < m.register then Wh m 6 else L7 m := by simp [Xb, o]
    rw [e]
    split
    · exact .inr (hfail 6 (by decide))
    · exact .inl (hplain _ h0 h1 rfl rfl rfl (by omega) (hL.goes (by omega)) (Mp hD h.hb (by omega)))
  · have e : Xb m y = Jt m m.register (w64 (m.pc + 1)) := by simp [Xb, o]
    rw [e]
    unfold Jt
    rw [if_neg (by have := hmb.1; omega)]
    obtain ⟨p1, p2, p3, p4⟩ := hS.push (hop.trans o)
    have hg := hL.goes (by omega)
    have hA : At d { m with stack := m.stack ++ [m.register], pc := w64 (m.pc + 1) } b (i + 1) s κ R (cs ++ [m.register]) := ⟨h.hb, hg, hat, h.rs, by simp only; rw [h.stack, List.append_assoc], by rw [Ra, Rf, h.lp, p1, p3], by simp only; rw [h.sums, p2, p4]⟩
    have hasc := Mp hD h.hb (i := i) (by omega)
    have hi1 : 1 ≤ i := by rcases Nat.eq_zero_or_pos i with e | e; exact absurd (.inl e) hasc; exact e
    exact .inl ⟨_, Ez hD hasc (by omega) h.hi (by omega) (hS.no8 (by omega)) (N7 hD (by omega)), Q2 hD h0 h1 hA⟩
  · obtain ⟨p1, p2, p3, p4, p5, p6, p7⟩ := hS.loop (hop.trans o)
    obtain ⟨m0, _, _, _, hm0, _, _, _, _, _, _, _, hya, hlt⟩ := hL.loop o
    have hcs := h.lp
    rw [p1] at hcs
    obtain ⟨c, rfl⟩ : ∃ c, cs = [c] := by
      cases cs with
      | nil => simp at hcs
      | cons c l => cases l with
        | nil => exact ⟨c, rfl⟩
        | cons _ _ => simp at hcs
    have hlen : m.stack.length - 1 = R.length := by rw [h.stack]; simp
    have htop : I6 m = c := by unfold I6; rw [hlen, h.stack]; simp
    have hdrop : (Ju m).stack = R := by unfold Ju; simp only; rw [hlen, h.stack]; simp
    have hne : ¬ m.stack.length = 0 := by rw [h.stack]; simp
    have e : Xb m y = L8 m y.a := by simp [Xb, o]
    have hasc := Mp hD h.hb (i := i) (by omega)
    rw [e]
    unfold L8
    rw [if_neg hne, htop]
    split
    · have hA : At d { Ju m with pc := y.a } b (i + 3) s κ R [] := ⟨h.hb, hlt, by simp only; rw [hya]; omega, h.rs, by simp only; rw [hdrop, List.append_nil], by rw [p5]; rfl, by show m.sums.length = _; rw [h.sums, p2, p6]⟩
      exact .inl ⟨_, Ez hD hasc (by omega) h.hi (by omega) p7 (N7 hD (by omega)), Q2 hD h0 h1 hA⟩
    · have hA : At d { m with stack := m.stack.set (m.stack.length - 1) (w64 (c - 1)), pc := w64 (m.pc + 1) } b (i + 1) s κ R [w64 (c - 1)] := ⟨h.hb, by omega, hat, h.rs, by simp only; rw [hlen, h.stack]; simp, by rw [p3]; rfl, by simp only; rw [h.sums, p2, p4]⟩
      exact .inl ⟨_, Ez hD hasc (by omega) h.hi (by omega) (hS.no8 (by omega)) (N7 hD (by omega)), Q2 hD h0 h1 hA⟩
  · obtain ⟨p1, p2, p3, p4⟩ := hS.jump (hop.trans o)
    obtain ⟨k, z, hk, hz, hzo⟩ := hL.jump o
    obtain ⟨_, w, hw, _, hwa⟩ := Td hD h.hb hz hzo
    rw [← hk, hy] at hw; injection hw with hw; subst hw
    have e : Xb m y = { m with pc := y.a } := by simp [Xb, o]
    have hi2 : i - 2 = k := by omega
    rw [hi2] at p3 p4
    have hA : At d { m with pc := y.a } b k s κ R cs := ⟨h.hb, by have := h.hi; omega, hwa, h.rs, h.stack, by rw [h.lp, p1, p3], by show m.sums.length = _; rw [h.sums, p2, p4]⟩
    have hasc := Mp hD h.hb (i := i) (by omega)
    have hzk := Vv hz
    have hasc' := Mp hD h.hb (i := k) (by omega)
    rw [e]
    refine .inl ⟨_, ?_, Q2 hD h0 h1 hA⟩
    rw [E1 hD hasc, E1 hD hasc']
    unfold wL
    have := h.hi
    rw [if_pos (hop.trans o), if_neg (by omega)]
    omega
  · have hc := hL.call o
    obtain ⟨b', hb', ha⟩ := T4 hc
    have e : Xb m y = Jt m (w64 (m.pc + 1)) y.a := by simp [Xb, o]
    rw [e]
    unfold Jt
    rw [if_neg (by have := hmb.1; omega)]
    have hR := RS.call h.rs hy o ha hb' h.lp
    have hst := (J1 hD (j := b') (by have := h.hb; omega)).start
    have hbb := Jk hD (j := b') (by have := h.hb; omega)
    have hA : At d { m with stack := m.stack ++ [w64 (m.pc + 1)], pc := y.a } b' 0 (s + smL (blk d b) i) (κ + 30) (R ++ cs ++ [(stA d b : Int) + (i : Int) + 1]) [] := ⟨by have := h.hb; omega, by omega, by simp only; rw [ha]; omega, hR, by simp only; rw [hat, h.stack, List.append_nil, show (stA d b : Int) + ((i + 1 : Nat) : Int) = (stA d b : Int) + (i : Int) + 1 by omega], by rw [hst.1]; rfl, by simp only; rw [h.sums, hst.2, Nat.add_zero]⟩
    refine .inl ⟨_, ?_, Q2 hD h0 h1 hA⟩
    have e1 : rk d b' 0 (κ + 30) = 2 * b' + 2 := by unfold rk; rw [if_pos (.inl rfl)]; omega
    rw [e1]
    unfold rk
    have := h.hb
    split
    · rename_i hd
      rcases hd with hd | ⟨hd, _⟩ <;> omega
    · omega
  · obtain ⟨p1, p2⟩ := hS.ret (hop.trans o)
    have hcs : cs = [] := List.eq_nil_of_length_eq_zero (by rw [h.lp, p1])
    have hstk := h.stack
    rw [hcs, List.append_nil] at hstk
    have hsm := h.sums
    rw [p2, Nat.add_zero] at hsm
    have hasc := Mp hD h.hb (i := i) (by omega)
    have hwl := wL_le hD h.hb h.hi
    have e : Xb m y = Tc m := by simp [Xb, o]
    rw [e, E1 hD hasc]
    unfold Tc
    have hrs := h.rs
    clear hr hplain hstt hfail hmb hat h
    cases hrs with
    | base =>
      rw [if_neg (by rw [hstk]; simp)]
      refine .inl ⟨1, by omega, h0, h1, .inr (.inl ⟨?_, ?_, hsm, rfl⟩)⟩
      · simp only [I6, hstk]; rfl
      · simp only [Ju, hstk]; rfl
    | @call b0 i0 _ s0 κ0 R0 cs0 y0 hrs hy0 ho0 ha0 hb0 hc0 =>
      have hr0 := rs_bd hD hrs
      have hS0 := J1 hD hr0.1
      obtain ⟨q1, q2⟩ := hS0.call ((Vv hy0).trans ho0)
      have hg0 := (W7 hD hr0.1 hy0).goes (by omega)
      have hlen : m.stack.length - 1 = (R0 ++ cs0).length := by rw [hstk]; simp
      have htop : I6 m = (stA d b0 : Int) + (i0 : Int) + 1 := by unfold I6; rw [hlen, hstk]; simp
      have hdrop : (Ju m).stack = R0 ++ cs0 := by unfold Ju; simp only; rw [hlen, hstk, List.take_left]
      rw [if_neg (by rw [hstk]; simp), htop]
      have hA : At d { Ju m with pc := (stA d b0 : Int) + (i0 : Int) + 1 } b0 (i0 + 1) s0 κ0 R0 cs0 := ⟨hr0.1, hg0, by simp only; omega, hrs, hdrop, by rw [hc0, q1], by show m.sums.length = _; rw [hsm, q2]⟩
      have hnd : ¬ P7 (blk d b0) (i0 + 1) := by
        rintro (e | ⟨e, e14⟩)
        · omega
        · obtain rfl : i0 = 0 := by omega
          rw [Vv hy0] at e14; omega
      have hw0 := wL_le hD hr0.1 hg0
      refine .inl ⟨_, ?_, Q2 hD h0 h1 hA⟩
      rw [E1 hD hnd]
      omega
  · have hj := hX.jumps ⟨y, hmem, .inl o⟩
    have hz : ∀ t, opL (blk d b) t ≠ 7 ∧ opL (blk d b) t ≠ 8 ∧ opL (blk d b) t ≠ 14 ∧ opL (blk d b) t ≠ 15 := fun t => by
      unfold opL
      cases ht : (blk d b)[t]? with
      | none => simp
      | some z => exact hj z (Re ht)
    have hz0 : ∀ t, lpL (blk d b) t = 0 ∧ smL (blk d b) t = 0 := fun t => ⟨if_neg (by have := hz t; have := hz (t - 1); rintro (e | e | e) <;> omega), if_neg (by have := hz t; have := hz (t - 1); rintro (e | e) <;> omega)⟩
    have hasc := Mp hD h.hb (i := i) (by omega)
    have e : Xb m y = if m.register = y.a then { m with pc := y.b } else L7 m := by simp [Xb, o]
    rw [e]
    split
    · have ht := hL.tag o
      obtain ⟨t, htt⟩ : ∃ t : Nat, y.b = (stA d b : Int) + (t : Int) := ⟨(y.b - stA d b).toNat, by omega⟩
      have hA : At d { m with pc := y.b } b t s κ R cs := ⟨h.hb, by omega, htt, h.rs, h.stack, by rw [h.lp, (hz0 i).1, (hz0 t).1], by show m.sums.length = _; rw [h.sums, (hz0 i).2, (hz0 t).2]⟩
      have hnd : ¬ P7 (blk d b) t := by
        rintro (e | ⟨_, e14⟩)
        · omega
        · exact (hz 0).2.2.1 e14
      exact .inl ⟨_, Ez hD hasc (by omega) h.hi (by omega) (hz t).2.1 hnd, Q2 hD h0 h1 hA⟩
    · exact .inl (hplain _ h0 h1 rfl rfl rfl (by omega) (hL.goes (by omega)) hasc)
  · have ha := hX.fail y hmem o
    have e : Xb m y = Wh m y.a := by simp [Xb, o]
    rw [e, ha]
    exact .inr (hfail 3 (by decide))
  · have e : Xb m y = { m with started := true, left := 1 } := by simp [Xb, o, Wi]
    rw [e]
    exact .inr (hstt _ h0 rfl rfl rfl rfl (.inr (.inr (.inr (.inr (.inl o))))) ⟨fun e => by omega, fun e => by first | rfl | omega⟩)
  · obtain ⟨p1, p2, p3, p4⟩ := hS.mark (hop.trans o)
    have e : Xb m y = if 30 ≤ m.sums.length then Wh m 8 else { L7 m with sums := m.sums ++ [0] } := by simp [Xb, o]
    rw [e, if_neg (by have := hmb.2; omega)]
    have hA : At d { L7 m with sums := m.sums ++ [0] } b (i + 1) s κ R cs := ⟨h.hb, hL.goes (by omega), hat, h.rs, h.stack, by rw [h.lp, p1, p3], by simp only [Ra, Rf]; rw [h.sums, p2, p4]⟩
    have h9 := (hS.l14 _ (hop.trans o)).1
    refine .inl ⟨_, ?_, Q2 hD h0 h1 hA⟩
    by_cases hi0 : i = 0
    · subst hi0
      have e1 : rk d b 0 κ = 2 * b + 2 := by unfold rk; rw [if_pos (.inl rfl)]; omega
      have e2 : rk d b (0 + 1) κ = 2 * b + 1 := by unfold rk; rw [if_pos (.inr ⟨rfl, hop.trans o⟩)]; omega
      omega
    · have hasc : ¬ P7 (blk d b) i := by
        rintro (e | ⟨e, e14⟩)
        · exact hi0 e
        · subst e
          have := (hS.l14 _ e14).1; simp at this; omega
      exact Ez hD hasc (by omega) h.hi (by omega) (by omega) (N7 hD (by omega))
  · obtain ⟨p1, p2, p3, p4, p5⟩ := hS.sum (hop.trans o)
    have e : Xb m y = if m.sums.length = 0 then Wh m 8 else Wi m 1 := by simp [Xb, o]
    have e2 : Wi m 1 = { m with started := true, left := 1 } := by simp [Wi]
    rw [e, if_neg (by rw [h.sums, p2]; omega), e2]
    exact .inr (hstt _ h0 rfl rfl rfl rfl (.inr (.inr (.inr (.inr (.inr (.inl o)))))) ⟨fun e => by omega, fun e => by first | rfl | omega⟩)
  · have e : Xb m y = { m with started := true, left := 1 } := by simp [Xb, o, Wi]
    rw [e]
    exact .inr (hstt _ h0 rfl rfl rfl rfl (.inr (.inr (.inr (.inr (.inr (.inr o)))))) ⟨fun e => by omega, fun e => by first | rfl | omega⟩)
end
theorem Tb {p : Prg} {n : Nat} {m : Mch} (h : ¬ Oy m) : K5 p n m = m := by cases n <;> (unfold K5; rw [if_neg h])
section
variable {d : Des} (hD : DrawD d)
include hD
theorem rk_le {b i κ s : Nat} {R : List Int} (hb : b < d.length) (hi : i < (blk d b).length) (h : RS d b R s κ) : rk d b i κ ≤ 100000 := by
  have h1 := wL_le hD hb hi
  have h2 := rs_bd hD h
  have h3 := hD.most
  unfold rk
  split <;> omega
theorem Ii : ∀ (n : Nat) (m : Mch) (ρ : Nat), Cfg d m ρ → ρ ≤ n → MGd d (K5 (cdF d) n m) ∧ ¬ Oy (K5 (cdF d) n m)
  | 0, m, ρ, h, hρ => by
    obtain ⟨_, _, h | h | ⟨b, i, s, κ, R, cs, hA, e⟩⟩ := h
    · omega
    · omega
    · have := rk_pos hD (i := i) (κ := κ) hA.hb; omega
  | n + 1, m, ρ, h, hρ => by
    obtain ⟨h0, h1, h⟩ := h
    have hnd := M4 hD
    have hp := hD.pos
    rw [K5, if_pos ⟨h0, h1⟩]
    have hcl := Me hD
    have hfr := Ev hD
    rcases h with ⟨ha, hs, hm, e⟩ | ⟨ha, hs, hm, e⟩ | ⟨b, i, s, κ, R, cs, hA, e⟩
    · have hc0 : (cdF d).code[m.pc.toNat]? = some ⟨9, (stA d (d.length - 1) : Int), 0⟩ := by rw [ha, V4 hD]; rfl
      have hmA : mAt (cdF d) m = ⟨9, (stA d (d.length - 1) : Int), 0⟩ := by unfold mAt; rw [hc0]; rfl
      have hl := (P8.1 hc0).1
      have hst := (J1 hD (j := d.length - 1) (by omega)).start
      have hbb := Jk hD (j := d.length - 1) (by omega)
      rw [if_pos (by unfold Idx; omega), hmA]
      have ep : Xb m ⟨9, (stA d (d.length - 1) : Int), 0⟩ = { m with stack := [1], pc := (stA d (d.length - 1) : Int) } := by
        simp only [Xb]
        simp only [Jt, hs, ha]
        rfl
      rw [ep]
      have hA : At d { m with stack := [1], pc := (stA d (d.length - 1) : Int) } (d.length - 1) 0 0 1 [1] [] := ⟨by omega, by omega, by simp only; omega, RS.base, rfl, by rw [hst.1]; rfl, by simp only [hm]; rw [hst.2]; rfl⟩
      have e1 : rk d (d.length - 1) 0 1 = 2 * (d.length - 1) + 2 := by unfold rk; rw [if_pos (.inl rfl)]; omega
      have := hD.most
      exact Ii n _ _ (Q2 hD h0 h1 hA) (by omega)
    · have hc0 : (cdF d).code[m.pc.toNat]? = some ⟨17, 0, 0⟩ := by rw [ha, V4 hD]; rfl
      have hmA : mAt (cdF d) m = ⟨17, 0, 0⟩ := by unfold mAt; rw [hc0]; rfl
      have hl := (P8.1 hc0).1
      rw [if_pos (by unfold Idx; rw [ha] at hl ⊢; simp at hl; omega), hmA]
      have ep : Xb m ⟨17, 0, 0⟩ = { m with state := 1 } := by simp [Xb]
      have hnr : ¬ Oy { m with state := 1 } := fun hh => by have := hh.1; simp at this
      rw [ep, Tb hnr]
      refine ⟨⟨⟨by simp only [hs, Rc]; omega, by simp only [hm]; omega⟩, .inr (.inr (.inl rfl))⟩, hnr⟩
    · obtain ⟨y, hy, hmA, hidx⟩ := at_ins hD hA
      rw [if_pos hidx, hmA]
      rcases step_at hD hA h0 h1 hy with ⟨ρ', hlt, hc⟩ | ⟨hg, hnr⟩
      · exact Ii n _ _ hc (by omega)
      · rw [Tb hnr]; exact ⟨hg, hnr⟩
theorem adv_good {m : Mch} (h : MGd d m) : MGd d (Mj (cdF d) true m) ∧ ((Mj (cdF d) true m).state = 0 → Stt d (Mj (cdF d) true m)) := by
  unfold Mj
  by_cases h0 : m.state = 0
  · rw [if_neg (by omega)]
    obtain ⟨hb, ⟨ρ, hρ, hc⟩ | hs | h1 | h2⟩ := h
    · have hst := hc.2.1
      rw [if_neg (by rintro (e | e); cases e; rw [hst] at e; cases e.1)]
      obtain ⟨g1, g2⟩ := Ii hD 100001 m ρ hc (by omega)
      refine ⟨g1, fun e => ?_⟩
      obtain ⟨_, ⟨ρ', _, hc'⟩ | hs | e1 | ⟨e2, _⟩⟩ := g1
      · exact absurd ⟨hc'.1, hc'.2.1⟩ g2
      · exact hs
      · omega
      · omega
    · obtain ⟨a1, a2, b, i, s, κ, R, cs, y, hA, hrest⟩ := hs
      obtain ⟨_, _, _, hidx⟩ := at_ins hD hA
      have hnr : ¬ Oy m := fun e => by have := e.2; rw [a2] at this; cases this
      rw [if_neg (by rintro (e | e); cases e; exact e.2 hidx), Tb hnr]
      exact ⟨⟨hb, .inr (.inl ⟨a1, a2, b, i, s, κ, R, cs, y, hA, hrest⟩)⟩, fun _ => ⟨a1, a2, b, i, s, κ, R, cs, y, hA, hrest⟩⟩
    · omega
    · omega
  · rw [if_pos h0]
    exact ⟨h, fun e => absurd e h0⟩
theorem byte_good {m : Mch} (h : Stt d m) (c : Int) : MGd d (mByte (cdF d) m c) := by
  obtain ⟨h0, h1, b, i, s, κ, R, cs, y, hA, hy, hop, hl1, hl15⟩ := h
  obtain ⟨y', hy', hmA, _⟩ := at_ins hD hA
  rw [hy] at hy'; injection hy' with hy'; subst hy'
  have hS := J1 hD hA.hb
  have hX := blk_x hD hA.hb
  have hL := W7 hD hA.hb hy
  have ho := Vv hy
  have hmb := Py hD hA
  have hat := Ov hD hA
  have hmem := Re hy
  have hg := hL.goes (by unfold Goes; omega)
  have hok := hL.ok
  unfold mByte
  rw [hmA, if_neg (by
    rintro (⟨e, e2⟩ | ⟨e, e2⟩)
    · exact e2 (hl1 e)
    · have := (hS.sum (ho.trans e)).2.1
      have := hA.sums
      omega)]
  -- where the byte leaves the instruction
  have hstay : ∀ m' : Mch, m'.state = 0 → m'.started = true → m'.pc = m.pc → m'.stack = m.stack → m'.sums.length = m.sums.length → (y.op = 1 → 1 ≤ m'.left ∧ m'.left ≤ y.a) → y.op ≠ 15 → MGd d m' := fun m' a1 a2 a3 a4 a5 a6 a7 => by
    have hA' : At d m' b i s κ R cs := ⟨hA.hb, hA.hi, a3.trans hA.pos, hA.rs, a4.trans hA.stack, hA.lp, a5.trans hA.sums⟩
    exact ⟨Py hD hA', .inr (.inl ⟨a1, a2, b, i, s, κ, R, cs, y, hA', hy, hop, a6, fun e => absurd e a7⟩)⟩
  have hnext : ∀ m' : Mch, m'.state = 0 → m'.started = false → m'.pc = w64 (m.pc + 1) → m'.stack = m.stack → m'.sums.length = s → MGd d m' := fun m' a1 a2 a3 a4 a5 => by
    have hz : lpL (blk d b) (i + 1) = 0 ∧ smL (blk d b) (i + 1) = 0 ∧ lpL (blk d b) i = 0 := by
      by_cases e : y.op = 15
      · have := hS.sum (ho.trans e); exact ⟨this.2.2.1, this.2.2.2.1, this.1⟩
      · have := hS.plain (i := i) (by omega); exact ⟨this.2.2.1, this.2.2.2, this.1⟩
    have hA' : At d m' b (i + 1) s κ R cs := ⟨hA.hb, hg, by rw [a3, hat], hA.rs, a4.trans hA.stack, by rw [hA.lp, hz.1, hz.2.2], by rw [a5, hz.2.1, Nat.add_zero]⟩
    exact ⟨Py hD hA', .inl ⟨_, rk_le hD hA.hb hg hA.rs, Q2 hD a1 a2 hA'⟩⟩
  have hfail : ∀ (m' : Mch) (c : Int), m'.stack = m.stack → m'.sums.length = m.sums.length → c ≠ 8 → MGd d (Wh m' c) := fun m' c a1 a2 hc => ⟨⟨by show (m'.stack.length : Int) ≤ _; rw [a1]; exact hmb.1, by show m'.sums.length ≤ _; rw [a2]; exact hmb.2⟩, .inr (.inr (.inr ⟨rfl, hc⟩))⟩
  have hsm : y.op ≠ 15 → m.sums.length = s := fun e => by
    have := (hS.plain (i := i) (by omega)).2.1
    rw [hA.sums, this, Nat.add_zero]
  have hskip : ∀ m' : Mch, m'.state = 0 → m'.started = true → m'.pc = m.pc → m'.stack = m.stack → m'.sums.length = m.sums.length → (y.op = 1 → m'.left ≠ 0 → 1 ≤ m'.left ∧ m'.left ≤ y.a) → y.op ≠ 15 → MGd d (Uh m') := fun m' a1 a2 a3 a4 a5 a6 a7 => by
    unfold Uh
    split
    · exact hnext _ a1 rfl (by simp only; rw [a3]) a4 (by simp only; rw [a5, hsm a7])
    · rename_i hne
      exact hstay _ a1 a2 a3 a4 a5 (fun e => a6 e hne) a7
  have hcl : ∀ m' : Mch, (Yy m' c).sums.length = m'.sums.length := fun m' => by simp [Yy]
  unfold Bh
  by_cases e15 : y.op = 15
  · rw [if_pos e15]
    have hs1 := (hS.sum (ho.trans e15)).2.1
    have hsl := hA.sums
    rw [hs1] at hsl
    split
    · exact hfail m 5 rfl rfl (by decide)
    · have hl := hl15 e15
      have e : Qb (Yy { m with sums := m.sums.take (m.sums.length - 1) } c) y c = Uh (Yy { m with sums := m.sums.take (m.sums.length - 1) } c) := by simp [Qb, e15]
      rw [e]
      unfold Uh
      have hl0 : (Yy { m with sums := m.sums.take (m.sums.length - 1) } c).left = 0 := by
        show w64 (m.left - 1) = 0
        rw [hl]; exact Mf (by omega)
      rw [if_pos hl0]
      exact hnext _ h0 rfl rfl rfl (by simp only [hcl, List.length_take]; omega)
  · rw [if_neg e15]
    have hleft : y.op = 1 → (Yy m c).left ≠ 0 → 1 ≤ (Yy m c).left ∧ (Yy m c).left ≤ y.a := fun e hne => by
      have h2 := hl1 e
      have h3 := (hok.1 e).1
      unfold InR at h3
      have e4 : (Yy m c).left = m.left - 1 := Mf (by omega)
      omega
    have hsC : (Yy m c).sums.length = m.sums.length := hcl m
    rcases hop with o | o | o | o | o | o | o
    · have e : Qb (Yy m c) y c = Uh { Yy m c with register := if y.b = 1 then w64 ((Yy m c).register + c * 2 ^ (8 * (y.a - (Yy m c).left - 1)).toNat) else w64 (w64 (256 * (Yy m c).register) + c) } := by simp [Qb, o]
      rw [e]
      exact hskip _ h0 h1 rfl rfl hsC hleft e15
    · have e : Qb (Yy m c) y c = if c ≠ y.a then Wh (Yy m c) 2 else Uh (Yy m c) := by simp [Qb, o]
      rw [e]
      split
      · exact hfail _ 2 rfl hsC (by decide)
      · exact hskip _ h0 h1 rfl rfl hsC hleft e15
    · have e : Qb (Yy m c) y c = Uh (Yy m c) := by simp [Qb, o]
      rw [e]
      exact hskip _ h0 h1 rfl rfl hsC hleft e15
    · have e : Qb (Yy m c) y c = Uh (Yy m c) := by simp [Qb, o]
      rw [e]
      exact hskip _ h0 h1 rfl rfl hsC hleft e15
    · have e : Qb (Yy m c) y c = if 1 < c then Wh (Yy m c) 4 else if (Yy m c).left ≠ 0 then Yy m c else { Yy m c with started := false, pc := if c = 0 then y.a else w64 ((Yy m c).pc + 1) } := by simp [Qb, o]
      rw [e]
      split
      · exact hfail _ 4 rfl hsC (by decide)
      split
      · exact hstay _ h0 h1 rfl rfl hsC (fun e => by omega) e15
      · have hj := hX.jumps ⟨y, hmem, .inr o⟩
        have hz : ∀ t, opL (blk d b) t ≠ 7 ∧ opL (blk d b) t ≠ 8 ∧ opL (blk d b) t ≠ 14 ∧ opL (blk d b) t ≠ 15 := fun t => by
          unfold opL
          cases ht : (blk d b)[t]? with
          | none => simp
          | some z => exact hj z (Re ht)
        have hz0 : ∀ t, lpL (blk d b) t = 0 ∧ smL (blk d b) t = 0 := fun t => ⟨if_neg (by have := hz t; have := hz (t - 1); rintro (e | e | e) <;> omega), if_neg (by have := hz t; have := hz (t - 1); rintro (e | e) <;> omega)⟩
        have ht := hL.flag o
        obtain ⟨t, htl, htt⟩ : ∃ t : Nat, t < (blk d b).length ∧ (if c = 0 then y.a else w64 ((Yy m c).pc + 1)) = (stA d b : Int) + (t : Int) := by
          split
          · exact ⟨(y.a - stA d b).toNat, by omega, by omega⟩
          · exact ⟨i + 1, hg, hat⟩
        have hA' : At d { Yy m c with started := false, pc := if c = 0 then y.a else w64 ((Yy m c).pc + 1) } b t s κ R cs := ⟨hA.hb, htl, htt, hA.rs, hA.stack, by rw [hA.lp, (hz0 i).1, (hz0 t).1], by simp only; rw [hsC, hsm e15, (hz0 t).2, Nat.add_zero]⟩
        exact ⟨Py hD hA', .inl ⟨_, rk_le hD hA.hb htl hA.rs, Q2 hD h0 rfl hA'⟩⟩
    · exact absurd o e15
    · have e : Qb (Yy m c) y c = if (Yy m c).escaped = false ∧ c = y.a then Uh (Yy m c) else { Yy m c with escaped := !(Yy m c).escaped && decide (c = 92), left := 1 } := by simp [Qb, o]
      rw [e]
      split
      · exact hskip _ h0 h1 rfl rfl hsC hleft e15
      · exact hstay _ h0 h1 rfl rfl hsC (fun e => by omega) e15
theorem feed_good {m : Mch} (h : MGd d m) (c : Int) : MGd d (Hz (cdF d) true m c) := by
  obtain ⟨g1, g2⟩ := adv_good hD h
  unfold Hz
  split
  · exact ⟨g1.1, .inr (.inr (.inr ⟨rfl, by show (7 : Int) ≠ 8; decide⟩))⟩
  split
  · exact g1
  · rename_i h0
    exact byte_good hD (g2 (by omega)) c
theorem m0_good : MGd d m0 := by
  have := M4 hD
  exact ⟨⟨by show ((0 : Nat) : Int) ≤ _; omega, Nat.zero_le _⟩, .inl ⟨20, by omega, rfl, rfl, .inl ⟨rfl, rfl, rfl, rfl⟩⟩⟩
end
theorem MGd.no8 {d : Des} {m : Mch} (h : MGd d m) : ¬ (m.state = 2 ∧ m.code = 8) := by
  rintro ⟨e1, e2⟩
  obtain ⟨_, ⟨ρ, _, hc⟩ | hs | h1 | ⟨_, h3⟩⟩ := h
  · have := hc.1; omega
  · have := hs.1; omega
  · omega
  · exact h3 e2
end Go.Proofs.Ytnecoghfhcimeaa
