/- The law FnMachineBounds holds: for every input the Go function returns true, and each argument reads as before. No condition. -/
import Derived.Test.YtnecoghfhcimeaaRows
import Derived.Test.YtnecoghfhcimeaaGat0
import Derived.Test.YtnecoghfhcimeaaGat1
import Derived.Test.YtnecoghfhcimeaaGat2
import Derived.Test.YtnecoghfhcimeaaGat3
import Derived.Test.YtnecoghfhcimeaaGat4
import Derived.Test.YtnecoghfhcimeaaGat5
import Derived.Test.YtnecoghfhcimeaaGat6
import Derived.Test.YtnecoghfhcimeaaGat7
import Derived.WalkKit
import Derived.ProofKit
import Derived.OpenShut
import Derived.ShutString
import Derived.ChangeOld
import Derived.Below
import Derived.Outline
namespace Go.Proofs.Ytnecoghfhcimeaa.fnMachineBounds
set_option linter.unusedSimpArgs false
set_option linter.unusedVariables false
open Go.ChangeShapes Go.WideShapes Go.ChangeAt Go.RowKit
open Go.ChangeMaps (open_string shut_string)
theorem own : ownKnob Try.prog.godebug = none := by kernel_rfl
theorem laidOut : laidOutB Try.prog = true := by kernel_rfl
set_option maxRecDepth 100000 in
set_option maxHeartbeats 16000000 in
theorem law_ac (code : List UInt8) (wl : code.length ≤ maxLen) : ACv Try.prog 8 [Yz code] (.bool true) := by
  have hB := big_ac code
  refine Yh Try.func8 rfl _ Try.ntmps8 (by simp) fun C hn hm => ?_
  by_cases hbig : (1048576 : Int) < code.length
  · repeat' (first
    | refine Rk Zu hn rfl ?_
    | refine Rl ?_
    | refine Zc 30 rfl ?_
    | ((first | refine Zg hn rfl rfl rfl ?_ | refine Zm rfl rfl ?_); first
      | refine ⟨_, Zw hB rfl, ?_⟩)
    | (refine Rj 30 rfl ?_; first | refine Zz rfl ?_ | ((first | refine Zd rfl ?_ ?_ | refine Ze rfl ?_ ?_); · first | omega | rfl | assumption | (simp only [lmT]; omega)) | ((first | refine Zf rfl ?_ ?_ | refine Za rfl ?_ ?_); · first | omega | rfl | assumption | (simp only [lmT]; omega)) | refine Ri (Zt hm rfl rfl ?_) | exact Ri (Zj hm rfl rfl rfl (nbT rfl) rfl rfl))
    | refine Z6 (tl hn rfl) ?_
    | refine Z3 rfl rfl rfl rfl (nbT rfl) ?_
    | ((first | refine Zg hn rfl rfl rfl ?_ | refine Zm rfl rfl ?_); first
      | refine ⟨_, Zx rfl rfl (by omega), ?_⟩
      | refine ⟨_, Zb rfl rfl (by omega) (by assumption), ?_⟩
      | refine ⟨_, Z4 rfl rfl (by omega), ?_⟩
      | refine ⟨_, Zv rfl rfl rfl, ?_⟩
      | refine ⟨_, Z7 rfl rfl (by omega), ?_⟩
      | refine ⟨_, Zr rfl rfl rfl rfl rfl rfl, ?_⟩)
    | ((first | refine Zi rfl rfl rfl ?_ ?_ | refine Zh rfl rfl rfl ?_ ?_ | refine Zk rfl rfl rfl ?_ ?_ | refine Zl rfl rfl rfl ?_ ?_ | refine Zo rfl rfl rfl ?_ ?_ | refine Zn rfl rfl rfl ?_ ?_ | refine Zq rfl rfl rfl ?_ ?_ | refine Zs rfl rfl rfl ?_ ?_) <;> intro h <;> try (exfalso; first | omega | contradiction | (simp only [lmT] at h; omega))))
    all_goals exact Yf rfl
  have hl : code.length ≤ 1048576 := by omega
  repeat' (first
    | (refine op_callQ (Ib code hl) qfim_ok rfl (tl hn rfl) ?_; rintro _ ⟨d, bs, rfl, hD, hbl⟩)
    | refine Rk Zu hn rfl ?_
    | refine Rl ?_
    | refine Zc 30 rfl ?_
    | ((first | refine Zg hn rfl rfl rfl ?_ | refine Zm rfl rfl ?_); first
      | refine ⟨_, Zw hB rfl, ?_⟩)
    | (refine Rj 30 rfl ?_; first | refine Zz rfl ?_ | ((first | refine Zd rfl ?_ ?_ | refine Ze rfl ?_ ?_); · first | omega | rfl | assumption | (simp only [lmT]; omega)) | ((first | refine Zf rfl ?_ ?_ | refine Za rfl ?_ ?_); · first | omega | rfl | assumption | (simp only [lmT]; omega)) | refine Ri (Zt hm rfl rfl ?_) | exact Ri (Zj hm rfl rfl rfl (nbT rfl) rfl rfl))
    | refine Z6 (tl hn rfl) ?_
    | refine Z3 rfl rfl rfl rfl (nbT rfl) ?_
    | ((first | refine Zg hn rfl rfl rfl ?_ | refine Zm rfl rfl ?_); first
      | refine ⟨_, Zx rfl rfl (by omega), ?_⟩
      | refine ⟨_, Zb rfl rfl (by omega) (by assumption), ?_⟩
      | refine ⟨_, Z4 rfl rfl (by omega), ?_⟩
      | refine ⟨_, Zv rfl rfl rfl, ?_⟩
      | refine ⟨_, Z7 rfl rfl (by omega), ?_⟩
      | refine ⟨_, Zr rfl rfl rfl rfl rfl rfl, ?_⟩)
    | ((first | refine Zi rfl rfl rfl ?_ ?_ | refine Zh rfl rfl rfl ?_ ?_ | refine Zk rfl rfl rfl ?_ ?_ | refine Zl rfl rfl rfl ?_ ?_ | refine Zo rfl rfl rfl ?_ ?_ | refine Zn rfl rfl rfl ?_ ?_ | refine Zq rfl rfl rfl ?_ ?_ | refine Zs rfl rfl rfl ?_ ?_) <;> intro h <;> try (exfalso; first | omega | contradiction | (simp only [lmT] at h; omega))))
  have hG := hD.good
  have hd6 := hD.most
  have hdo := hD.desOk
  have hdt : W0 d ≤ 1048576 := by have := hD.total; omega
  have hlm : (d.map Ws).length = d.length := lmT ..
  have hbm : (bs.map fun z => [RV.u8 z]).length = bs.length := lmT ..
  have hPB := safe_big hD
  have hC := (Qv d hdo hdt).shut (r := E8 (cdF d)) (by rintro _ rfl; exact seals_prg _)
  have hnd := M4 hD
  have hSt := Mv (cdF d) hPB
  have hst : Is (cdF d) = need (cdF d) := by unfold Is; rw [if_pos (It hD)]
  rw [hst] at hSt
  have hfit : fitB (cdF d) = true := by unfold fitB; exact decide_eq_true ⟨It hD, by omega⟩
  have hNM := Tp
  repeat' (first
    | ((first | refine Zg hn rfl rfl rfl ?_ | refine Zm rfl rfl ?_); first
      | refine ⟨_, Z0 d.length rfl hlm, ?_⟩
      | refine ⟨_, Z0 bs.length rfl hbm, ?_⟩)
    | refine Rk Zu hn rfl ?_
    | refine Rl ?_
    | refine Zc 30 rfl ?_
    | ((first | refine Zg hn rfl rfl rfl ?_ | refine Zm rfl rfl ?_); first
      | refine ⟨_, Zw hC rfl, ?_⟩
      | refine ⟨_, Zw hSt rfl, ?_⟩
      | refine ⟨_, Zw hNM rfl, ?_⟩)
    | (refine Rj 30 rfl ?_; first | refine Zz rfl ?_ | ((first | refine Zd rfl ?_ ?_ | refine Ze rfl ?_ ?_); · first | omega | rfl | assumption | (simp only [lmT]; omega)) | ((first | refine Zf rfl ?_ ?_ | refine Za rfl ?_ ?_); · first | omega | rfl | assumption | (simp only [lmT]; omega)) | refine Ri (Zt hm rfl rfl ?_) | exact Ri (Zj hm rfl rfl rfl (nbT rfl) rfl rfl))
    | refine Z6 (tl hn rfl) ?_
    | refine Z3 rfl rfl rfl rfl (nbT rfl) ?_
    | ((first | refine Zg hn rfl rfl rfl ?_ | refine Zm rfl rfl ?_); first
      | refine ⟨_, Zx rfl rfl (by omega), ?_⟩
      | refine ⟨_, Zb rfl rfl (by omega) (by assumption), ?_⟩
      | refine ⟨_, Z4 rfl rfl (by omega), ?_⟩
      | refine ⟨_, Zv rfl rfl rfl, ?_⟩
      | refine ⟨_, Z7 rfl rfl (by omega), ?_⟩
      | refine ⟨_, Zr rfl rfl rfl rfl rfl rfl, ?_⟩)
    | ((first | refine Zi rfl rfl rfl ?_ ?_ | refine Zh rfl rfl rfl ?_ ?_ | refine Zk rfl rfl rfl ?_ ?_ | refine Zl rfl rfl rfl ?_ ?_ | refine Zo rfl rfl rfl ?_ ?_ | refine Zn rfl rfl rfl ?_ ?_ | refine Zq rfl rfl rfl ?_ ?_ | refine Zs rfl rfl rfl ?_ ?_) <;> intro h <;> try (exfalso; first | omega | contradiction | (simp only [lmT] at h; omega))))
  refine Wq 30 rfl (fun n E s => ∃ (j : Nat) (m : Mch), j + n = bs.length ∧ MGd d m ∧ E = [(3, .obj 0 0), (4, .ro (Yz bs)), (5, .obj 1 0), (6, .int (need (cdF d))), (7, .obj 2 0), (8, .int (j : Int))] ∧ s = [⟨38, 0, [.ro (X4 d)]⟩, ⟨62, 0, [.ro (Ul (cdF d).code), .ro (Xc (cdF d).entries)]⟩, ⟨74, 0, [.int m.pc, .int m.register, .ro (Xc m.stack), .ro (Xc m.sums), .int m.left, .bool m.started, .bool m.escaped, .int m.state, .int m.code, .int m.read]⟩]) bs.length [(3, .obj 0 0), (4, .ro (Yz bs)), (5, .obj 1 0), (6, .int (need (cdF d))), (7, .obj 2 0), (8, .int ((0 : Nat) : Int))] ⟨rfl, rfl, rfl, rfl, rfl, rfl, trivial⟩ ⟨0, m0, by omega, m0_good hD, rfl, rfl⟩ fun n E s ⟨j, m, hjn, hm1, hE, hs⟩ next => ?_
  subst hE; subst hs
  by_cases hlt : j < bs.length ∧ j < 40
  · obtain ⟨hlt, h40⟩ := hlt
    obtain ⟨c, hc⟩ : ∃ c, bs[(j : Int).toNat]? = some c := ⟨_, P9 hlt⟩
    have hcl := c.toNat_lt
    have hns := De hD
    have hFd := (Bm (cdF d) m (c.toNat : Int) hPB ⟨by have := hm1.1.1; omega, by have := hm1.1.2; omega⟩).shut (r := mchR (Gd (cdF d) (fitB (cdF d)) m (c.toNat : Int))) (by rintro _ rfl; exact seals_mch _)
    have e : Gd (cdF d) (fitB (cdF d)) m (c.toNat : Int) = Hz (cdF d) true m (c.toNat : Int) := by
      unfold Gd
      rw [if_pos (by unfold InR; omega), hfit]
    rw [e] at hFd
    have hg := feed_good hD hm1 (c.toNat : Int)
    generalize Hz (cdF d) true m (c.toNat : Int) = m2 at hFd hg
    have h8 := hg.no8
    have hb1 := hg.1.1
    have hb2 := hg.1.2
    have hl1 : (m2.stack.map fun z => [RV.int z]).length = m2.stack.length := lmT ..
    have hl2 : (m2.sums.map fun z => [RV.int z]).length = m2.sums.length := lmT ..
    by_cases hs2 : m2.state = 2
    · have h8' : ¬ m2.code = 8 := fun e => h8 ⟨hs2, e⟩
      repeat' (first
        | refine Y2 (id := 10) 30 [] [0, 1, 2, 3, 4, 5, 6, 7] 8 [] Ym hn rfl (by kernel_rfl) rfl .nil (by decide) (by decide) (by decide) ?_
        | refine RunsT.nil ?_
        | refine RunsT.pur (fun _ => Z0 d.length rfl hlm) (by decide) rfl rfl ?_
        | refine RunsT.pur (fun _ => Z0 bs.length rfl hbm) (by decide) rfl rfl ?_
        | refine RunsT.nil ?_
        | refine RunsT.step Zu rfl rfl (fun _ => rfl) (by decide) ?_
        | refine RunsT.pur (fun _ => Zw hFd rfl) (by decide) rfl rfl ?_
        | refine RunsT.pur (fun _ => Vf rfl) (by decide) rfl rfl ?_
        | refine RunsT.pur (fun _ => Zx rfl rfl (by omega)) (by decide) rfl rfl ?_
        | refine RunsT.pur (fun _ => Zb rfl rfl (by omega) (by assumption)) (by decide) rfl rfl ?_
        | ((first | refine Zg hn rfl rfl rfl ?_ | refine Zm rfl rfl ?_); first
          | refine ⟨_, Z0 d.length rfl hlm, ?_⟩
          | refine ⟨_, Z0 bs.length rfl hbm, ?_⟩)
        | refine Rk Zu hn rfl ?_
        | refine Rl ?_
        | refine Zc 30 rfl ?_
        | ((first | refine Zg hn rfl rfl rfl ?_ | refine Zm rfl rfl ?_); first
          | refine ⟨_, Zw hFd rfl, ?_⟩
          | refine ⟨_, Vf rfl, ?_⟩)
        | (refine Rj 30 rfl ?_; first | refine Zz rfl ?_ | ((first | refine Zd rfl ?_ ?_ | refine Ze rfl ?_ ?_); · first | omega | rfl | assumption | (simp only [lmT]; omega)) | ((first | refine Zf rfl ?_ ?_ | refine Za rfl ?_ ?_); · first | omega | rfl | assumption | (simp only [lmT]; omega)) | refine Ri (Zt hm rfl rfl ?_) | exact Ri (Zj hm rfl rfl rfl (nbT rfl) rfl rfl))
        | refine Z6 (tl hn rfl) ?_
        | refine Z3 rfl rfl rfl rfl (nbT rfl) ?_
        | ((first | refine Zg hn rfl rfl rfl ?_ | refine Zm rfl rfl ?_); first
          | refine ⟨_, Zx rfl rfl (by omega), ?_⟩
          | refine ⟨_, Zb rfl rfl (by omega) (by assumption), ?_⟩
          | refine ⟨_, Z4 rfl rfl (by omega), ?_⟩
          | refine ⟨_, Zv rfl rfl rfl, ?_⟩
          | refine ⟨_, Z7 rfl rfl (by omega), ?_⟩
          | refine ⟨_, Zr rfl rfl rfl rfl rfl rfl, ?_⟩)
        | ((first | refine Zi rfl rfl rfl ?_ ?_ | refine Zh rfl rfl rfl ?_ ?_ | refine Zk rfl rfl rfl ?_ ?_ | refine Zl rfl rfl rfl ?_ ?_ | refine Zo rfl rfl rfl ?_ ?_ | refine Zn rfl rfl rfl ?_ ?_ | refine Zq rfl rfl rfl ?_ ?_ | refine Zs rfl rfl rfl ?_ ?_) <;> intro h <;> try (exfalso; first | omega | contradiction | (simp only [lmT] at h; omega))))
      repeat' (first
        | ((first | refine Zg hn rfl rfl rfl ?_ | refine Zm rfl rfl ?_); first
          | refine ⟨_, Z0 d.length rfl hlm, ?_⟩
          | refine ⟨_, Z0 bs.length rfl hbm, ?_⟩
          | refine ⟨_, Z0 m2.stack.length rfl hl1, ?_⟩
          | refine ⟨_, Z0 m2.sums.length rfl hl2, ?_⟩)
        | refine Rk Zu hn rfl ?_
        | refine Rl ?_
        | refine Zc 30 rfl ?_
        | (refine Rj 30 rfl ?_; first | refine Zz rfl ?_ | ((first | refine Zd rfl ?_ ?_ | refine Ze rfl ?_ ?_); · first | omega | rfl | assumption | (simp only [lmT]; omega)) | ((first | refine Zf rfl ?_ ?_ | refine Za rfl ?_ ?_); · first | omega | rfl | assumption | (simp only [lmT]; omega)) | refine Ri (Zt hm rfl rfl ?_) | exact Ri (Zj hm rfl rfl rfl (nbT rfl) rfl rfl))
        | refine Z6 (tl hn rfl) ?_
        | refine Z3 rfl rfl rfl rfl (nbT rfl) ?_
        | ((first | refine Zg hn rfl rfl rfl ?_ | refine Zm rfl rfl ?_); first
          | refine ⟨_, Zx rfl rfl (by omega), ?_⟩
          | refine ⟨_, Zb rfl rfl (by omega) (by assumption), ?_⟩
          | refine ⟨_, Z4 rfl rfl (by omega), ?_⟩
          | refine ⟨_, Zv rfl rfl rfl, ?_⟩
          | refine ⟨_, Z7 rfl rfl (by omega), ?_⟩
          | refine ⟨_, Zr rfl rfl rfl rfl rfl rfl, ?_⟩)
        | ((first | refine Zi rfl rfl rfl ?_ ?_ | refine Zh rfl rfl rfl ?_ ?_ | refine Zk rfl rfl rfl ?_ ?_ | refine Zl rfl rfl rfl ?_ ?_ | refine Zo rfl rfl rfl ?_ ?_ | refine Zn rfl rfl rfl ?_ ?_ | refine Zq rfl rfl rfl ?_ ?_ | refine Zs rfl rfl rfl ?_ ?_) <;> intro h <;> try (exfalso; first | omega | contradiction | (simp only [lmT] at h; omega))))
      all_goals first
        | exact next (n - 1) _ _ _ (by omega) ⟨j + 1, m2, by omega, hg, rfl, rfl⟩ ⟨rfl, rfl, rfl, rfl, rfl, rfl, trivial⟩
        | (exfalso; omega)
    · repeat' (first
      | refine Y2 (id := 10) 30 [] [0, 1, 2, 3, 4, 5, 6, 7] 8 [] Ym hn rfl (by kernel_rfl) rfl .nil (by decide) (by decide) (by decide) ?_
      | refine RunsT.nil ?_
      | refine RunsT.pur (fun _ => Z0 d.length rfl hlm) (by decide) rfl rfl ?_
      | refine RunsT.pur (fun _ => Z0 bs.length rfl hbm) (by decide) rfl rfl ?_
      | refine RunsT.nil ?_
      | refine RunsT.step Zu rfl rfl (fun _ => rfl) (by decide) ?_
      | refine RunsT.pur (fun _ => Zw hFd rfl) (by decide) rfl rfl ?_
      | refine RunsT.pur (fun _ => Vf rfl) (by decide) rfl rfl ?_
      | refine RunsT.pur (fun _ => Zx rfl rfl (by omega)) (by decide) rfl rfl ?_
      | refine RunsT.pur (fun _ => Zb rfl rfl (by omega) (by assumption)) (by decide) rfl rfl ?_
      | ((first | refine Zg hn rfl rfl rfl ?_ | refine Zm rfl rfl ?_); first
        | refine ⟨_, Z0 d.length rfl hlm, ?_⟩
        | refine ⟨_, Z0 bs.length rfl hbm, ?_⟩)
      | refine Rk Zu hn rfl ?_
      | refine Rl ?_
      | refine Zc 30 rfl ?_
      | ((first | refine Zg hn rfl rfl rfl ?_ | refine Zm rfl rfl ?_); first
        | refine ⟨_, Zw hFd rfl, ?_⟩
        | refine ⟨_, Vf rfl, ?_⟩)
      | (refine Rj 30 rfl ?_; first | refine Zz rfl ?_ | ((first | refine Zd rfl ?_ ?_ | refine Ze rfl ?_ ?_); · first | omega | rfl | assumption | (simp only [lmT]; omega)) | ((first | refine Zf rfl ?_ ?_ | refine Za rfl ?_ ?_); · first | omega | rfl | assumption | (simp only [lmT]; omega)) | refine Ri (Zt hm rfl rfl ?_) | exact Ri (Zj hm rfl rfl rfl (nbT rfl) rfl rfl))
      | refine Z6 (tl hn rfl) ?_
      | refine Z3 rfl rfl rfl rfl (nbT rfl) ?_
      | ((first | refine Zg hn rfl rfl rfl ?_ | refine Zm rfl rfl ?_); first
        | refine ⟨_, Zx rfl rfl (by omega), ?_⟩
        | refine ⟨_, Zb rfl rfl (by omega) (by assumption), ?_⟩
        | refine ⟨_, Z4 rfl rfl (by omega), ?_⟩
        | refine ⟨_, Zv rfl rfl rfl, ?_⟩
        | refine ⟨_, Z7 rfl rfl (by omega), ?_⟩
        | refine ⟨_, Zr rfl rfl rfl rfl rfl rfl, ?_⟩)
      | ((first | refine Zi rfl rfl rfl ?_ ?_ | refine Zh rfl rfl rfl ?_ ?_ | refine Zk rfl rfl rfl ?_ ?_ | refine Zl rfl rfl rfl ?_ ?_ | refine Zo rfl rfl rfl ?_ ?_ | refine Zn rfl rfl rfl ?_ ?_ | refine Zq rfl rfl rfl ?_ ?_ | refine Zs rfl rfl rfl ?_ ?_) <;> intro h <;> try (exfalso; first | omega | contradiction | (simp only [lmT] at h; omega))))
      repeat' (first
        | ((first | refine Zg hn rfl rfl rfl ?_ | refine Zm rfl rfl ?_); first
          | refine ⟨_, Z0 d.length rfl hlm, ?_⟩
          | refine ⟨_, Z0 bs.length rfl hbm, ?_⟩
          | refine ⟨_, Z0 m2.stack.length rfl hl1, ?_⟩
          | refine ⟨_, Z0 m2.sums.length rfl hl2, ?_⟩)
        | refine Rk Zu hn rfl ?_
        | refine Rl ?_
        | refine Zc 30 rfl ?_
        | (refine Rj 30 rfl ?_; first | refine Zz rfl ?_ | ((first | refine Zd rfl ?_ ?_ | refine Ze rfl ?_ ?_); · first | omega | rfl | assumption | (simp only [lmT]; omega)) | ((first | refine Zf rfl ?_ ?_ | refine Za rfl ?_ ?_); · first | omega | rfl | assumption | (simp only [lmT]; omega)) | refine Ri (Zt hm rfl rfl ?_) | exact Ri (Zj hm rfl rfl rfl (nbT rfl) rfl rfl))
        | refine Z6 (tl hn rfl) ?_
        | refine Z3 rfl rfl rfl rfl (nbT rfl) ?_
        | ((first | refine Zg hn rfl rfl rfl ?_ | refine Zm rfl rfl ?_); first
          | refine ⟨_, Zx rfl rfl (by omega), ?_⟩
          | refine ⟨_, Zb rfl rfl (by omega) (by assumption), ?_⟩
          | refine ⟨_, Z4 rfl rfl (by omega), ?_⟩
          | refine ⟨_, Zv rfl rfl rfl, ?_⟩
          | refine ⟨_, Z7 rfl rfl (by omega), ?_⟩
          | refine ⟨_, Zr rfl rfl rfl rfl rfl rfl, ?_⟩)
        | ((first | refine Zi rfl rfl rfl ?_ ?_ | refine Zh rfl rfl rfl ?_ ?_ | refine Zk rfl rfl rfl ?_ ?_ | refine Zl rfl rfl rfl ?_ ?_ | refine Zo rfl rfl rfl ?_ ?_ | refine Zn rfl rfl rfl ?_ ?_ | refine Zq rfl rfl rfl ?_ ?_ | refine Zs rfl rfl rfl ?_ ?_) <;> intro h <;> try (exfalso; first | omega | contradiction | (simp only [lmT] at h; omega))))
      all_goals first
        | exact next (n - 1) _ _ _ (by omega) ⟨j + 1, m2, by omega, hg, rfl, rfl⟩ ⟨rfl, rfl, rfl, rfl, rfl, rfl, trivial⟩
        | (exfalso; omega)
  · by_cases hlt2 : j < bs.length
    · repeat' (first
      | ((first | refine Zg hn rfl rfl rfl ?_ | refine Zm rfl rfl ?_); first
        | refine ⟨_, Z0 d.length rfl hlm, ?_⟩
        | refine ⟨_, Z0 bs.length rfl hbm, ?_⟩)
      | refine Rk Zu hn rfl ?_
      | refine Rl ?_
      | refine Zc 30 rfl ?_
      | (refine Rj 30 rfl ?_; first | refine Zz rfl ?_ | ((first | refine Zd rfl ?_ ?_ | refine Ze rfl ?_ ?_); · first | omega | rfl | assumption | (simp only [lmT]; omega)) | ((first | refine Zf rfl ?_ ?_ | refine Za rfl ?_ ?_); · first | omega | rfl | assumption | (simp only [lmT]; omega)) | refine Ri (Zt hm rfl rfl ?_) | exact Ri (Zj hm rfl rfl rfl (nbT rfl) rfl rfl))
      | refine Z6 (tl hn rfl) ?_
      | refine Z3 rfl rfl rfl rfl (nbT rfl) ?_
      | ((first | refine Zg hn rfl rfl rfl ?_ | refine Zm rfl rfl ?_); first
        | refine ⟨_, Zx rfl rfl (by omega), ?_⟩
        | refine ⟨_, Zb rfl rfl (by omega) (by assumption), ?_⟩
        | refine ⟨_, Z4 rfl rfl (by omega), ?_⟩
        | refine ⟨_, Zv rfl rfl rfl, ?_⟩
        | refine ⟨_, Z7 rfl rfl (by omega), ?_⟩
        | refine ⟨_, Zr rfl rfl rfl rfl rfl rfl, ?_⟩)
      | ((first | refine Zi rfl rfl rfl ?_ ?_ | refine Zh rfl rfl rfl ?_ ?_ | refine Zk rfl rfl rfl ?_ ?_ | refine Zl rfl rfl rfl ?_ ?_ | refine Zo rfl rfl rfl ?_ ?_ | refine Zn rfl rfl rfl ?_ ?_ | refine Zq rfl rfl rfl ?_ ?_ | refine Zs rfl rfl rfl ?_ ?_) <;> intro h <;> try (exfalso; first | omega | contradiction | (simp only [lmT] at h; omega))))
      all_goals first
        | exact Yf rfl
        | exact Yf (decide_eq_true (by omega))
        | (exfalso; omega)
    · repeat' (first
      | ((first | refine Zg hn rfl rfl rfl ?_ | refine Zm rfl rfl ?_); first
        | refine ⟨_, Z0 d.length rfl hlm, ?_⟩
        | refine ⟨_, Z0 bs.length rfl hbm, ?_⟩)
      | refine Rk Zu hn rfl ?_
      | refine Rl ?_
      | refine Zc 30 rfl ?_
      | (refine Rj 30 rfl ?_; first | refine Zz rfl ?_ | ((first | refine Zd rfl ?_ ?_ | refine Ze rfl ?_ ?_); · first | omega | rfl | assumption | (simp only [lmT]; omega)) | ((first | refine Zf rfl ?_ ?_ | refine Za rfl ?_ ?_); · first | omega | rfl | assumption | (simp only [lmT]; omega)) | refine Ri (Zt hm rfl rfl ?_) | exact Ri (Zj hm rfl rfl rfl (nbT rfl) rfl rfl))
      | refine Z6 (tl hn rfl) ?_
      | refine Z3 rfl rfl rfl rfl (nbT rfl) ?_
      | ((first | refine Zg hn rfl rfl rfl ?_ | refine Zm rfl rfl ?_); first
        | refine ⟨_, Zx rfl rfl (by omega), ?_⟩
        | refine ⟨_, Zb rfl rfl (by omega) (by assumption), ?_⟩
        | refine ⟨_, Z4 rfl rfl (by omega), ?_⟩
        | refine ⟨_, Zv rfl rfl rfl, ?_⟩
        | refine ⟨_, Z7 rfl rfl (by omega), ?_⟩
        | refine ⟨_, Zr rfl rfl rfl rfl rfl rfl, ?_⟩)
      | ((first | refine Zi rfl rfl rfl ?_ ?_ | refine Zh rfl rfl rfl ?_ ?_ | refine Zk rfl rfl rfl ?_ ?_ | refine Zl rfl rfl rfl ?_ ?_ | refine Zo rfl rfl rfl ?_ ?_ | refine Zn rfl rfl rfl ?_ ?_ | refine Zq rfl rfl rfl ?_ ?_ | refine Zs rfl rfl rfl ?_ ?_) <;> intro h <;> try (exfalso; first | omega | contradiction | (simp only [lmT] at h; omega))))
      all_goals first
        | exact Yf rfl
        | exact Yf (decide_eq_true (by omega))
        | (exfalso; omega)
set_option maxRecDepth 100000 in
theorem lifted (os : Os) (started : os.Started) (H : Type) (enc : TypeId × Value → H) :
    ReturnsInHanded {} Try.checked os 8 .any (Rows.fnMachineBoundsSpec.pre6 enc Try.prog Try.f8 Rows.fnMachineBoundsRow.domain false) (Rows.fnMachineBoundsSpec.post enc Try.prog Try.f8 false true false false) := by
  refine returnsInHanded_of_change (C := Try.checked) own started (by kernel_rfl) Try.func8
    (ChangeSpec.witness6 (enc := enc) (C := Try.checked) false ⟨#[], #[.slice none 0 0], []⟩ 8 (by kernel_rfl) (by kernel_rfl) (by kernel_rfl) (by kernel_rfl)) ?_
  intro W base args ds gs before hval0 hW hcnd _
  have hval : ∀ (j : Nat) t v, Try.f8.params[j]? = some t → args[j]? = some v → Value.okWide Try.prog W .any base t v := hval0
  have hW' := hW
  obtain ⟨p, q, hA0, hV, rfl, hfz, hnd⟩ := hW
  have hA : DataW.TrodAll enc Try.prog W 0 (fun _ => true) true Try.f8.params.toList args.toList ds p := hA0
  rw [Try.params8] at hA hval
  obtain ⟨v0, vs0, d0, ds0, p0, q0, hargs, rfl, rfl, h0, r0⟩ := trodAll_cons hA
  obtain ⟨rfl, rfl, rfl⟩ := trodAll_nil r0
  obtain rfl : args = #[v0] := by cases args; simp_all
  obtain ⟨rfl, rfl⟩ := trodVars_none hV
  have k0 := h0
  have lt0 : ∀ x ∈ p0, x.block < W.heap.size := by obtain ⟨m, hm⟩ := k0; exact DataW.trod_lt m _ _ _ hm
  obtain ⟨r0', t0, e0⟩ := Hv plainsOk rfl Try.underlying22 (hval 0 22 v0 rfl rfl) h0
  obtain ⟨a0, q0, w0⟩ := t0.bytes Try.underlying22 Try.underlying5 (by kernel_rfl)
  injection q0 with q0; subst q0
  clear hA0 hval0
  refine (AC.law (law_ac a0 w0) W _ (cons_rels e0 nil_rels)).mono fun e W' ⟨he, bel⟩ => ?_
  subst he
  exact ⟨_, rfl, _, _, _, [], _, [], hW', trodAll_mk1 (shut_bool Try.underlying4 _), (trodAll_cons_mk (Below.trod laidOut (by kernel_rfl) (of_decide_eq_true (by kernel_rfl)) k0 bel lt0) trodAll_mk0), rfl, bel.frame _, fun h => by cases h⟩
theorem over : Rows.fnMachineBoundsRow.holds Try.pinned (OpenSpec.ofChange Rows.fnMachineBoundsSpec) :=
  OpenClaim.holds_of_wide 8 Try.f8 rfl rfl rfl rfl rfl rfl rfl ⟨rfl, rfl, rfl, rfl, rfl⟩ rfl rfl rfl rfl rfl (by kernel_rfl) Try.func8 (by kernel_rfl)
    (of_decide_eq_true (by kernel_rfl)) (by unfold Func.isWrapper; rw [if_neg (of_decide_eq_false (by kernel_rfl))]; exact ⟨rfl, rfl⟩)
    (fun os started H enc _ => lifted os started H enc)
theorem proved : Rows.FnMachineBoundsSaid := over
#print axioms proved
end Go.Proofs.Ytnecoghfhcimeaa.fnMachineBounds
