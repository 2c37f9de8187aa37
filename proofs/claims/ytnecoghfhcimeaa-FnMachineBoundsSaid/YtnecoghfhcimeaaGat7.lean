/- Gathered texts. -/
import Derived.Test.YtnecoghfhcimeaaGat0
import Derived.Test.YtnecoghfhcimeaaGat1
import Derived.Test.YtnecoghfhcimeaaGat2
import Derived.Test.YtnecoghfhcimeaaGat3
import Derived.Test.YtnecoghfhcimeaaGat4
import Derived.Test.YtnecoghfhcimeaaGat5
import Derived.Test.YtnecoghfhcimeaaGat6
/- The machine's own methods, but for those that take a byte. -/
namespace Go.Proofs.Ytnecoghfhcimeaa
set_option linter.unusedSimpArgs false
set_option linter.unusedVariables false
set_option linter.unusedSectionVars false
open Go.RowKit
open AV (Mem Wd)
set_option maxRecDepth 100000
def mO (m : Mch) : List Ob := [⟨74, 0, [.int m.pc, .int m.register, .own 1, .own 2, .int m.left, .bool m.started, .bool m.escaped, .int m.state, .int m.code, .int m.read]⟩, ⟨3, 1, (m.stack.map RV.int).map .ro⟩, ⟨3, 1, (m.sums.map RV.int).map .ro⟩]
theorem Vp (p : Nat → Prop) : ∀ rs : List RV, AV.onlys p (rs.map .ro)
  | [] => by simp [AV.onlys]
  | r :: rs => by simp only [List.map_cons, AV.onlys, AV.only]; exact ⟨trivial, Vp p rs⟩
theorem Yd (m : Mch) : FreeO 3 (mO m) := by
  simp only [mO, FreeO]
  exact ⟨by simp [AV.onlys, AV.only], Vp _ _, Vp _ _, trivial⟩
theorem Xp {m m' : Mch} {more : List Ob} (h : m = m') : mO m ++ more = mO m' ++ more := by rw [h]
theorem Runs.endP {P : Program} {C : Ctx} {fn : Func} {gs : Nat → Nat} {env : Env} {σ σ' more : List Ob} {t : Nat} (hp : look env t = .pin 0 0 (gs 0)) (hσ : σ = σ' ++ more) (hl : 0 < σ'.length) (hc : FreeO σ'.length σ') (hr : fn.results = #[]) :
    Runs P C [] (Hd P C fn gs [0] σ' (.tup [])) ⟨env, σ⟩ :=
  Ks (E' := [(t, .pin 0 0 (gs 0))]) ⟨hp, trivial⟩ hσ ⟨by simpa only [AV.only] using hl, trivial⟩ hc (Qn (Mm (fun i hi => by simp at hi; subst hi; exact ⟨t, 0, by simp [look]⟩) hr rfl))
theorem Wg {P : Program} {C : Ctx} {fn : Func} {gs : Nat → Nat} {env : Env} {σ more : List Ob} {m : Mch} {t : Nat} (hp : look env t = .pin 0 0 (gs 0)) (hσ : σ = mO m ++ more) (hr : fn.results = #[]) : Runs P C [] (Hd P C fn gs [0] (mO m) (.tup [])) ⟨env, σ⟩ :=
  Runs.endP hp hσ (by simp [mO]) (Yd m) hr
theorem Vq {P : Program} {C : Ctx} {fn : Func} {gs : Nat → Nat} {env : Env} {σ more : List Ob} {m : Mch} {k : List Item} {t : Nat} (hp : look env t = .pin 0 0 (gs 0)) (hσ : σ = mO m ++ more) (hr : fn.results = #[]) : Runs P C (.code .ret :: k) (Hd P C fn gs [0] (mO m) (.tup [])) ⟨env, σ⟩ :=
  Ks (E' := [(t, .pin 0 0 (gs 0))]) ⟨hp, trivial⟩ hσ ⟨by simp [AV.only, mO], trivial⟩ (Yd m) (Ri (Mm (fun i hi => by simp at hi; subst hi; exact ⟨t, 0, by simp [look]⟩) hr rfl))
theorem Y8 (m : Mch) (c : Int) : AM Try.prog 144 (mO m) [0] [.obj 0 0, .int c] (mO (Wh m c)) (.tup []) := by
  refine Y1 Try.func144 rfl _ Try.ntmps144 (by simp) (by simp) fun C gs hn => ?_
  repeat' (first
 | refine Rk Zu hn rfl ?_
 | refine Rl ?_
 | refine Zc 30 rfl ?_
 | (refine Zg hn rfl rfl rfl ?_; first
 | refine ⟨_, Yb rfl, ?_⟩)
 | (refine Rj 30 rfl ?_; first | ((first | refine Zd rfl ?_ ?_ | refine Ze rfl ?_ ?_); · first | omega | rfl | assumption | (simp only [lmT]; omega)) | ((first | refine Zf rfl ?_ ?_ | refine Za rfl ?_ ?_); · first | omega | rfl | assumption | (simp only [lmT]; omega)) )
 | refine Yc rfl rfl rfl rfl (nbT rfl) ?_
    )
  · refine Rj 30 rfl ?_
    first | refine Wg (t := 0) (more := []) rfl ?_ rfl | refine Vq (t := 0) (more := []) rfl ?_ rfl
    rfl
theorem Nc (m : Mch) (l : Int) : AM Try.prog 186 (mO m) [0] [.obj 0 0, .int l] (mO (Wi m l)) (.tup []) := by
  refine Y1 Try.func186 rfl _ Try.ntmps186 (by simp) (by simp) fun C gs hn => ?_
  repeat' (first
 | refine Rk Zu hn rfl ?_
 | refine Rl ?_
 | refine Zc 30 rfl ?_
 | (refine Zg hn rfl rfl rfl ?_; first
 | refine ⟨_, Yb rfl, ?_⟩
 | refine ⟨_, X0 rfl rfl, ?_⟩)
 | (refine Rj 30 rfl ?_; first | ((first | refine Zd rfl ?_ ?_ | refine Ze rfl ?_ ?_); · first | omega | rfl | assumption | (simp only [lmT]; omega)) | ((first | refine Zf rfl ?_ ?_ | refine Za rfl ?_ ?_); · first | omega | rfl | assumption | (simp only [lmT]; omega)) | refine Z9 rfl (fun h => ?_) (fun h => ?_) )
 | refine Yc rfl rfl rfl rfl (nbT rfl) ?_
    )
  · refine Rj 30 rfl ?_
    first | refine Wg (t := 0) (more := []) rfl ?_ rfl | refine Vq (t := 0) (more := []) rfl ?_ rfl
    unfold Wi; rw [if_pos (by assumption)]; rfl
  · refine Rj 30 rfl ?_
    first | refine Wg (t := 0) (more := []) rfl ?_ rfl | refine Vq (t := 0) (more := []) rfl ?_ rfl
    unfold Wi; rw [if_neg (by assumption)]; rfl
theorem push_am (m : Mch) (a b : Int)(hm : Jc m) : AM Try.prog 187 (mO m) [0] [.obj 0 0, .int a, .int b] (mO (Jt m a b)) (.tup []) := by
  refine Y1 Try.func187 rfl _ Try.ntmps187 (by simp) (by simp) fun C gs hn => ?_
  have hl : ((m.stack.map RV.int).map AV.ro).length = m.stack.length * 1 := by simp
  have h1 := hm.1
  repeat' (first
 | refine Yg 3 (Y8 m 8) rfl (by simp [AV.onlys, AV.only]) (by simp [AV.only, AV.onlys]) rfl rfl rfl (Yd _) (Yd _) rfl (by first | exact trivial | exact ⟨rfl, trivial⟩ | exact ⟨rfl, rfl, trivial⟩ | exact ⟨rfl, rfl, rfl, trivial⟩ | exact ⟨rfl, rfl, rfl, rfl, trivial⟩) (fun t h => by injection h with h; subst h; exact tl hn rfl) ?_
 | refine RunsL.junk 0 2 rfl (Yr (n := m.stack.length) (i := 1) rfl rfl rfl rfl rfl rfl (by simp) (FreeI.at_ (i := 1) ⟨by simp [AV.onlys, AV.only], Vp _ _, Vp _ _, trivial⟩) (by simp; omega) (by simp; omega) (tl hn rfl) ?_)
 | refine Rk Zu hn rfl ?_
 | refine Rl ?_
 | refine Zc 30 rfl ?_
 | (refine Zg hn rfl rfl rfl ?_; first
 | refine ⟨_, Yb rfl, ?_⟩
 | refine ⟨_, Yp (n := m.stack.length) rfl rfl hl, ?_⟩
      )
 | (refine Rj 30 rfl ?_; first | ((first | refine Zd rfl ?_ ?_ | refine Ze rfl ?_ ?_); · first | omega | rfl | assumption | (simp only [lmT]; omega)) | ((first | refine Zf rfl ?_ ?_ | refine Za rfl ?_ ?_); · first | omega | rfl | assumption | (simp only [lmT]; omega)) | refine Z9 rfl (fun h => ?_) (fun h => ?_) )
 | refine Yc rfl rfl rfl rfl (nbT rfl) ?_
 | (refine Zg hn rfl rfl rfl ?_; first
 | refine ⟨_, Zr rfl rfl rfl rfl rfl rfl, ?_⟩))
  · refine Rj 30 rfl ?_
    first | refine Wg (t := 0) (more := []) rfl ?_ rfl | refine Vq (t := 0) (more := []) rfl ?_ rfl
    exact Xp (by unfold Jt; rw [if_pos (by omega)])
  · refine Rj 30 rfl ?_
    first | refine Wg (t := 0) (more := []) rfl ?_ rfl | refine Vq (t := 0) (more := []) rfl ?_ rfl
    skip
    rw [show Jt m a b = { m with stack := m.stack ++ [a], pc := b } from by unfold Jt; rw [if_neg (by omega)]]
    unfold mO
    rw [List.map_append (f := RV.int)]
    rfl
theorem top_no (m : Mch) (h0 : m.stack.length = 0) : AM Try.prog 196 (mO m) [0] [.obj 0 0] (mO (Wh m 8)) (.tup [.ro (.c (.pointer none)), .bool false]) := by
  refine Y1 Try.func196 rfl _ Try.ntmps196 (by simp) (by simp) fun C gs hn => ?_
  have hl : ((m.stack.map RV.int).map AV.ro).length = m.stack.length * 1 := by simp
  repeat' (first
 | refine Yg 3 (Y8 m 8) rfl (by simp [AV.onlys, AV.only]) (by simp [AV.only, AV.onlys]) rfl rfl rfl (Yd _) (Yd _) rfl (by first | exact trivial | exact ⟨rfl, trivial⟩ | exact ⟨rfl, rfl, trivial⟩ | exact ⟨rfl, rfl, rfl, trivial⟩ | exact ⟨rfl, rfl, rfl, rfl, trivial⟩) (fun t h => by injection h with h; subst h; exact tl hn rfl) ?_
 | refine Rk Zu hn rfl ?_
 | refine Rl ?_
 | refine Zc 30 rfl ?_
 | ((first | refine Zg hn rfl rfl rfl ?_ | refine Zm rfl rfl ?_); first
 | refine ⟨_, Yb rfl, ?_⟩
 | refine ⟨_, Yp (n := m.stack.length) rfl rfl hl, ?_⟩)
 | (refine Rj 30 rfl ?_; first | ((first | refine Zd rfl ?_ ?_ | refine Ze rfl ?_ ?_); · first | omega | rfl | assumption | (simp only [lmT]; omega)) | ((first | refine Zf rfl ?_ ?_ | refine Za rfl ?_ ?_); · first | omega | rfl | assumption | (simp only [lmT]; omega)) | refine Ri (Zt hm rfl rfl ?_) | exact Ri (Zj hm rfl rfl rfl (nbT rfl) rfl rfl))
 | ((first | refine Zg hn rfl rfl rfl ?_ | refine Zm rfl rfl ?_); first
 | refine ⟨_, Zx rfl rfl (by omega), ?_⟩
 | refine ⟨_, Zb rfl rfl (by omega) (by assumption), ?_⟩
 | refine ⟨_, Z4 rfl rfl (by omega), ?_⟩
 | refine ⟨_, Zv rfl rfl rfl, ?_⟩
 | refine ⟨_, Z7 rfl rfl (by omega), ?_⟩
 | refine ⟨_, Zr rfl rfl rfl rfl rfl rfl, ?_⟩))
  refine Rj 30 rfl ?_
  exact Ri (endsA2 (fun i hi => by simp at hi; subst hi; exact ⟨0, 0, rfl⟩) rfl rfl rfl (List.append_nil _))
theorem mTop_at {m : Mch} (h : m.stack.length ≠ 0) : m.stack[m.stack.length - 1]? = some (I6 m) := by
  obtain ⟨z, hz⟩ : ∃ z, m.stack[m.stack.length - 1]? = some z := ⟨_, P9 (by omega)⟩
  unfold I6
  rw [hz]
  rfl
theorem top_yes (m : Mch) (h0 : m.stack.length ≠ 0) (hb : m.stack.length ≤ 1048576) : AM Try.prog 196 (mO m) [0] [.obj 0 0] (mO m) (.tup [.obj 1 (m.stack.length - 1), .bool true]) := by
  refine Y1 Try.func196 rfl _ Try.ntmps196 (by simp) (by simp) fun C gs hn => ?_
  have hl : ((m.stack.map RV.int).map AV.ro).length = m.stack.length * 1 := by simp
  repeat' (first
 | refine Rk Zu hn rfl ?_
 | refine Rl ?_
 | refine Zc 30 rfl ?_
 | ((first | refine Zg hn rfl rfl rfl ?_ | refine Zm rfl rfl ?_); first
 | refine ⟨_, Yb rfl, ?_⟩
 | refine ⟨_, Yp (n := m.stack.length) rfl rfl hl, ?_⟩
 | refine ⟨_, Yl (n := m.stack.length) (sz := 1) rfl rfl rfl rfl hl (by omega) (by omega), ?_⟩
 | refine ⟨_, Z4 rfl rfl (by omega), ?_⟩)
 | (refine Rj 30 rfl ?_; first | ((first | refine Zd rfl ?_ ?_ | refine Ze rfl ?_ ?_); · first | omega | rfl | assumption | (simp only [lmT]; omega)) | ((first | refine Zf rfl ?_ ?_ | refine Za rfl ?_ ?_); · first | omega | rfl | assumption | (simp only [lmT]; omega)) | refine Ri (Zt hm rfl rfl ?_) | exact Ri (Zj hm rfl rfl rfl (nbT rfl) rfl rfl))
 | refine Rm Zu hn rfl rfl ?_
 | refine Rn ?_
 | refine Z2 30 Ym hn rfl (by kernel_rfl) rfl ?_
 | ((first | refine Zg hn rfl rfl rfl ?_ | refine Zm rfl rfl ?_); first
 | refine ⟨_, Zx rfl rfl (by omega), ?_⟩
 | refine ⟨_, Zb rfl rfl (by omega) (by assumption), ?_⟩
 | refine ⟨_, Z4 rfl rfl (by omega), ?_⟩
 | refine ⟨_, Zv rfl rfl rfl, ?_⟩
 | refine ⟨_, Z7 rfl rfl (by omega), ?_⟩
 | refine ⟨_, Zr rfl rfl rfl rfl rfl rfl, ?_⟩))
  refine Rj 30 rfl ?_
  refine Ri (endsA2 (fun i hi => by simp at hi; subst hi; exact ⟨0, 0, rfl⟩) rfl ?_ rfl rfl)
  show AV.obj 1 (m.stack.length - 1) = AV.obj 1 (((m.stack.length : Int) - 1).toNat * 1)
  rw [show ((m.stack.length : Int) - 1).toNat * 1 = m.stack.length - 1 by omega]
theorem loop_am (m : Mch) (i : Ins)(hm : Jc m) : AM Try.prog 188 (mO m) [0] [.obj 0 0, .ro (.agg (Vr i))] (mO (L8 m i.a)) (.tup []) := by
  refine Y1 Try.func188 rfl _ Try.ntmps188 (by simp) (by simp) fun C gs hn => ?_
  have hl : ((m.stack.map RV.int).map AV.ro).length = m.stack.length * 1 := by simp
  have hb := hm.1
  by_cases h0 : m.stack.length = 0
  · have hT := top_no m h0
    repeat' (first
 | refine Yg (d := some 8) 3 (hT) rfl (by simp [AV.onlys, AV.only]) (by simp [AV.only, AV.onlys]) rfl rfl rfl (Yd _) (Yd _) rfl (by first | exact trivial | exact ⟨rfl, trivial⟩ | exact ⟨rfl, rfl, trivial⟩ | exact ⟨rfl, rfl, rfl, trivial⟩ | exact ⟨rfl, rfl, rfl, rfl, trivial⟩) (fun t h => by injection h with h; subst h; exact tl hn rfl) ?_
 | refine Rk Zu hn rfl ?_
 | refine Rl ?_
 | refine Zc 30 rfl ?_
 | ((first | refine Zg hn rfl rfl rfl ?_ | refine Zm rfl rfl ?_); first
 | refine ⟨_, Yb rfl, ?_⟩)
 | (refine Rj 30 rfl ?_; first | refine Zp rfl ?_ | refine Zz rfl ?_ | ((first | refine Zd rfl ?_ ?_ | refine Ze rfl ?_ ?_); · first | omega | rfl | assumption | (simp only [lmT]; omega)) | ((first | refine Zf rfl ?_ ?_ | refine Za rfl ?_ ?_); · first | omega | rfl | assumption | (simp only [lmT]; omega)) | refine Z9 rfl (fun h => ?_) (fun h => ?_) )
 | refine Z1 rfl (tl hn rfl) ?_
 | refine Yc rfl rfl rfl rfl (nbT rfl) ?_
 | ((first | refine Zg hn rfl rfl rfl ?_ | refine Zm rfl rfl ?_); first
 | refine ⟨_, Zx rfl rfl (by omega), ?_⟩
 | refine ⟨_, Zb rfl rfl (by omega) (by assumption), ?_⟩
 | refine ⟨_, Z4 rfl rfl (by omega), ?_⟩
 | refine ⟨_, Zv rfl rfl rfl, ?_⟩
 | refine ⟨_, Z7 rfl rfl (by omega), ?_⟩
 | refine ⟨_, Zr rfl rfl rfl rfl rfl rfl, ?_⟩))
    refine Rj 30 rfl ?_
    refine Wg (t := 0) (more := [⟨59, 0, (Vr i).map .ro⟩]) rfl ?_ rfl
    exact Xp (by unfold L8; rw [if_pos h0])
  · have hT := top_yes m h0 hb
    have hz := mTop_at h0
    have hz' : ((m.stack.map RV.int).map AV.ro)[m.stack.length - 1]? = some (.ro (.int (I6 m))) := by simp [hz]
    repeat' (first
 | refine Yg (d := some 8) 3 (hT) rfl (by simp [AV.onlys, AV.only]) (by simp [AV.only, AV.onlys]) rfl rfl rfl (Yd _) (Yd _) rfl (by first | exact trivial | exact ⟨rfl, trivial⟩ | exact ⟨rfl, rfl, trivial⟩ | exact ⟨rfl, rfl, rfl, trivial⟩ | exact ⟨rfl, rfl, rfl, rfl, trivial⟩) (fun t h => by injection h with h; subst h; exact tl hn rfl) ?_
 | refine Y2 (id := 6) 30 [0] [1, 2, 3, 4, 5, 6, 7, 8, 9, 10] 11 [] Ym hn rfl (by kernel_rfl) rfl (.cons rfl .nil) (by decide) (by decide) (by decide) ?_
 | refine RunsL.junk 0 2 rfl (I2 (i := 1) (n := m.stack.length) (q := (m.stack.length : Int) - 1) rfl rfl rfl rfl hl (by omega) (by omega) (by omega) (by repeat' (first | exact trivial | exact Vp _ _ | exact (by decide : (2 : Nat) ≠ 1) | refine And.intro ?_ ?_)) (fun j v hj => W3 (Vp _ _) j v hj) (tl hn rfl) ?_)
 | refine Yc rfl rfl rfl rfl (by simp; omega) ?_
 | refine RunsT.nil ?_
 | refine RunsT.step Zu rfl rfl (fun _ => rfl) (by decide) ?_
 | refine RunsT.pur (fun _ => Yb rfl) (by decide) rfl rfl ?_
 | refine RunsT.pur (fun _ => Wf rfl) (by decide) rfl rfl ?_
 | refine RunsT.pur (fun _ => Yo rfl rfl hz') (by decide) rfl rfl ?_
 | refine RunsT.pur (fun _ => Yp (n := m.stack.length) rfl rfl hl) (by decide) rfl rfl ?_
 | refine RunsT.pur (fun _ => Z4 rfl rfl (by omega)) (by decide) rfl rfl ?_
 | refine RunsT.pur (fun _ => Ho rfl rfl) (by decide) rfl rfl ?_
 | refine RunsT.pur (fun _ => X0 rfl rfl) (by decide) rfl rfl ?_
 | refine Rk Zu hn rfl ?_
 | refine Rl ?_
 | refine Zc 30 rfl ?_
 | ((first | refine Zg hn rfl rfl rfl ?_ | refine Zm rfl rfl ?_); first
 | refine ⟨_, Yb rfl, ?_⟩
 | refine ⟨_, Wf rfl, ?_⟩
 | refine ⟨_, Yo rfl rfl hz', ?_⟩
 | refine ⟨_, Yp (n := m.stack.length) rfl rfl hl, ?_⟩
 | refine ⟨_, Z4 rfl rfl (by omega), ?_⟩
 | refine ⟨_, Ho rfl rfl, ?_⟩
 | refine ⟨_, X0 rfl rfl, ?_⟩)
 | (refine Rj 30 rfl ?_; first | refine Zp rfl ?_ | refine Zz rfl ?_ | ((first | refine Zd rfl ?_ ?_ | refine Ze rfl ?_ ?_); · first | omega | rfl | assumption | (simp only [lmT]; omega)) | ((first | refine Zf rfl ?_ ?_ | refine Za rfl ?_ ?_); · first | omega | rfl | assumption | (simp only [lmT]; omega)) | refine Z9 rfl (fun h => ?_) (fun h => ?_) )
 | refine Z1 rfl (tl hn rfl) ?_
 | refine Yc rfl rfl rfl rfl (nbT rfl) ?_
 | ((first | refine Zg hn rfl rfl rfl ?_ | refine Zm rfl rfl ?_); first
 | refine ⟨_, Zx rfl rfl (by omega), ?_⟩
 | refine ⟨_, Zb rfl rfl (by omega) (by assumption), ?_⟩
 | refine ⟨_, Z4 rfl rfl (by omega), ?_⟩
 | refine ⟨_, Zv rfl rfl rfl, ?_⟩
 | refine ⟨_, Z7 rfl rfl (by omega), ?_⟩
 | refine ⟨_, Zr rfl rfl rfl rfl rfl rfl, ?_⟩))
    · refine Rj 30 rfl ?_
      refine Wg (t := 0) (more := [⟨59, 0, (Vr i).map .ro⟩]) rfl ?_ rfl
      have e1 : ((m.stack.map RV.int).map AV.ro).take (((m.stack.length : Int) - 1).toNat * 1) = ((m.stack.take (m.stack.length - 1)).map RV.int).map AV.ro := by
        rw [show ((m.stack.length : Int) - 1).toNat * 1 = m.stack.length - 1 by omega, List.map_take, List.map_take]
      rw [show L8 m i.a = { Ju m with pc := i.a } from by unfold L8; rw [if_neg h0, if_pos (by assumption)]]
      unfold mO Ju
      simp only []
      rw [← e1]
      rfl
    · refine Rj 30 rfl ?_
      refine Wg (t := 0) (more := [⟨59, 0, (Vr i).map .ro⟩]) rfl ?_ rfl
      rw [show L8 m i.a = { m with stack := m.stack.set (m.stack.length - 1) (w64 (I6 m - 1)), pc := w64 (m.pc + 1) } from by unfold L8; rw [if_neg h0, if_neg (by assumption)]]
      unfold mO
      simp only []
      rw [List.map_set, List.map_set]
      rfl
theorem back_am (m : Mch) (hm : Jc m) : AM Try.prog 189 (mO m) [0] [.obj 0 0] (mO (Tc m)) (.tup []) := by
  refine Y1 Try.func189 rfl _ Try.ntmps189 (by simp) (by simp) fun C gs hn => ?_
  have hl : ((m.stack.map RV.int).map AV.ro).length = m.stack.length * 1 := by simp
  have hb := hm.1
  by_cases h0 : m.stack.length = 0
  · have hT := top_no m h0
    repeat' (first
 | refine Yg (d := some 6) 3 (hT) rfl (by simp [AV.onlys, AV.only]) (by simp [AV.only, AV.onlys]) rfl rfl rfl (Yd _) (Yd _) rfl (by first | exact trivial | exact ⟨rfl, trivial⟩ | exact ⟨rfl, rfl, trivial⟩ | exact ⟨rfl, rfl, rfl, trivial⟩ | exact ⟨rfl, rfl, rfl, rfl, trivial⟩) (fun t h => by injection h with h; subst h; exact tl hn rfl) ?_
 | refine Rk Zu hn rfl ?_
 | refine Rl ?_
 | refine Zc 30 rfl ?_
 | ((first | refine Zg hn rfl rfl rfl ?_ | refine Zm rfl rfl ?_); first
 | refine ⟨_, Yb rfl, ?_⟩)
 | (refine Rj 30 rfl ?_; first | refine Zp rfl ?_ | refine Zz rfl ?_ | ((first | refine Zd rfl ?_ ?_ | refine Ze rfl ?_ ?_); · first | omega | rfl | assumption | (simp only [lmT]; omega)) | ((first | refine Zf rfl ?_ ?_ | refine Za rfl ?_ ?_); · first | omega | rfl | assumption | (simp only [lmT]; omega)) )
 | refine Yc rfl rfl rfl rfl (nbT rfl) ?_
 | ((first | refine Zg hn rfl rfl rfl ?_ | refine Zm rfl rfl ?_); first
 | refine ⟨_, Zx rfl rfl (by omega), ?_⟩
 | refine ⟨_, Zb rfl rfl (by omega) (by assumption), ?_⟩
 | refine ⟨_, Z4 rfl rfl (by omega), ?_⟩
 | refine ⟨_, Zv rfl rfl rfl, ?_⟩
 | refine ⟨_, Z7 rfl rfl (by omega), ?_⟩
 | refine ⟨_, Zr rfl rfl rfl rfl rfl rfl, ?_⟩))
    refine Rj 30 rfl ?_
    refine Wg (t := 0) (more := []) rfl ?_ rfl
    exact Xp (by unfold Tc; rw [if_pos h0])
  · have hT := top_yes m h0 hb
    have hz := mTop_at h0
    have hz' : ((m.stack.map RV.int).map AV.ro)[m.stack.length - 1]? = some (.ro (.int (I6 m))) := by simp [hz]
    repeat' (first
 | refine Yg (d := some 6) 3 (hT) rfl (by simp [AV.onlys, AV.only]) (by simp [AV.only, AV.onlys]) rfl rfl rfl (Yd _) (Yd _) rfl (by first | exact trivial | exact ⟨rfl, trivial⟩ | exact ⟨rfl, rfl, trivial⟩ | exact ⟨rfl, rfl, rfl, trivial⟩ | exact ⟨rfl, rfl, rfl, rfl, trivial⟩) (fun t h => by injection h with h; subst h; exact tl hn rfl) ?_
 | refine Y2 (id := 3) 30 [0] [1, 2, 3, 4, 5, 6, 7, 8, 9, 10] 11 [] Ym hn rfl (by kernel_rfl) rfl (.cons rfl .nil) (by decide) (by decide) (by decide) ?_
 | refine RunsL.junk 0 2 rfl (I2 (i := 1) (n := m.stack.length) (q := (m.stack.length : Int) - 1) rfl rfl rfl rfl hl (by omega) (by omega) (by omega) (by repeat' (first | exact trivial | exact Vp _ _ | exact (by decide : (2 : Nat) ≠ 1) | refine And.intro ?_ ?_)) (fun j v hj => W3 (Vp _ _) j v hj) (tl hn rfl) ?_)
 | refine RunsT.nil ?_
 | refine RunsT.step Zu rfl rfl (fun _ => rfl) (by decide) ?_
 | refine RunsT.pur (fun _ => Yb rfl) (by decide) rfl rfl ?_
 | refine RunsT.pur (fun _ => Wf rfl) (by decide) rfl rfl ?_
 | refine RunsT.pur (fun _ => Yo rfl rfl hz') (by decide) rfl rfl ?_
 | refine RunsT.pur (fun _ => Yp (n := m.stack.length) rfl rfl hl) (by decide) rfl rfl ?_
 | refine RunsT.pur (fun _ => Z4 rfl rfl (by omega)) (by decide) rfl rfl ?_
 | refine Rk Zu hn rfl ?_
 | refine Rl ?_
 | refine Zc 30 rfl ?_
 | ((first | refine Zg hn rfl rfl rfl ?_ | refine Zm rfl rfl ?_); first
 | refine ⟨_, Yb rfl, ?_⟩
 | refine ⟨_, Wf rfl, ?_⟩
 | refine ⟨_, Yo rfl rfl hz', ?_⟩
 | refine ⟨_, Yp (n := m.stack.length) rfl rfl hl, ?_⟩
 | refine ⟨_, Z4 rfl rfl (by omega), ?_⟩)
 | (refine Rj 30 rfl ?_; first | refine Zp rfl ?_ | refine Zz rfl ?_ | ((first | refine Zd rfl ?_ ?_ | refine Ze rfl ?_ ?_); · first | omega | rfl | assumption | (simp only [lmT]; omega)) | ((first | refine Zf rfl ?_ ?_ | refine Za rfl ?_ ?_); · first | omega | rfl | assumption | (simp only [lmT]; omega)) )
 | refine Yc rfl rfl rfl rfl (nbT rfl) ?_
 | ((first | refine Zg hn rfl rfl rfl ?_ | refine Zm rfl rfl ?_); first
 | refine ⟨_, Zx rfl rfl (by omega), ?_⟩
 | refine ⟨_, Zb rfl rfl (by omega) (by assumption), ?_⟩
 | refine ⟨_, Z4 rfl rfl (by omega), ?_⟩
 | refine ⟨_, Zv rfl rfl rfl, ?_⟩
 | refine ⟨_, Z7 rfl rfl (by omega), ?_⟩
 | refine ⟨_, Zr rfl rfl rfl rfl rfl rfl, ?_⟩))
    refine Rj 30 rfl ?_
    refine Wg (t := 0) (more := []) rfl ?_ rfl
    have e1 : ((m.stack.map RV.int).map AV.ro).take (((m.stack.length : Int) - 1).toNat * 1) = ((m.stack.take (m.stack.length - 1)).map RV.int).map AV.ro := by
      rw [show ((m.stack.length : Int) - 1).toNat * 1 = m.stack.length - 1 by omega, List.map_take, List.map_take]
    rw [show Tc m = { Ju m with pc := I6 m } from by unfold Tc; rw [if_neg h0]]
    unfold mO Ju
    simp only []
    rw [← e1]
    rfl
set_option maxRecDepth 100000
set_option maxHeartbeats 8000000 in
theorem Pc (m : Mch) (i : Ins)(hm : Jc m) : AM Try.prog 168 (mO m) [0] [.obj 0 0, .ro (.agg (Vr i))] (mO (Xb m i)) (.tup []) := by
  refine Y1 Try.func168 rfl _ Try.ntmps168 (by simp) (by simp) fun C gs hn => ?_
  have hl : ((m.sums.map RV.int).map AV.ro).length = m.sums.length * 1 := by simp
  have hb := hm.2
  have e14 : i.op = 14 → Xb m i = (if 30 ≤ m.sums.length then Wh m 8 else { L7 m with sums := m.sums ++ [0] }) := fun h => by simp [Xb, h]
  have e15 : i.op = 15 → Xb m i = (if m.sums.length = 0 then Wh m 8 else Wi m 1) := fun h => by simp [Xb, h]
  repeat' (first
 | refine Y2 (id := 18) 30 [] [0, 1, 2, 3, 4, 5, 6, 7, 8, 9] 10 [] Ym hn rfl (by kernel_rfl) rfl .nil (by decide) (by decide) (by decide) ?_
 | refine Y2 (id := 24) 30 [] [0, 1, 2, 3, 4, 5, 6, 7] 8 [] Ym hn rfl (by kernel_rfl) rfl .nil (by decide) (by decide) (by decide) ?_
 | refine Yg (d := some 14) 3 (Nc { m with register := 0 } i.a) rfl (by simp [AV.onlys, AV.only]) (by simp [AV.only, AV.onlys]) rfl rfl rfl (Yd _) (Yd _) rfl (by first | exact trivial | exact ⟨rfl, trivial⟩ | exact ⟨rfl, rfl, trivial⟩ | exact ⟨rfl, rfl, rfl, trivial⟩ | exact ⟨rfl, rfl, rfl, rfl, trivial⟩) (fun t h => by injection h with h; subst h; exact tl hn rfl) ?_
 | refine Yg (d := some 20) 3 (Nc m i.a) rfl (by simp [AV.onlys, AV.only]) (by simp [AV.only, AV.onlys]) rfl rfl rfl (Yd _) (Yd _) rfl (by first | exact trivial | exact ⟨rfl, trivial⟩ | exact ⟨rfl, rfl, trivial⟩ | exact ⟨rfl, rfl, rfl, trivial⟩ | exact ⟨rfl, rfl, rfl, rfl, trivial⟩) (fun t h => by injection h with h; subst h; exact tl hn rfl) ?_
 | refine Yg (d := some 28) 3 (Nc m m.register) rfl (by simp [AV.onlys, AV.only]) (by simp [AV.only, AV.onlys]) rfl rfl rfl (Yd _) (Yd _) rfl (by first | exact trivial | exact ⟨rfl, trivial⟩ | exact ⟨rfl, rfl, trivial⟩ | exact ⟨rfl, rfl, rfl, trivial⟩ | exact ⟨rfl, rfl, rfl, rfl, trivial⟩) (fun t h => by injection h with h; subst h; exact tl hn rfl) ?_
 | refine Yg 3 (Nc m 1) rfl (by simp [AV.onlys, AV.only]) (by simp [AV.only, AV.onlys]) rfl rfl rfl (Yd _) (Yd _) rfl (by first | exact trivial | exact ⟨rfl, trivial⟩ | exact ⟨rfl, rfl, trivial⟩ | exact ⟨rfl, rfl, rfl, trivial⟩ | exact ⟨rfl, rfl, rfl, rfl, trivial⟩) (fun t h => by injection h with h; subst h; exact tl hn rfl) ?_
 | refine Yg 3 (Y8 m _) rfl (by simp [AV.onlys, AV.only]) (by simp [AV.only, AV.onlys]) rfl rfl rfl (Yd _) (Yd _) rfl (by first | exact trivial | exact ⟨rfl, trivial⟩ | exact ⟨rfl, rfl, trivial⟩ | exact ⟨rfl, rfl, rfl, trivial⟩ | exact ⟨rfl, rfl, rfl, rfl, trivial⟩) (fun t h => by injection h with h; subst h; exact tl hn rfl) ?_
 | refine Yg 3 (push_am m _ _ hm) rfl (by simp [AV.onlys, AV.only]) (by simp [AV.only, AV.onlys]) rfl rfl rfl (Yd _) (Yd _) rfl (by first | exact trivial | exact ⟨rfl, trivial⟩ | exact ⟨rfl, rfl, trivial⟩ | exact ⟨rfl, rfl, rfl, trivial⟩ | exact ⟨rfl, rfl, rfl, rfl, trivial⟩) (fun t h => by injection h with h; subst h; exact tl hn rfl) ?_
 | refine Yg 3 (loop_am m i hm) rfl (by simp [AV.onlys, AV.only]) (by simp [AV.only, AV.onlys]) rfl rfl rfl (Yd _) (Yd _) rfl (by first | exact trivial | exact ⟨rfl, trivial⟩ | exact ⟨rfl, rfl, trivial⟩ | exact ⟨rfl, rfl, rfl, trivial⟩ | exact ⟨rfl, rfl, rfl, rfl, trivial⟩) (fun t h => by injection h with h; subst h; exact tl hn rfl) ?_
 | refine Yg 3 (back_am m hm) rfl (by simp [AV.onlys, AV.only]) (by simp [AV.only, AV.onlys]) rfl rfl rfl (Yd _) (Yd _) rfl (by first | exact trivial | exact ⟨rfl, trivial⟩ | exact ⟨rfl, rfl, trivial⟩ | exact ⟨rfl, rfl, rfl, trivial⟩ | exact ⟨rfl, rfl, rfl, rfl, trivial⟩) (fun t h => by injection h with h; subst h; exact tl hn rfl) ?_
 | refine RunsL.junk 0 3 rfl (Yr (n := m.sums.length) (i := 2) rfl rfl rfl rfl rfl rfl (by simp) (FreeI.at_ (i := 2) (by repeat' (first | exact trivial | exact Vp _ _ | exact (by decide : (1 : Nat) ≠ 2) | refine And.intro ?_ ?_))) (by simp; omega) (by simp; omega) (tl hn rfl) ?_)
 | refine RunsT.nil ?_
 | refine RunsT.step Zu rfl rfl (fun _ => rfl) (by decide) ?_
 | refine RunsT.pur (fun _ => Yb rfl) (by decide) rfl rfl ?_
 | refine RunsT.pur (fun _ => Yp (n := m.sums.length) rfl rfl hl) (by decide) rfl rfl ?_
 | refine RunsT.pur (fun _ => X0 rfl rfl) (by decide) rfl rfl ?_
 | refine Rk Zu hn rfl ?_
 | refine Rl ?_
 | refine Zc 30 rfl ?_
 | ((first | refine Zg hn rfl rfl rfl ?_ | refine Zm rfl rfl ?_); first
 | refine ⟨_, Yb rfl, ?_⟩
 | refine ⟨_, Yp (n := m.sums.length) rfl rfl hl, ?_⟩
 | refine ⟨_, X0 rfl rfl, ?_⟩
 | refine ⟨_, Yj rfl, ?_⟩)
 | (refine Rj 30 rfl ?_; first | refine Zp rfl ?_ | ((first | refine Zd rfl ?_ ?_ | refine Ze rfl ?_ ?_); · first | omega | rfl | assumption | (simp only [lmT]; omega)) | ((first | refine Zf rfl ?_ ?_ | refine Za rfl ?_ ?_); · first | omega | rfl | assumption | (simp only [lmT]; omega)) | refine Z9 rfl (fun h => ?_) (fun h => ?_) )
 | refine Z1 rfl (tl hn rfl) ?_
 | refine Yc rfl rfl rfl rfl (nbT rfl) ?_
 | refine Rm Zu hn rfl rfl ?_
 | refine Rn ?_
 | refine Z2 30 Ym hn rfl (by kernel_rfl) rfl ?_
 | ((first | refine Zg hn rfl rfl rfl ?_ | refine Zm rfl rfl ?_); first
 | refine ⟨_, Zx rfl rfl (by omega), ?_⟩
 | refine ⟨_, Zb rfl rfl (by omega) (by assumption), ?_⟩
 | refine ⟨_, Z4 rfl rfl (by omega), ?_⟩
 | refine ⟨_, Zv rfl rfl rfl, ?_⟩
 | refine ⟨_, Z7 rfl rfl (by omega), ?_⟩
 | refine ⟨_, Zr rfl rfl rfl rfl rfl rfl, ?_⟩))
  all_goals refine Rj 30 rfl ?_
  all_goals first
    | refine Wg (t := 0) (more := [⟨59, 0, (Vr i).map .ro⟩]) rfl ?_ rfl
    | refine Vq (t := 0) (more := [⟨59, 0, (Vr i).map .ro⟩]) rfl ?_ rfl
  all_goals first
    | (refine Xp ?_; simp [Xb, *]; done)
    | (refine (show _ = mO (L7 m) ++ _ from rfl).trans (Xp ?_); simp [Xb, *]; done)
    | (refine (show _ = mO { m with pc := i.a } ++ _ from rfl).trans (Xp ?_); simp [Xb, *]; done)
    | (refine (show _ = mO { m with pc := i.b } ++ _ from rfl).trans (Xp ?_); simp [Xb, *]; done)
    | (refine (show _ = mO { m with state := 1 } ++ _ from rfl).trans (Xp ?_); simp [Xb, *]; done)
    | (refine (show _ = mO m ++ _ from rfl).trans (Xp ?_); simp [Xb, *]; done)
    | (refine Xp ?_; rw [e14 (by assumption), if_pos (by omega)])
    | (refine Xp ?_; rw [e15 (by assumption), if_pos (by omega)])
    | (refine Xp ?_; rw [e15 (by assumption), if_neg (by omega)])
    | (rw [e14 (by assumption), if_neg (by omega)]; unfold mO L7; simp only []; rw [List.map_append (f := RV.int)]; rfl)
set_option maxRecDepth 100000
theorem Gs (m : Mch) (nx : Int) : AM Try.prog 190 (mO m) [0] [.obj 0 0, .int nx] (mO { m with started := false, pc := nx }) (.tup []) := by
  refine Y1 Try.func190 rfl _ Try.ntmps190 (by simp) (by simp) fun C gs hn => ?_
  repeat' (first
 | refine Rk Zu hn rfl ?_
 | refine Rl ?_
 | refine Zc 30 rfl ?_
 | (refine Zg hn rfl rfl rfl ?_; first
 | refine ⟨_, Yb rfl, ?_⟩)
 | (refine Rj 30 rfl ?_; first | ((first | refine Zd rfl ?_ ?_ | refine Ze rfl ?_ ?_); · first | omega | rfl | assumption | (simp only [lmT]; omega)) | ((first | refine Zf rfl ?_ ?_ | refine Za rfl ?_ ?_); · first | omega | rfl | assumption | (simp only [lmT]; omega)) )
 | refine Yc rfl rfl rfl rfl (nbT rfl) ?_
    )
  refine Rj 30 rfl ?_
  refine Wg (t := 0) (more := []) rfl ?_ rfl
  rfl
set_option maxHeartbeats 8000000 in
theorem Pz (p : Prg) (f : Bool) (m : Mch) (hm : Jc m) (hc : p.code.length ≤ 4194304) : AM Try.prog 143 (mO m) [0] [.obj 0 0, .ro (E8 p), .bool f] (mO (Mj p f m)) (.tup []) := by
  refine Y1 Try.func143 rfl _ Try.ntmps143 (by simp) (by simp) fun C gs hn => ?_
  have hlc : (p.code.map Vr).length = p.code.length := lmT ..
  by_cases hs : m.state = 0
  · by_cases hf : f = false ∨ (m.started = true ∧ ¬ Idx p m.pc)
    · repeat' (first
 | refine Yg 3 (Y8 m 8) rfl (by simp [AV.onlys, AV.only]) (by simp [AV.only, AV.onlys]) rfl rfl rfl (Yd _) (Yd _) rfl (by first | exact trivial | exact ⟨rfl, trivial⟩ | exact ⟨rfl, rfl, trivial⟩ | exact ⟨rfl, rfl, rfl, trivial⟩ | exact ⟨rfl, rfl, rfl, rfl, trivial⟩) (fun t h => by injection h with h; subst h; exact tl hn rfl) ?_
 | refine Rk Zu hn rfl ?_
 | refine Rl ?_
 | refine Zc 30 rfl ?_
 | ((first | refine Zg hn rfl rfl rfl ?_ | refine Zm rfl rfl ?_); first
 | refine ⟨_, Yb rfl, ?_⟩
 | refine ⟨_, Zw (X8 p _) rfl, ?_⟩)
 | (refine Rj 30 rfl ?_; first | refine Zp rfl ?_ | refine Zz rfl ?_ | ((first | refine Zd rfl ?_ ?_ | refine Ze rfl ?_ ?_); · first | omega | rfl | assumption | (simp only [lmT]; omega)) | ((first | refine Zf rfl ?_ ?_ | refine Za rfl ?_ ?_); · first | omega | rfl | assumption | (simp only [lmT]; omega)) | refine Ye rfl (fun h => ?_) (fun h => ?_) | refine Wn rfl (fun h => ?_) (fun h => ?_) )
 | refine Z1 rfl (tl hn rfl) ?_
 | refine Rm Zu hn rfl rfl ?_
 | refine Rn ?_
 | refine Z2 30 Ym hn rfl (by kernel_rfl) rfl ?_
 | ((first | refine Zg hn rfl rfl rfl ?_ | refine Zm rfl rfl ?_); first
 | refine ⟨_, Zx rfl rfl (by omega), ?_⟩
 | refine ⟨_, Zb rfl rfl (by omega) (by assumption), ?_⟩
 | refine ⟨_, Z4 rfl rfl (by omega), ?_⟩
 | refine ⟨_, Zv rfl rfl rfl, ?_⟩
 | refine ⟨_, Z7 rfl rfl (by omega), ?_⟩
 | refine ⟨_, Zr rfl rfl rfl rfl rfl rfl, ?_⟩)
 | ((first | refine Zi rfl rfl rfl ?_ ?_ | refine Zh rfl rfl rfl ?_ ?_ | refine Zk rfl rfl rfl ?_ ?_ | refine Zl rfl rfl rfl ?_ ?_ | refine Zo rfl rfl rfl ?_ ?_ | refine Zn rfl rfl rfl ?_ ?_ | refine Zq rfl rfl rfl ?_ ?_ | refine Zs rfl rfl rfl ?_ ?_) <;> intro h <;> try (exfalso; first | omega | contradiction | (simp only [lmT] at h; omega))))
      all_goals first
        | (exfalso; simp_all; done)
        | (refine Rj 30 rfl ?_
           refine Vq (t := 0) (more := [⟨62, 0, [.ro (Ul p.code), .ro (Xc p.entries)]⟩]) rfl ?_ rfl
           exact Xp (by unfold Mj; rw [if_neg (by simp [hs]), if_pos hf]))
    · obtain ⟨N, hN, hA⟩ : ∃ N : Nat, N = 100001 ∧ Mj p f m = K5 p N m := ⟨_, rfl, by unfold Mj; rw [if_neg (by simp [hs]), if_neg hf]⟩
      rw [hA]
      clear hA
      repeat' (first
 | refine Yg 3 (Y8 m 8) rfl (by simp [AV.onlys, AV.only]) (by simp [AV.only, AV.onlys]) rfl rfl rfl (Yd _) (Yd _) rfl (by first | exact trivial | exact ⟨rfl, trivial⟩ | exact ⟨rfl, rfl, trivial⟩ | exact ⟨rfl, rfl, rfl, trivial⟩ | exact ⟨rfl, rfl, rfl, rfl, trivial⟩) (fun t h => by injection h with h; subst h; exact tl hn rfl) ?_
 | refine Rk Zu hn rfl ?_
 | refine Rl ?_
 | refine Zc 30 rfl ?_
 | ((first | refine Zg hn rfl rfl rfl ?_ | refine Zm rfl rfl ?_); first
 | refine ⟨_, Yb rfl, ?_⟩
 | refine ⟨_, Zw (X8 p _) rfl, ?_⟩)
 | (refine Rj 30 rfl ?_; first | refine Zp rfl ?_ | refine Zz rfl ?_ | ((first | refine Zd rfl ?_ ?_ | refine Ze rfl ?_ ?_); · first | omega | rfl | assumption | (simp only [lmT]; omega)) | ((first | refine Zf rfl ?_ ?_ | refine Za rfl ?_ ?_); · first | omega | rfl | assumption | (simp only [lmT]; omega)) | refine Ye rfl (fun h => ?_) (fun h => ?_) | refine Wn rfl (fun h => ?_) (fun h => ?_) )
 | refine Z1 rfl (tl hn rfl) ?_
 | refine Rm Zu hn rfl rfl ?_
 | refine Rn ?_
 | refine Z2 30 Ym hn rfl (by kernel_rfl) rfl ?_
 | ((first | refine Zg hn rfl rfl rfl ?_ | refine Zm rfl rfl ?_); first
 | refine ⟨_, Zx rfl rfl (by omega), ?_⟩
 | refine ⟨_, Zb rfl rfl (by omega) (by assumption), ?_⟩
 | refine ⟨_, Z4 rfl rfl (by omega), ?_⟩
 | refine ⟨_, Zv rfl rfl rfl, ?_⟩
 | refine ⟨_, Z7 rfl rfl (by omega), ?_⟩
 | refine ⟨_, Zr rfl rfl rfl rfl rfl rfl, ?_⟩)
 | ((first | refine Zi rfl rfl rfl ?_ ?_ | refine Zh rfl rfl rfl ?_ ?_ | refine Zk rfl rfl rfl ?_ ?_ | refine Zl rfl rfl rfl ?_ ?_ | refine Zo rfl rfl rfl ?_ ?_ | refine Zn rfl rfl rfl ?_ ?_ | refine Zq rfl rfl rfl ?_ ?_ | refine Zs rfl rfl rfl ?_ ?_) <;> intro h <;> try (exfalso; first | omega | contradiction | (simp only [lmT] at h; omega))))
      all_goals first
        | (exfalso; simp_all; done)
        | skip
      all_goals
        refine Yw 30 rfl (fun j => [(0, .pin 0 0 (gs 0)), (4, .obj 3 0), (6, .int (j : Int))]) (fun j => mO (mIt p m j) ++ [⟨62, 0, [.ro (Ul p.code), .ro (Xc p.entries)]⟩]) (fun j => K5 p N m = K5 p (N - j) (mIt p m j)) N 0 (Nat.zero_le _) (by rw [Nat.sub_zero]; rfl) ⟨rfl, rfl, rfl, trivial⟩ rfl fun j hj hQ next => ?_
        have hL := mIt_len (p := p) hm j
        have hstep := @mRes_it p m N j
        have hstop := mRes_stop hQ
        have hout := mRes_out hQ
        have hnx : mIt p m (j + 1) = Xb (mIt p m j) (mAt p (mIt p m j)) := rfl
        generalize hq : mIt p m j = q at hQ hL hstep hstop hout hnx ⊢
        clear hq
        by_cases hr : Oy q
        · obtain ⟨hr1, hr2⟩ := id hr
          by_cases hi : Idx p q.pc
          · obtain ⟨x, hx⟩ : ∃ x, p.code[q.pc.toNat]? = some x := ⟨_, P9 (by unfold Idx at hi; omega)⟩
            have hxa : mAt p q = x := by unfold mAt; rw [hx]; rfl
            have hi' := hi
            unfold Idx at hi'
            by_cases hlt : j < N
            · repeat' (first
 | refine Y2 (id := 9) 30 [] [0, 1, 2, 3, 4, 5, 6, 7, 8] 9 [] Ym hn rfl (by kernel_rfl) rfl .nil (by decide) (by decide) (by decide) ?_
 | refine Yg 3 (Y8 q 8) rfl (by simp [AV.onlys, AV.only]) (by simp [AV.only, AV.onlys]) rfl rfl rfl (Yd _) (Yd _) rfl (by first | exact trivial | exact ⟨rfl, trivial⟩ | exact ⟨rfl, rfl, trivial⟩ | exact ⟨rfl, rfl, rfl, trivial⟩ | exact ⟨rfl, rfl, rfl, rfl, trivial⟩) (fun t h => by injection h with h; subst h; exact tl hn rfl) ?_
 | refine Yg 3 (Pc q x hL) rfl (by simp [AV.onlys, AV.only]) (by simp [AV.only, AV.onlys]) rfl rfl rfl (Yd _) (Yd _) rfl (by first | exact trivial | exact ⟨rfl, trivial⟩ | exact ⟨rfl, rfl, trivial⟩ | exact ⟨rfl, rfl, rfl, trivial⟩ | exact ⟨rfl, rfl, rfl, rfl, trivial⟩) (fun t h => by injection h with h; subst h; exact tl hn rfl) ?_
 | refine RunsT.nil ?_
 | refine RunsT.step Zu rfl rfl (fun _ => rfl) (by decide) ?_
 | refine RunsT.pur (fun _ => Yb rfl) (by decide) rfl rfl ?_
 | refine RunsT.pur (fun _ => Zw (X8 p _) rfl) (by decide) rfl rfl ?_
 | refine RunsT.pur (fun _ => Zx rfl rfl (by omega)) (by decide) rfl rfl ?_
 | refine RunsT.pur (fun _ => Zb rfl rfl (by omega) (by assumption)) (by decide) rfl rfl ?_
 | refine Rk Zu hn rfl ?_
 | refine Rl ?_
 | refine Zc 30 rfl ?_
 | ((first | refine Zg hn rfl rfl rfl ?_ | refine Zm rfl rfl ?_); first
 | refine ⟨_, Yb rfl, ?_⟩
 | refine ⟨_, Zw (X8 p _) rfl, ?_⟩)
 | (refine Rj 30 rfl ?_; first | refine Zp rfl ?_ | refine Zz rfl ?_ | ((first | refine Zd rfl ?_ ?_ | refine Ze rfl ?_ ?_); · first | omega | rfl | assumption | (simp only [lmT]; omega)) | ((first | refine Zf rfl ?_ ?_ | refine Za rfl ?_ ?_); · first | omega | rfl | assumption | (simp only [lmT]; omega)) | refine Ye rfl (fun h => ?_) (fun h => ?_) | refine Wn rfl (fun h => ?_) (fun h => ?_) )
 | refine Z1 rfl (tl hn rfl) ?_
 | refine Rm Zu hn rfl rfl ?_
 | refine Rn ?_
 | refine Z2 30 Ym hn rfl (by kernel_rfl) rfl ?_
 | ((first | refine Zg hn rfl rfl rfl ?_ | refine Zm rfl rfl ?_); first
 | refine ⟨_, Zx rfl rfl (by omega), ?_⟩
 | refine ⟨_, Zb rfl rfl (by omega) (by assumption), ?_⟩
 | refine ⟨_, Z4 rfl rfl (by omega), ?_⟩
 | refine ⟨_, Zv rfl rfl rfl, ?_⟩
 | refine ⟨_, Z7 rfl rfl (by omega), ?_⟩
 | refine ⟨_, Zr rfl rfl rfl rfl rfl rfl, ?_⟩)
 | ((first | refine Zi rfl rfl rfl ?_ ?_ | refine Zh rfl rfl rfl ?_ ?_ | refine Zk rfl rfl rfl ?_ ?_ | refine Zl rfl rfl rfl ?_ ?_ | refine Zo rfl rfl rfl ?_ ?_ | refine Zn rfl rfl rfl ?_ ?_ | refine Zq rfl rfl rfl ?_ ?_ | refine Zs rfl rfl rfl ?_ ?_) <;> intro h <;> try (exfalso; first | omega | contradiction | (simp only [lmT] at h; omega))))
              all_goals first
                | (exfalso; first | omega | simp_all; done)
                | (refine next _ _ ⟨rfl, rfl, rfl, trivial⟩ hlt (hstep hlt hQ hr hi) ?_
                   rw [hnx, hxa]
                   rfl)
            · repeat' (first
 | refine Yg 3 (Y8 q 8) rfl (by simp [AV.onlys, AV.only]) (by simp [AV.only, AV.onlys]) rfl rfl rfl (Yd _) (Yd _) rfl (by first | exact trivial | exact ⟨rfl, trivial⟩ | exact ⟨rfl, rfl, trivial⟩ | exact ⟨rfl, rfl, rfl, trivial⟩ | exact ⟨rfl, rfl, rfl, rfl, trivial⟩) (fun t h => by injection h with h; subst h; exact tl hn rfl) ?_
 | refine Rk Zu hn rfl ?_
 | refine Rl ?_
 | refine Zc 30 rfl ?_
 | ((first | refine Zg hn rfl rfl rfl ?_ | refine Zm rfl rfl ?_); first
 | refine ⟨_, Yb rfl, ?_⟩
 | refine ⟨_, Zw (X8 p _) rfl, ?_⟩)
 | (refine Rj 30 rfl ?_; first | refine Zp rfl ?_ | refine Zz rfl ?_ | ((first | refine Zd rfl ?_ ?_ | refine Ze rfl ?_ ?_); · first | omega | rfl | assumption | (simp only [lmT]; omega)) | ((first | refine Zf rfl ?_ ?_ | refine Za rfl ?_ ?_); · first | omega | rfl | assumption | (simp only [lmT]; omega)) | refine Ye rfl (fun h => ?_) (fun h => ?_) | refine Wn rfl (fun h => ?_) (fun h => ?_) )
 | refine Z1 rfl (tl hn rfl) ?_
 | refine Rm Zu hn rfl rfl ?_
 | refine Rn ?_
 | refine Z2 30 Ym hn rfl (by kernel_rfl) rfl ?_
 | ((first | refine Zg hn rfl rfl rfl ?_ | refine Zm rfl rfl ?_); first
 | refine ⟨_, Zx rfl rfl (by omega), ?_⟩
 | refine ⟨_, Zb rfl rfl (by omega) (by assumption), ?_⟩
 | refine ⟨_, Z4 rfl rfl (by omega), ?_⟩
 | refine ⟨_, Zv rfl rfl rfl, ?_⟩
 | refine ⟨_, Z7 rfl rfl (by omega), ?_⟩
 | refine ⟨_, Zr rfl rfl rfl rfl rfl rfl, ?_⟩)
 | ((first | refine Zi rfl rfl rfl ?_ ?_ | refine Zh rfl rfl rfl ?_ ?_ | refine Zk rfl rfl rfl ?_ ?_ | refine Zl rfl rfl rfl ?_ ?_ | refine Zo rfl rfl rfl ?_ ?_ | refine Zn rfl rfl rfl ?_ ?_ | refine Zq rfl rfl rfl ?_ ?_ | refine Zs rfl rfl rfl ?_ ?_) <;> intro h <;> try (exfalso; first | omega | contradiction | (simp only [lmT] at h; omega))))
              all_goals first
                | (exfalso; first | omega | simp_all; done)
                | (refine Rj 30 rfl ?_
                   refine Vq (t := 0) (more := [⟨62, 0, [.ro (Ul p.code), .ro (Xc p.entries)]⟩]) rfl ?_ rfl
                   exact Xp (hout hr (.inr (by omega))).symm)
          · repeat' (first
 | refine Yg 3 (Y8 q 8) rfl (by simp [AV.onlys, AV.only]) (by simp [AV.only, AV.onlys]) rfl rfl rfl (Yd _) (Yd _) rfl (by first | exact trivial | exact ⟨rfl, trivial⟩ | exact ⟨rfl, rfl, trivial⟩ | exact ⟨rfl, rfl, rfl, trivial⟩ | exact ⟨rfl, rfl, rfl, rfl, trivial⟩) (fun t h => by injection h with h; subst h; exact tl hn rfl) ?_
 | refine Rk Zu hn rfl ?_
 | refine Rl ?_
 | refine Zc 30 rfl ?_
 | ((first | refine Zg hn rfl rfl rfl ?_ | refine Zm rfl rfl ?_); first
 | refine ⟨_, Yb rfl, ?_⟩
 | refine ⟨_, Zw (X8 p _) rfl, ?_⟩)
 | (refine Rj 30 rfl ?_; first | refine Zp rfl ?_ | refine Zz rfl ?_ | ((first | refine Zd rfl ?_ ?_ | refine Ze rfl ?_ ?_); · first | omega | rfl | assumption | (simp only [lmT]; omega)) | ((first | refine Zf rfl ?_ ?_ | refine Za rfl ?_ ?_); · first | omega | rfl | assumption | (simp only [lmT]; omega)) | refine Ye rfl (fun h => ?_) (fun h => ?_) | refine Wn rfl (fun h => ?_) (fun h => ?_) )
 | refine Z1 rfl (tl hn rfl) ?_
 | refine Rm Zu hn rfl rfl ?_
 | refine Rn ?_
 | refine Z2 30 Ym hn rfl (by kernel_rfl) rfl ?_
 | ((first | refine Zg hn rfl rfl rfl ?_ | refine Zm rfl rfl ?_); first
 | refine ⟨_, Zx rfl rfl (by omega), ?_⟩
 | refine ⟨_, Zb rfl rfl (by omega) (by assumption), ?_⟩
 | refine ⟨_, Z4 rfl rfl (by omega), ?_⟩
 | refine ⟨_, Zv rfl rfl rfl, ?_⟩
 | refine ⟨_, Z7 rfl rfl (by omega), ?_⟩
 | refine ⟨_, Zr rfl rfl rfl rfl rfl rfl, ?_⟩)
 | ((first | refine Zi rfl rfl rfl ?_ ?_ | refine Zh rfl rfl rfl ?_ ?_ | refine Zk rfl rfl rfl ?_ ?_ | refine Zl rfl rfl rfl ?_ ?_ | refine Zo rfl rfl rfl ?_ ?_ | refine Zn rfl rfl rfl ?_ ?_ | refine Zq rfl rfl rfl ?_ ?_ | refine Zs rfl rfl rfl ?_ ?_) <;> intro h <;> try (exfalso; first | omega | contradiction | (simp only [lmT] at h; omega))))
            all_goals first
              | (exfalso; first | omega | simp_all; done)
              | (refine Rj 30 rfl ?_
                 refine Vq (t := 0) (more := [⟨62, 0, [.ro (Ul p.code), .ro (Xc p.entries)]⟩]) rfl ?_ rfl
                 exact Xp (hout hr (.inl hi)).symm)
        · have hst := hstop hr
          clear hstep hstop hout hQ hnx
          repeat' (first
 | refine Yg 3 (Y8 q 8) rfl (by simp [AV.onlys, AV.only]) (by simp [AV.only, AV.onlys]) rfl rfl rfl (Yd _) (Yd _) rfl (by first | exact trivial | exact ⟨rfl, trivial⟩ | exact ⟨rfl, rfl, trivial⟩ | exact ⟨rfl, rfl, rfl, trivial⟩ | exact ⟨rfl, rfl, rfl, rfl, trivial⟩) (fun t h => by injection h with h; subst h; exact tl hn rfl) ?_
 | refine Rk Zu hn rfl ?_
 | refine Rl ?_
 | refine Zc 30 rfl ?_
 | ((first | refine Zg hn rfl rfl rfl ?_ | refine Zm rfl rfl ?_); first
 | refine ⟨_, Yb rfl, ?_⟩
 | refine ⟨_, Zw (X8 p _) rfl, ?_⟩)
 | (refine Rj 30 rfl ?_; first | refine Zp rfl ?_ | refine Zz rfl ?_ | ((first | refine Zd rfl ?_ ?_ | refine Ze rfl ?_ ?_); · first | omega | rfl | assumption | (simp only [lmT]; omega)) | ((first | refine Zf rfl ?_ ?_ | refine Za rfl ?_ ?_); · first | omega | rfl | assumption | (simp only [lmT]; omega)) | refine Ye rfl (fun h => ?_) (fun h => ?_) | refine Wn rfl (fun h => ?_) (fun h => ?_) )
 | refine Z1 rfl (tl hn rfl) ?_
 | refine Rm Zu hn rfl rfl ?_
 | refine Rn ?_
 | refine Z2 30 Ym hn rfl (by kernel_rfl) rfl ?_
 | ((first | refine Zg hn rfl rfl rfl ?_ | refine Zm rfl rfl ?_); first
 | refine ⟨_, Zx rfl rfl (by omega), ?_⟩
 | refine ⟨_, Zb rfl rfl (by omega) (by assumption), ?_⟩
 | refine ⟨_, Z4 rfl rfl (by omega), ?_⟩
 | refine ⟨_, Zv rfl rfl rfl, ?_⟩
 | refine ⟨_, Z7 rfl rfl (by omega), ?_⟩
 | refine ⟨_, Zr rfl rfl rfl rfl rfl rfl, ?_⟩)
 | ((first | refine Zi rfl rfl rfl ?_ ?_ | refine Zh rfl rfl rfl ?_ ?_ | refine Zk rfl rfl rfl ?_ ?_ | refine Zl rfl rfl rfl ?_ ?_ | refine Zo rfl rfl rfl ?_ ?_ | refine Zn rfl rfl rfl ?_ ?_ | refine Zq rfl rfl rfl ?_ ?_ | refine Zs rfl rfl rfl ?_ ?_) <;> intro h <;> try (exfalso; first | omega | contradiction | (simp only [lmT] at h; omega))))
          all_goals first
            | exact absurd ⟨by assumption, by assumption⟩ hr
            | (refine Rj 30 rfl ?_
               refine Wg (t := 0) (more := [⟨62, 0, [.ro (Ul p.code), .ro (Xc p.entries)]⟩]) rfl ?_ rfl
               exact Xp hst.symm)
  · repeat' (first
 | refine Rk Zu hn rfl ?_
 | refine Rl ?_
 | refine Zc 30 rfl ?_
 | ((first | refine Zg hn rfl rfl rfl ?_ | refine Zm rfl rfl ?_); first
 | refine ⟨_, Yb rfl, ?_⟩)
 | (refine Rj 30 rfl ?_; first | refine Zp rfl ?_ | refine Zz rfl ?_ | ((first | refine Zd rfl ?_ ?_ | refine Ze rfl ?_ ?_); · first | omega | rfl | assumption | (simp only [lmT]; omega)) | ((first | refine Zf rfl ?_ ?_ | refine Za rfl ?_ ?_); · first | omega | rfl | assumption | (simp only [lmT]; omega)) | refine Ye rfl (fun h => ?_) (fun h => ?_) | refine Wn rfl (fun h => ?_) (fun h => ?_) )
 | refine Z1 rfl (tl hn rfl) ?_
 | refine Rm Zu hn rfl rfl ?_
 | refine Rn ?_
 | refine Z2 30 Ym hn rfl (by kernel_rfl) rfl ?_
 | ((first | refine Zg hn rfl rfl rfl ?_ | refine Zm rfl rfl ?_); first
 | refine ⟨_, Zx rfl rfl (by omega), ?_⟩
 | refine ⟨_, Zb rfl rfl (by omega) (by assumption), ?_⟩
 | refine ⟨_, Z4 rfl rfl (by omega), ?_⟩
 | refine ⟨_, Zv rfl rfl rfl, ?_⟩
 | refine ⟨_, Z7 rfl rfl (by omega), ?_⟩
 | refine ⟨_, Zr rfl rfl rfl rfl rfl rfl, ?_⟩)
 | ((first | refine Zi rfl rfl rfl ?_ ?_ | refine Zh rfl rfl rfl ?_ ?_ | refine Zk rfl rfl rfl ?_ ?_ | refine Zl rfl rfl rfl ?_ ?_ | refine Zo rfl rfl rfl ?_ ?_ | refine Zn rfl rfl rfl ?_ ?_ | refine Zq rfl rfl rfl ?_ ?_ | refine Zs rfl rfl rfl ?_ ?_) <;> intro h <;> try (exfalso; first | omega | contradiction | (simp only [lmT] at h; omega))))
    refine Rj 30 rfl ?_
    refine Vq (t := 0) (more := [⟨62, 0, [.ro (Ul p.code), .ro (Xc p.entries)]⟩]) rfl ?_ rfl
    exact Xp (by unfold Mj; rw [if_pos hs])
set_option maxRecDepth 100000
section
variable {P : Program} {C : Ctx} {env : Env} {σ : List Ob} {t : Nat} {ty : TypeId} {pos : String} {after : Array Edge} {gd : Option (Nat × Bool)}
theorem Az {xt yt : TypeId} {x y : Operand} {p : Int} (hx : ev env x = .int p) (hy : ev env y = .int 256) : Pur P C ⟨some t, .binOp .rem xt x y yt, ty, pos, after, gd⟩ env σ (.int (p.tmod 256)) :=
  Xt hx hy (fun w => by
    have h1 := Int.tmod_lt_of_pos p (show (0 : Int) < 256 by omega)
    have h2 := Int.lt_tmod_of_pos p (show (0 : Int) < 256 by omega)
    have h4 : IntKind.i64.wrap (p.tmod 256) = p.tmod 256 := by simp [IntKind.wrap, IntKind.bits, IntKind.signed]; omega
    simp [go_sem, Op.intDiv, h4])
theorem pu_shl8 {xt yt : TypeId} {x y : Operand} {b s : Int} (hx : ev env x = .int b) (hy : ev env y = .ro (.c (.int .i64 (8 * s)))) (h : 0 ≤ s ∧ s ≤ 3) (hb : 0 ≤ b ∧ b ≤ 255) : Pur P C ⟨some t, .binOp .shl xt x y yt, ty, pos, after, gd⟩ env σ (.int (b * 2 ^ (8 * s).toNat)) := by
  have hs : s = 0 ∨ s = 1 ∨ s = 2 ∨ s = 3 := by omega
  rcases hs with rfl | rfl | rfl | rfl
  all_goals exact Xt hx hy (fun w => by simp [go_sem, IntKind.wrap, IntKind.bits, IntKind.signed, Int.shiftLeft_eq]; omega)
end
set_option maxHeartbeats 4000000 in
theorem Ve (m : Mch)  : AM Try.prog 177 (mO m) [0] [.obj 0 0] (mO (Uh m)) (.tup []) := by
  refine Y1 Try.func177 rfl _ Try.ntmps177 (by simp) (by simp) fun C gs hn => ?_
  repeat' (first
 | refine Yg 3 (Gs m _) rfl (by simp [AV.onlys, AV.only]) (by simp [AV.only, AV.onlys]) rfl rfl rfl (Yd _) (Yd _) rfl (by first | exact trivial | exact ⟨rfl, trivial⟩ | exact ⟨rfl, rfl, trivial⟩ | exact ⟨rfl, rfl, rfl, trivial⟩ | exact ⟨rfl, rfl, rfl, rfl, trivial⟩) (fun t h => by injection h with h; subst h; exact tl hn rfl) ?_
 | refine Rk Zu hn rfl ?_
 | refine Rl ?_
 | refine Zc 30 rfl ?_
 | (refine Zg hn rfl rfl rfl ?_; first
 | refine ⟨_, Yb rfl, ?_⟩
 | refine ⟨_, X0 rfl rfl, ?_⟩)
 | (refine Rj 30 rfl ?_; first | ((first | refine Zd rfl ?_ ?_ | refine Ze rfl ?_ ?_); · first | omega | rfl | assumption | (simp only [lmT]; omega)) | ((first | refine Zf rfl ?_ ?_ | refine Za rfl ?_ ?_); · first | omega | rfl | assumption | (simp only [lmT]; omega)) | refine Z9 rfl (fun h => ?_) (fun h => ?_) )
    )
  · refine Rj 30 rfl ?_
    refine Wg (t := 0) (more := []) rfl ?_ rfl
    exact Xp (by unfold Uh; rw [if_pos (by assumption)])
  · refine Rj 30 rfl ?_
    refine Wg (t := 0) (more := []) rfl ?_ rfl
    rw [show Uh m = m from by unfold Uh; rw [if_neg (by assumption)]]
    rfl
set_option maxHeartbeats 4000000 in
theorem Hm (m : Mch) (i : Ins) (b : Int) : AM Try.prog 173 (mO m) [0] [.obj 0 0, .ro (.agg (Vr i)), .int b] (mO (if 1 < b then Wh m 4 else if m.left ≠ 0 then m else { m with started := false, pc := if b = 0 then i.a else w64 (m.pc + 1) })) (.tup []) := by
  refine Y1 Try.func173 rfl _ Try.ntmps173 (by simp) (by simp) fun C gs hn => ?_
  repeat' (first
 | refine Yg 3 (Y8 m 4) rfl (by simp [AV.onlys, AV.only]) (by simp [AV.only, AV.onlys]) rfl rfl rfl (Yd _) (Yd _) rfl (by first | exact trivial | exact ⟨rfl, trivial⟩ | exact ⟨rfl, rfl, trivial⟩ | exact ⟨rfl, rfl, rfl, trivial⟩ | exact ⟨rfl, rfl, rfl, rfl, trivial⟩) (fun t h => by injection h with h; subst h; exact tl hn rfl) ?_
 | refine Yg 3 (Gs m _) rfl (by simp [AV.onlys, AV.only]) (by simp [AV.only, AV.onlys]) rfl rfl rfl (Yd _) (Yd _) rfl (by first | exact trivial | exact ⟨rfl, trivial⟩ | exact ⟨rfl, rfl, trivial⟩ | exact ⟨rfl, rfl, rfl, trivial⟩ | exact ⟨rfl, rfl, rfl, rfl, trivial⟩) (fun t h => by injection h with h; subst h; exact tl hn rfl) ?_
 | refine Rk Zu hn rfl ?_
 | refine Rl ?_
 | refine Zc 30 rfl ?_
 | (refine Zg hn rfl rfl rfl ?_; first
 | refine ⟨_, Yb rfl, ?_⟩
 | refine ⟨_, X0 rfl rfl, ?_⟩)
 | (refine Rj 30 rfl ?_; first | ((first | refine Zd rfl ?_ ?_ | refine Ze rfl ?_ ?_); · first | omega | rfl | assumption | (simp only [lmT]; omega)) | ((first | refine Zf rfl ?_ ?_ | refine Za rfl ?_ ?_); · first | omega | rfl | assumption | (simp only [lmT]; omega)) | refine Z9 rfl (fun h => ?_) (fun h => ?_) | refine Ye rfl (fun h => ?_) (fun h => ?_) )
 | refine Z1 rfl (tl hn rfl) ?_
    )
  all_goals refine Rj 30 rfl ?_
  all_goals first
    | refine Wg (t := 0) (more := [⟨59, 0, (Vr i).map .ro⟩]) rfl ?_ rfl
    | refine Vq (t := 0) (more := [⟨59, 0, (Vr i).map .ro⟩]) rfl ?_ rfl
  all_goals first
    | (refine Xp ?_; simp [*]; done)
    | (refine (show _ = mO m ++ _ from rfl).trans (Xp ?_); simp [*]; done)
set_option maxHeartbeats 4000000 in
theorem Ay (m : Mch) (i : Ins) (b : Int) : AM Try.prog 175 (mO m) [0] [.obj 0 0, .ro (.agg (Vr i)), .int b] (mO (if m.escaped = false ∧ b = i.a then Uh m else { m with escaped := !m.escaped && decide (b = 92), left := 1 })) (.tup []) := by
  refine Y1 Try.func175 rfl _ Try.ntmps175 (by simp) (by simp) fun C gs hn => ?_
  repeat' (first
 | refine Yg 3 (Ve m) rfl (by simp [AV.onlys, AV.only]) (by simp [AV.only, AV.onlys]) rfl rfl rfl (Yd _) (Yd _) rfl (by first | exact trivial | exact ⟨rfl, trivial⟩ | exact ⟨rfl, rfl, trivial⟩ | exact ⟨rfl, rfl, rfl, trivial⟩ | exact ⟨rfl, rfl, rfl, rfl, trivial⟩) (fun t h => by injection h with h; subst h; exact tl hn rfl) ?_
 | refine Rk Zu hn rfl ?_
 | refine Rl ?_
 | refine Zc 30 rfl ?_
 | (refine Zg hn rfl rfl rfl ?_; first
 | refine ⟨_, Yb rfl, ?_⟩)
 | (refine Rj 30 rfl ?_; first | refine Zz rfl ?_ | ((first | refine Zd rfl ?_ ?_ | refine Ze rfl ?_ ?_); · first | omega | rfl | assumption | (simp only [lmT]; omega)) | ((first | refine Zf rfl ?_ ?_ | refine Za rfl ?_ ?_); · first | omega | rfl | assumption | (simp only [lmT]; omega)) | refine Z9 rfl (fun h => ?_) (fun h => ?_) )
 | refine Z1 rfl (tl hn rfl) ?_
 | refine Yc rfl rfl rfl rfl (nbT rfl) ?_
 | ((first | refine Zi rfl rfl rfl ?_ ?_ | refine Zh rfl rfl rfl ?_ ?_ | refine Zk rfl rfl rfl ?_ ?_ | refine Zl rfl rfl rfl ?_ ?_) <;> intro h <;> try (exfalso; first | omega | contradiction | (simp only [lmT] at h; omega))))
  all_goals refine Rj 30 rfl ?_
  all_goals first
    | refine Wg (t := 0) (more := [⟨59, 0, (Vr i).map .ro⟩]) rfl ?_ rfl
    | refine Vq (t := 0) (more := [⟨59, 0, (Vr i).map .ro⟩]) rfl ?_ rfl
  all_goals first
    | (refine Xp ?_; simp [*]; done)
    | (exfalso; simp_all; done)
    | (refine (show _ = mO { m with escaped := decide (b = 92), left := 1 } ++ _ from rfl).trans (Xp ?_); simp [*]; done)
    | (refine (show _ = mO { m with escaped := false, left := 1 } ++ _ from rfl).trans (Xp ?_); simp [*]; done)
set_option maxHeartbeats 4000000 in
theorem Ee (m : Mch) (i : Ins) (b : Int) (hs : i.b = 1 → 0 ≤ i.a - m.left - 1 ∧ i.a - m.left - 1 ≤ 3 ∧ 0 ≤ i.a ∧ i.a ≤ 4) (hb : 0 ≤ b ∧ b ≤ 255) : AM Try.prog 171 (mO m) [0] [.obj 0 0, .ro (.agg (Vr i)), .int b] (mO (Uh { m with register := if i.b = 1 then w64 (m.register + b * 2 ^ (8 * (i.a - m.left - 1)).toNat) else w64 (w64 (256 * m.register) + b) })) (.tup []) := by
  refine Y1 Try.func171 rfl _ Try.ntmps171 (by simp) (by simp) fun C gs hn => ?_
  by_cases h1 : i.b = 1
  · obtain ⟨s1, s2, s3, s4⟩ := hs h1
    repeat' (first
 | refine Y2 (id := 2) 30 [] [0, 1, 2, 3, 4, 5, 6, 7, 8, 9, 10, 11, 12, 13, 14, 15, 16, 17] 18 [] Ym hn rfl (by kernel_rfl) rfl .nil (by decide) (by decide) (by decide) ?_
 | refine Yg 3 (Ve { m with register := w64 (m.register + b * 2 ^ (8 * (i.a - m.left - 1)).toNat) }) rfl (by simp [AV.onlys, AV.only]) (by simp [AV.only, AV.onlys]) rfl rfl rfl (Yd _) (Yd _) rfl (by first | exact trivial | exact ⟨rfl, trivial⟩ | exact ⟨rfl, rfl, trivial⟩ | exact ⟨rfl, rfl, rfl, trivial⟩ | exact ⟨rfl, rfl, rfl, rfl, trivial⟩) (fun t h => by injection h with h; subst h; exact tl hn rfl) ?_
 | refine RunsT.nil ?_
 | refine RunsT.step Zu rfl rfl (fun _ => rfl) (by decide) ?_
 | refine RunsT.pur (fun _ => Yb rfl) (by decide) rfl rfl ?_
 | refine RunsT.pur (fun _ => pu_shl8 rfl rfl ⟨by omega, by omega⟩ hb) (by decide) rfl rfl ?_
 | refine RunsT.pur (fun _ => Z4 rfl rfl (by omega)) (by decide) rfl rfl ?_
 | refine RunsT.pur (fun _ => Z7 rfl rfl (by omega)) (by decide) rfl rfl ?_
 | refine RunsT.pur (fun _ => X0 (t := 24) rfl rfl) (by decide) rfl rfl ?_
 | refine Rk Zu hn rfl ?_
 | refine Rl ?_
 | refine Zc 30 rfl ?_
 | ((first | refine Zg hn rfl rfl rfl ?_ | refine Zm rfl rfl ?_); first
 | refine ⟨_, Yb rfl, ?_⟩
 | refine ⟨_, pu_shl8 rfl rfl ⟨by omega, by omega⟩ hb, ?_⟩
 | refine ⟨_, Z4 rfl rfl (by omega), ?_⟩
 | refine ⟨_, Z7 rfl rfl (by omega), ?_⟩
 | refine ⟨_, X0 (t := 24) rfl rfl, ?_⟩)
 | (refine Rj 30 rfl ?_; first | ((first | refine Zd rfl ?_ ?_ | refine Ze rfl ?_ ?_); · first | omega | rfl | assumption | (simp only [lmT]; omega)) | ((first | refine Zf rfl ?_ ?_ | refine Za rfl ?_ ?_); · first | omega | rfl | assumption | (simp only [lmT]; omega)) )
 | refine Z1 rfl (tl hn rfl) ?_
 | refine Yc rfl rfl rfl rfl (nbT rfl) ?_
 | ((first | refine Zg hn rfl rfl rfl ?_ | refine Zm rfl rfl ?_); first
 | refine ⟨_, Zx rfl rfl (by omega), ?_⟩
 | refine ⟨_, Zb rfl rfl (by omega) (by assumption), ?_⟩
 | refine ⟨_, Z4 rfl rfl (by omega), ?_⟩
 | refine ⟨_, Zv rfl rfl rfl, ?_⟩
 | refine ⟨_, Z7 rfl rfl (by omega), ?_⟩
 | refine ⟨_, Zr rfl rfl rfl rfl rfl rfl, ?_⟩))
    refine Rj 30 rfl ?_
    refine Wg (t := 0) (more := [⟨59, 0, (Vr i).map .ro⟩]) rfl ?_ rfl
    exact Xp (by rw [if_pos h1])
  · repeat' (first
 | refine Yg 3 (Ve { m with register := w64 (w64 (256 * m.register) + b) }) rfl (by simp [AV.onlys, AV.only]) (by simp [AV.only, AV.onlys]) rfl rfl rfl (Yd _) (Yd _) rfl (by first | exact trivial | exact ⟨rfl, trivial⟩ | exact ⟨rfl, rfl, trivial⟩ | exact ⟨rfl, rfl, rfl, trivial⟩ | exact ⟨rfl, rfl, rfl, rfl, trivial⟩) (fun t h => by injection h with h; subst h; exact tl hn rfl) ?_
 | refine Rk Zu hn rfl ?_
 | refine Rl ?_
 | refine Zc 30 rfl ?_
 | ((first | refine Zg hn rfl rfl rfl ?_ | refine Zm rfl rfl ?_); first
 | refine ⟨_, Yb rfl, ?_⟩
 | refine ⟨_, Hq rfl rfl, ?_⟩
 | refine ⟨_, X0 (t := 34) rfl rfl, ?_⟩)
 | (refine Rj 30 rfl ?_; first | ((first | refine Zd rfl ?_ ?_ | refine Ze rfl ?_ ?_); · first | omega | rfl | assumption | (simp only [lmT]; omega)) | ((first | refine Zf rfl ?_ ?_ | refine Za rfl ?_ ?_); · first | omega | rfl | assumption | (simp only [lmT]; omega)) )
 | refine Z1 rfl (tl hn rfl) ?_
 | refine Yc rfl rfl rfl rfl (nbT rfl) ?_
 | ((first | refine Zg hn rfl rfl rfl ?_ | refine Zm rfl rfl ?_); first
 | refine ⟨_, Zx rfl rfl (by omega), ?_⟩
 | refine ⟨_, Zb rfl rfl (by omega) (by assumption), ?_⟩
 | refine ⟨_, Z4 rfl rfl (by omega), ?_⟩
 | refine ⟨_, Zv rfl rfl rfl, ?_⟩
 | refine ⟨_, Z7 rfl rfl (by omega), ?_⟩
 | refine ⟨_, Zr rfl rfl rfl rfl rfl rfl, ?_⟩))
    refine Rj 30 rfl ?_
    refine Wg (t := 0) (more := [⟨59, 0, (Vr i).map .ro⟩]) rfl ?_ rfl
    exact Xp (by rw [if_neg h1])
set_option maxRecDepth 100000
def cntF (b z : Int) : Int := (w64 (z + b)).tmod 256
def Hg (b : Int) (s : List Int) (j : Nat) : List Int := (s.take j).map (cntF b) ++ s.drop j
theorem On (b : Int) (s : List Int) (j : Nat) : (Hg b s j).length = s.length := by
  unfold Hg
  rw [Ra, lmT, List.length_take, List.length_drop]
  omega
theorem cntS_at {b : Int} {s : List Int} {j : Nat} {z : Int} (h : s[j]? = some z) : (Hg b s j)[j]? = some z := by
  have hj := (P8.1 h).1
  unfold Hg
  rw [Rh (by rw [lmT, List.length_take]; omega), lmT, List.length_take, List.getElem?_drop]
  rw [show j + (j - min j s.length) = j by omega, h]
theorem cntS_next {b : Int} {s : List Int} {j : Nat} {z : Int} (h : s[j]? = some z) : (Hg b s j).set j (cntF b z) = Hg b s (j + 1) := by
  have hj := (P8.1 h).1
  have hlen : ((s.take j).map (cntF b)).length = j := by rw [lmT, List.length_take]; omega
  have hd : s.drop j = z :: s.drop (j + 1) := by
    rw [List.drop_eq_getElem_cons hj]
    have := (P8.1 h).2
    rw [this]
  unfold Hg
  rw [List.set_append_right _ _ (by omega), hlen, Nat.sub_self, hd, List.set_cons_zero, List.take_add_one, h, List.map_append, List.append_assoc]
  rfl
set_option maxHeartbeats 4000000 in
theorem Om (m : Mch) (b : Int) (hm : Jc m) : AM Try.prog 169 (mO m) [0] [.obj 0 0, .int b] (mO (Yy m b)) (.tup []) := by
  refine Y1 Try.func169 rfl _ Try.ntmps169 (by simp) (by simp) fun C gs hn => ?_
  have hb := hm.2
  have hl : ((m.sums.map RV.int).map AV.ro).length = m.sums.length * 1 := by simp
  repeat' (first
 | refine Rk Zu hn rfl ?_
 | refine Rl ?_
 | refine Zc 30 rfl ?_
 | ((first | refine Zg hn rfl rfl rfl ?_ | refine Zm rfl rfl ?_); first
 | refine ⟨_, Yb rfl, ?_⟩
 | refine ⟨_, Yp (n := m.sums.length) rfl rfl hl, ?_⟩)
 | (refine Rj 30 rfl ?_; first | ((first | refine Zd rfl ?_ ?_ | refine Ze rfl ?_ ?_); · first | omega | rfl | assumption | (simp only [lmT]; omega)) | ((first | refine Zf rfl ?_ ?_ | refine Za rfl ?_ ?_); · first | omega | rfl | assumption | (simp only [lmT]; omega)) )
 | refine Yc rfl rfl rfl rfl (nbT rfl) ?_
 | ((first | refine Zg hn rfl rfl rfl ?_ | refine Zm rfl rfl ?_); first
 | refine ⟨_, Zx rfl rfl (by omega), ?_⟩
 | refine ⟨_, Zb rfl rfl (by omega) (by assumption), ?_⟩
 | refine ⟨_, Z4 rfl rfl (by omega), ?_⟩
 | refine ⟨_, Zv rfl rfl rfl, ?_⟩
 | refine ⟨_, Z7 rfl rfl (by omega), ?_⟩
 | refine ⟨_, Zr rfl rfl rfl rfl rfl rfl, ?_⟩))
  refine Yw 30 rfl (fun j => [(0, .pin 0 0 (gs 0)), (1, .int b), (9, .int (m.sums.length : Int)), (10, .int (j : Int))]) (fun j => mO { m with sums := Hg b m.sums j }) (fun _ => True) m.sums.length 0 (Nat.zero_le _) trivial ⟨rfl, rfl, rfl, rfl, trivial⟩ (by rw [show Hg b m.sums 0 = m.sums by simp [Hg]]) fun j hj _ next => ?_
  have hcl : (((Hg b m.sums j).map RV.int).map AV.ro).length = m.sums.length * 1 := by simp [On]
  by_cases hlt : j < m.sums.length
  · obtain ⟨z, hz⟩ : ∃ z, m.sums[j]? = some z := ⟨_, P9 hlt⟩
    have hc := cntS_at (b := b) hz
    have hc' : (((Hg b m.sums j).map RV.int).map AV.ro)[(j : Int).toNat * 1]? = some (.ro (.int z)) := by simp [hc]
    repeat' (first
 | refine Y2 (id := 3) 30 [] [0, 1, 2, 3, 4, 5, 6, 7, 8, 9, 10, 11, 12, 13, 14, 15] 16 [] Ym hn rfl (by kernel_rfl) rfl .nil (by decide) (by decide) (by decide) ?_
 | refine Yc rfl rfl rfl rfl (by simp [On]; omega) ?_
 | refine RunsT.nil ?_
 | refine RunsT.step Zu rfl rfl (fun _ => rfl) (by decide) ?_
 | refine RunsT.pur (fun _ => Yb rfl) (by decide) rfl rfl ?_
 | refine RunsT.pur (fun _ => Yl (n := m.sums.length) (sz := 1) rfl rfl rfl rfl hcl (by omega) (by omega)) (by decide) rfl rfl ?_
 | refine RunsT.pur (fun _ => Yo rfl rfl hc') (by decide) rfl rfl ?_
 | refine RunsT.pur (fun _ => Az rfl rfl) (by decide) rfl rfl ?_
 | refine RunsT.pur (fun _ => X0 (t := 26) rfl rfl) (by decide) rfl rfl ?_
 | refine RunsT.pur (fun _ => Zx rfl rfl (by omega)) (by decide) rfl rfl ?_
 | refine Rk Zu hn rfl ?_
 | refine Rl ?_
 | refine Zc 30 rfl ?_
 | ((first | refine Zg hn rfl rfl rfl ?_ | refine Zm rfl rfl ?_); first
 | refine ⟨_, Yb rfl, ?_⟩
 | refine ⟨_, Yl (n := m.sums.length) (sz := 1) rfl rfl rfl rfl hcl (by omega) (by omega), ?_⟩
 | refine ⟨_, Yo rfl rfl hc', ?_⟩
 | refine ⟨_, Az rfl rfl, ?_⟩
 | refine ⟨_, X0 (t := 26) rfl rfl, ?_⟩)
 | (refine Rj 30 rfl ?_; first | ((first | refine Zd rfl ?_ ?_ | refine Ze rfl ?_ ?_); · first | omega | rfl | assumption | (simp only [lmT]; omega)) | ((first | refine Zf rfl ?_ ?_ | refine Za rfl ?_ ?_); · first | omega | rfl | assumption | (simp only [lmT]; omega)) )
 | refine Yc rfl rfl rfl rfl (nbT rfl) ?_
 | ((first | refine Zg hn rfl rfl rfl ?_ | refine Zm rfl rfl ?_); first
 | refine ⟨_, Zx rfl rfl (by omega), ?_⟩
 | refine ⟨_, Zb rfl rfl (by omega) (by assumption), ?_⟩
 | refine ⟨_, Z4 rfl rfl (by omega), ?_⟩
 | refine ⟨_, Zv rfl rfl rfl, ?_⟩
 | refine ⟨_, Z7 rfl rfl (by omega), ?_⟩
 | refine ⟨_, Zr rfl rfl rfl rfl rfl rfl, ?_⟩))
    refine next _ _ ⟨rfl, rfl, rfl, rfl, trivial⟩ hlt trivial ?_
    rw [← cntS_next hz]
    unfold mO
    simp only []
    rw [List.map_set, List.map_set, show (((Hg b m.sums j).map RV.int).map AV.ro).set j (AV.ro (RV.int (cntF b z))) = (((Hg b m.sums j).map RV.int).map AV.ro).set ((j : Int).toNat * 1) (AV.ro (RV.int (cntF b z))) from by rw [show (j : Int).toNat * 1 = j by simp]]
    rfl
  · obtain rfl : j = m.sums.length := by omega
    repeat' (first
 | refine Rk Zu hn rfl ?_
 | refine Rl ?_
 | refine Zc 30 rfl ?_
 | ((first | refine Zg hn rfl rfl rfl ?_ | refine Zm rfl rfl ?_); first
 | refine ⟨_, Yb rfl, ?_⟩
 | refine ⟨_, X0 rfl rfl, ?_⟩
 | refine ⟨_, Ho rfl rfl, ?_⟩)
 | (refine Rj 30 rfl ?_; first | ((first | refine Zd rfl ?_ ?_ | refine Ze rfl ?_ ?_); · first | omega | rfl | assumption | (simp only [lmT]; omega)) | ((first | refine Zf rfl ?_ ?_ | refine Za rfl ?_ ?_); · first | omega | rfl | assumption | (simp only [lmT]; omega)) )
 | refine Yc rfl rfl rfl rfl (nbT rfl) ?_
 | ((first | refine Zg hn rfl rfl rfl ?_ | refine Zm rfl rfl ?_); first
 | refine ⟨_, Zx rfl rfl (by omega), ?_⟩
 | refine ⟨_, Zb rfl rfl (by omega) (by assumption), ?_⟩
 | refine ⟨_, Z4 rfl rfl (by omega), ?_⟩
 | refine ⟨_, Zv rfl rfl rfl, ?_⟩
 | refine ⟨_, Z7 rfl rfl (by omega), ?_⟩
 | refine ⟨_, Zr rfl rfl rfl rfl rfl rfl, ?_⟩))
    refine Rj 30 rfl ?_
    refine Wg (t := 0) (more := []) rfl ?_ rfl
    rw [show Yy m b = { m with sums := Hg b m.sums m.sums.length, read := w64 (m.read + 1), left := w64 (m.left - 1) } from by simp [Yy, Hg, cntF]]
    rfl
theorem avs_app {m : Mem} : ∀ (xs : List AV) (us : List Value) {ys : List AV} {vs : List Value}, AV.rels m xs us → AV.rels m ys vs → AV.rels m (xs ++ ys) (us ++ vs)
  | [], us, ys, vs, h, h' => by
    simp only [AV.rels] at h
    subst h
    exact h'
  | x :: xs, us, ys, vs, h, h' => by
    simp only [AV.rels] at h
    obtain ⟨u, us', rfl, h1, h2⟩ := h
    simp only [List.cons_append, AV.rels]
    exact ⟨u, us' ++ vs, rfl, h1, avs_app xs us' h2 h'⟩
section
variable {P : Program} {C : Ctx} {ops : Array Oper} {rest : List Oper} {k : List Item} {R : Act → World → Prop} {env : Env} {σ : List Ob} {t : Nat} {ty : TypeId} {pos : String} {after : Array Edge}
theorem op_callMC {f : FuncId} {fn : Func} {x : Operand} {xs : Array Operand} {ats : Array TypeId} {σ0 σ1 : List Ob} {st : List Nat} {args cap : List AV} {v : AV} {d : Option Nat} [hfn : FN P f fn] (ι : List Nat) (hx : ev env x = .fn (.func f) [] cap) (hf : AM P f σ0 st args σ1 v)
    (ha : (xs.toList.map (ev env) ++ cap).map unpin = Y0 (rof ι) args) (hcl : AV.onlys (fun i => i < σ0.length) args) (hL : Lent ι st σ σ0 σ1) (ht : ∀ t, d = some t → t < C.n)
    (hk : RunsL P C ops rest k R ⟨Lb d (v.ren (rof ι)) (Jf (Wc ι) (O2 ι st) env), We ι σ σ1 0⟩) :
    RunsL P C ops (⟨d, .call { callee := .value x, args := xs, argTypes := ats }, ty, pos, after, none⟩ :: rest) k R ⟨env, σ⟩ := by
  refine ⟨fun a w ⟨s1, s2, φ, hG, hH⟩ => ?_⟩
  refine wpList_plain rfl fun K hK' => ?_
  have h0 := Xu hH x
  rw [hx] at h0
  simp only [AV.rel, AV.rels] at h0
  obtain ⟨us, vs, e, hu, hv0⟩ := h0
  have hu' : us = #[] := by cases us; simp_all
  subst hu'
  have hr := K0 _ _ (avs_app _ _ (Xs (a := a) (m := ⟨w, φ, σ, C.ok⟩) xs.toList fun x hx => Xu hH x) hv0)
  rw [ha] at hr
  obtain ⟨hG0, hun⟩ := Tf hL hG rfl
  have key : ∀ (vs : List AV) (us : List Value), AV.onlys (fun i => i < σ0.length) vs → AV.rels ⟨w, φ, σ, C.ok⟩ (Y0 (rof ι) vs) us → AV.rels ⟨w, fun j => φ (rof ι j), σ0, fun b => C.ok b ∧ ∀ i, i < σ.length → Wc ι i = false → φ i ≠ some b⟩ vs us := by
    intro vs
    induction vs with
    | nil => intro us _ h; simpa [Y0, AV.rels] using h
    | cons x xs ih =>
      intro us ho h
      simp only [Y0, AV.rels, AV.onlys] at h ho ⊢
      obtain ⟨u, us', e, h1, h2⟩ := h
      exact ⟨u, us', e, hun x u ho.1 h1, ih us' ho.2 h2⟩
  unfold Oper.wp execOp
  simp only [resolve, e, Deferred.ofValue, Sem.run_bind, Sem.run_pure, Result.andThen_ok, invoke]
  rw [Wb hfn]
  simp only [Oper.upon]
  refine (hf w _ _ _ hG0 (by simpa using key args _ hcl hr)).mono ?_
  rintro e w' ⟨u, φ1, rfl, hG1, hv, hst⟩
  obtain ⟨φ', g1, g2, g3⟩ := Te hL hG rfl hG1 hst
  cases d with
  | none => exact hK' _ _ (hk.run _ _ ⟨s1, s2, φ', g1, fun s => by rw [show look (⟨Lb none _ _, _⟩ : St).env s = _ from Ww _ _ _ _]; exact g2 _ _ (hH s)⟩)
  | some t => exact hK' _ _ (hk.run _ _ ⟨s1, by simp [Act.put, s2], φ', g1, Holds.put (fun s => by rw [Ww]; exact g2 _ _ (hH s)) (by rw [s2]; exact ht t rfl) (g3 _ _ hv)⟩)
theorem Lf {f : FuncId} {fn : Func} {x : Operand} {xs : Array Operand} {ats : Array TypeId} {σ0 σ1 more : List Ob} {st : List Nat} {args cap : List AV} {v : AV} {d : Option Nat} [hfn : FN P f fn] (n : Nat) (hx : ev env x = .fn (.func f) [] cap) (hf : AM P f σ0 st args σ1 v)
    (ha : (xs.toList.map (ev env) ++ cap).map unpin = args) (hcl : AV.onlys (fun i => i < n) args) (hv : v.only fun i => i < n) (hσ : σ = σ0 ++ more) (hn0 : Nat.beq σ0.length n = true) (hn1 : Nat.beq σ1.length n = true) (h0 : FreeO n σ0) (h1 : FreeO n σ1) (hst : (st.all fun j => Nat.ble (j + 1) n) = true) (hfree : FreeP n st more) (ht : ∀ t, d = some t → t < C.n)
    (hk : RunsL P C ops rest k R ⟨Lb d v (Jf (ltB n) (memB st) env), σ1 ++ more⟩) :
    RunsL P C ops (⟨d, .call { callee := .value x, args := xs, argTypes := ats }, ty, pos, after, none⟩ :: rest) k R ⟨env, σ⟩ := by
  subst hσ
  obtain ⟨hL, hp⟩ := Dh hn0 hn1 h0 h1 hst hfree
  have hr : ∀ i, i < n → rof (List.range n) i = i := fun i hi => Ub hi
  have e0 : σ0.length = n := Nat.eq_of_beq_eq_true hn0
  refine op_callMC (List.range n) hx hf (by rw [ha, Q9 hr args hcl]) (by rw [e0]; exact hcl) hL ht ?_
  rw [hp, Jv, Nn hst, ren_id hr v hv]
  exact hk
theorem Y6 {o : Oper} {v : AV} {s i off g : Nat} (hs : look env s = .pin i off g) (h : Pur P C o ((s, .obj i off) :: env) σ v) : Pur P C o env σ v :=
  ⟨fun a m hG hσ hH K Q hK => h.run a m hG hσ (fun x hx => by
    have h0 := hH x hx
    cases x with
    | tmp s' =>
      show AV.rel m (look ((s, .obj i off) :: env) s') _
      rw [Y4]
      split
      · rename_i e
        subst e
        have h1 : AV.rel m (look env s) (a.eval (.tmp s)) := h0
        rw [hs] at h1
        exact Q6 (v := .pin i off g) h1
      · exact h0
    | const c => exact h0
    | global c => exact h0
    | func c => exact h0) K Q hK⟩
theorem Ps {w : World} {xt : TypeId} {f : Fn} {us vs : Array Value} {ps rs : _} {vr : _} (d : Nat) (hu : P.underlying xt = some (.func ps rs vr)) : (Op.equalIn (d + 1) xt (.func f us vs) .nilFunc).run P w = .ok false w := by
  simp [Op.equalIn, run_underlying hu]
theorem pu_neqNil {gd : Option (Nat × Bool)} {xt yt : TypeId} {x y : Operand} {f : Fn} {a b : List AV} {ps rs : _} {vr : _} (hu : P.underlying xt = some (.func ps rs vr)) (hx : ev env x = .fn f a b) (hy : ev env y = .ro (.c .nilFunc)) : Pur P C ⟨some t, .binOp .neq xt x y yt, ty, pos, after, gd⟩ env σ (.bool true) :=
  Xh (fun ac m hG hσ hH => by
    have h := hH x (by simp [Op.operands, Call.operands])
    rw [hx] at h
    simp only [AV.rel] at h
    obtain ⟨us, vs, e, _, _⟩ := h
    have h' := hH y (by simp [Op.operands, Call.operands])
    rw [hy] at h'
    simp only [AV.rel, RV.rel] at h'
    refine ⟨.bool true, ?_, by simp [AV.rel, RV.rel]⟩
    simp only [execOp, e, h']
    simp [go_sem, binOp, Op.equal]
    rw [show Op.maxDepth = 9999 + 1 from rfl, Ps _ hu]
    rfl)
theorem Ia {w : World} {xt : TypeId} {ps rs : _} {vr : _} (d : Nat) (hu : P.underlying xt = some (.func ps rs vr)) : (Op.equalIn (d + 1) xt .nilFunc .nilFunc).run P w = .ok true w := by
  simp [Op.equalIn, run_underlying hu]
theorem Iy {gd : Option (Nat × Bool)} {xt yt : TypeId} {x y : Operand} {ps rs : _} {vr : _} (hu : P.underlying xt = some (.func ps rs vr)) (hx : ev env x = .ro (.c .nilFunc)) (hy : ev env y = .ro (.c .nilFunc)) : Pur P C ⟨some t, .binOp .neq xt x y yt, ty, pos, after, gd⟩ env σ (.bool false) :=
  Xh (fun ac m hG hσ hH => by
    have h := hH x (by simp [Op.operands, Call.operands])
    rw [hx] at h
    have h' := hH y (by simp [Op.operands, Call.operands])
    rw [hy] at h'
    simp only [AV.rel, RV.rel] at h h'
    refine ⟨.bool false, ?_, by simp [AV.rel, RV.rel]⟩
    simp only [execOp, h, h']
    simp [go_sem, binOp, Op.equal]
    rw [show Op.maxDepth = 9999 + 1 from rfl, Ia _ hu]
    rfl)
end
theorem Lp {P : Program} {f : FuncId} {fn : Func} {c : Code} {σ σ' : List Ob} {st : List Nat} {args : List AV} {v : AV} (hf : P.funcs[f]? = some fn) (hb : fn.body = some c) (n : Nat) (hn : fn.ntmps = n) (hl : args.length ≤ n)
    (g j k off : Nat) {o : Ob} (ho : σ[j]? = some o) (hk : o.cs[k]? = some (.pin 0 off g)) (hst : ∀ i ∈ st, i = 0 ∨ ∃ off, AV.obj i off ∈ args)
    (h : ∀ (C : Ctx) (gs : Nat → Nat), C.n = n → gs 0 = g → Runs P C [.code c] (Hd P C fn gs st σ' v) ⟨Vo 0 (args.map (pinA gs)), σ⟩) : AM P f σ st args σ' v := by
  intro w φ ok us hG hu
  have hlen := AV.rels_len args _ hu
  have h0 : φ 0 = some g := by
    have hob := hG.ob j o ho
    simp only at hob
    cases hφ : φ j with
    | none =>
      rw [hφ] at hob
      simp only [ObRel] at hob
      rw [hob] at hk
      simp at hk
    | some b =>
      rw [hφ] at hob
      obtain ⟨us', q1, q2, q3⟩ := hob
      obtain ⟨u, e1, e2, e3⟩ := q3 k _ hk
      simp only [AV.rel] at e3
      exact e3.2.1
  refine Wl hf hb ?_
  let gs : Nat → Nat := fun i => (φ i).getD 0
  have hs : Sim ⟨w, ok, mine φ σ.length, n⟩ ⟨Vo 0 (args.map (pinA gs)), σ⟩ { tmps := us ++ Array.replicate (fn.ntmps - us.size) undef, defers := [] } w := by
    refine ⟨rfl, by simp at hlen ⊢; omega, φ, Of hG, fun t => ?_⟩
    rw [Jn]
    simp only [Nat.zero_le, if_true, Nat.sub_zero, List.getElem?_map]
    cases hr : args[t]? with
    | none => simp [AV.rel]
    | some r =>
      obtain ⟨u, e1, e2⟩ := AV.rels_at args _ hu t r hr
      have ht : t < us.size := by have := (P8.1 e1).1; simpa using this
      have : (us ++ Array.replicate (fn.ntmps - us.size) undef).getD t undef = u := by
        rw [Array.getD_eq_getD_getElem?, Array.getElem?_append_left ht]
        have : us[t]? = some u := by simpa using e1
        simp [this]
      simp only [Option.map_some, Option.getD_some]
      rw [this]
      cases r <;> simp only [pinA] <;> try exact e2
      case obj i off =>
        simp only [AV.rel] at e2 ⊢
        obtain ⟨k1, g, k2, k3⟩ := e2
        have : gs i = g := by simp only [gs, k2, Option.getD_some]
        rw [this]
        exact ⟨k1, k2, k3⟩
  have hr := (h ⟨w, ok, mine φ σ.length, n⟩ gs rfl (by simp only [gs, h0, Option.getD_some])).run _ w hs
  intro b cs
  obtain ⟨a', w', todo, ⟨hd, u, hv, φ', h1, h2, h3⟩, hstep⟩ := hr b cs
  refine ⟨a', w', todo, ⟨hd, u, hv, u, φ', rfl, Of h1, h2, fun i hi => ?_⟩, hstep⟩
  rcases hst i hi with rfl | ⟨off, ho⟩
  · rw [h3 0 hi]
    simp only [gs, h0, Option.getD_some]
  · obtain ⟨j, hj⟩ := List.mem_iff_getElem?.1 ho
    obtain ⟨u', _, e2⟩ := AV.rels_at args _ hu j _ hj
    simp only [AV.rel] at e2
    obtain ⟨_, g, k2, _⟩ := e2
    rw [h3 i hi]
    simp only [gs, k2, Option.getD_some]
class TBR (P : Program) (t : TypeId) (zs : outParam (List Value)) : Prop where
  h : ∃ it n e z ie, P.info? t = some it ∧ P.underlying t = some (.array n e) ∧ it.zero = some z ∧ z.cells = zs.toArray ∧ P.info? e = some ie ∧ ie.size = 1 ∧ ∀ x ∈ zs, x.oneCell' = true
def Pr (pl : Nat → Option (Nat × Nat)) (env : Env) : List AV → List (Nat × Operand) → Option (List AV)
  | cells, [] => some cells
  | cells, (i, x) :: l => match pl i with
    | some (off, size) => match cells? (ev env x) with
      | some cs => match Nat.beq cs.length size, Nat.ble (off + size) cells.length with
        | true, true => Pr pl env (Wx cells off cs) l
        | _, _ => none
      | none => none
    | none => none
theorem Oh {m : Mem} {env : Env} {a : Act} {pl : Nat → Option (Nat × Nat)} : ∀ (l : List (Nat × Operand)) (vs vs' : List AV) (cells : Array Value), (∀ p ∈ l, AV.rel m (ev env p.2) (a.eval p.2)) → cells.size = vs.length → (∀ (j : Nat) x, vs[j]? = some x → ∃ y, cells[j]? = some y ∧ y.oneCell' = true ∧ AV.rel m x y) →
    Pr pl env vs l = some vs' → ∃ cells', Instr.fill pl cells (l.map fun p => (p.1, a.eval p.2)) = some cells' ∧ cells'.size = vs'.length ∧ ∀ (j : Nat) x, vs'[j]? = some x → ∃ y, cells'[j]? = some y ∧ y.oneCell' = true ∧ AV.rel m x y
  | [], vs, vs', cells, _, hs, hv, h => by
    simp only [Pr, Option.some.injEq] at h
    subst h
    exact ⟨cells, rfl, hs, hv⟩
  | (i, x) :: l, vs, vs', cells, hH, hs, hv, h => by
    unfold Pr at h
    split at h
    · rename_i off size hp
      split at h
      · rename_i cs hc
        split at h
        · rename_i hb1 hb2
          have e1 := Nat.eq_of_beq_eq_true hb1
          have e2 := nbT hb2
          obtain ⟨c1, c2⟩ := Kk (hH (i, x) (by simp)) hc
          obtain ⟨k1, k2⟩ := Lw (m := m) (a.eval x).cells.toList 0 cells off cs vs (by simpa using c1) (fun j y hj => by simpa using c2 j y hj) (by omega) hs hv
          rw [Nat.add_zero] at k2
          obtain ⟨cells', q1, q2⟩ := Oh l _ vs' _ (fun p hp => hH p (by simp [hp])) (by rw [Lx]; exact k1) k2 h
          refine ⟨cells', ?_, q2⟩
          simp only [List.map_cons, Instr.fill]
          rw [hp]
          simp only
          have c1' : (a.eval x).cells.size = cs.length := c1
          rw [if_neg (by rw [c1']; simp; omega), ← q1]
          congr 1
          rw [← Array.foldl_toList, Array.toList_zipIdx]
        · cases h
      · cases h
    · cases h
def oneP (i : Nat) : Option (Nat × Nat) := some (i * 1, 1)
section
variable {P : Program} {C : Ctx} {env : Env} {σ : List Ob} {t : Nat} {ty : TypeId} {pos : String} {after : Array Edge} {gd : Option (Nat × Bool)}
theorem pu_buildR {tt : TypeId} {parts : Array (Nat × Operand)} {zs : List Value} {vs : List AV} [hb : TBR P tt zs] (h : Pr oneP env (zs.map fun v => .ro (.c v)) parts.toList = some vs) :
    Pur P C ⟨some t, .build tt parts, ty, pos, after, gd⟩ env σ (aggOf vs) :=
  Xh (fun a m hG hσ hH => by
    obtain ⟨it, n, e, z, ie, h1, h2, h3, h4, h5, h7, h6⟩ := hb.h
    obtain ⟨cells', q1, q2, q3⟩ := Oh (m := m) (a := a) parts.toList _ vs zs.toArray (fun p hp => hH p.2 (by simp [Op.operands]; exact ⟨p.1, by simpa using hp⟩)) (by simp) (fun j x hj => by
      rw [List.getElem?_map, Option.map_eq_some_iff] at hj
      obtain ⟨y, hy, rfl⟩ := hj
      exact ⟨y, by simpa using hy, h6 y (Re hy), by simp [AV.rel, RV.rel]⟩) h
    have hbt : P.built tt (parts.map fun p => (p.1, a.eval p.2)).toList = some cells' := by
      unfold Program.built
      simp only [h1, h2, h3, h5, h4, h7]
      rw [Array.toList_map]
      exact q1
    refine ⟨.agg cells', by simp only [execOp]; exact by simp [run_build m.w tt _ _ hbt], ?_⟩
    have hrel : AV.rels m vs cells'.toList := AV.rels_of _ _ (by simpa using q2) fun j r u hj hu => by
      obtain ⟨y, e1, _, e3⟩ := q3 j r hj
      have : y = u := by simpa [e1] using hu
      rwa [this] at e3
    unfold aggOf
    split
    · rename_i rs hrs
      rw [K9 hrs] at hrel
      simp only [AV.rel, RV.rel]
      exact ⟨_, rfl, Jq _ _ hrel⟩
    · simp only [AV.rel]
      exact ⟨_, rfl, hrel⟩)
end
set_option maxRecDepth 100000
def tO (g : Nat) (i : Ins) (b : Int) : List Ob := [⟨140, 0, [.pin 0 0 g]⟩, ⟨59, 0, (Vr i).map .ro⟩, ⟨3, 0, [.int b]⟩]
theorem Q7 (m : Mch) (g : Nat) (i : Ins) (b : Int) : FreeO 6 (mO m ++ tO g i b) := by
  simp only [mO, tO, List.cons_append, List.nil_append, FreeO]
  exact ⟨by simp [AV.onlys, AV.only], Vp _ _, Vp _ _, by simp [AV.onlys, AV.only], Vp _ _, by simp [AV.onlys, AV.only], trivial⟩
theorem tO_app {m m' : Mch} {g : Nat} {i : Ins} {b : Int} (h : m = m') : mO m ++ tO g i b = mO m' ++ tO g i b := by rw [h]
theorem st4 {env : Env} {gs : Nat → Nat} {k a b c : Nat} (h0 : look env k = .pin 0 0 (gs 0)) (h3 : look env a = .pin 3 0 (gs 3)) (h4 : look env b = .pin 4 0 (gs 4)) (h5 : look env c = .pin 5 0 (gs 5)) : ∀ i ∈ [0, 3, 4, 5], ∃ t off, look env t = .pin i off (gs i) := fun i hi => by
  simp only [List.mem_cons, List.not_mem_nil, or_false] at hi
  rcases hi with rfl | rfl | rfl | rfl
  · exact ⟨k, 0, h0⟩
  · exact ⟨a, 0, h3⟩
  · exact ⟨b, 0, h4⟩
  · exact ⟨c, 0, h5⟩
theorem take1_am (g : Nat) (m : Mch) (i : Ins) (b : Int) (hs : i.b = 1 → 0 ≤ i.a - m.left - 1 ∧ i.a - m.left - 1 ≤ 3 ∧ 0 ≤ i.a ∧ i.a ≤ 4) (hb : 0 ≤ b ∧ b ≤ 255) : AM Try.prog 170 (mO m ++ tO g i b) [0, 3, 4, 5] [.obj 3 0, .obj 4 0, .obj 5 0] (mO (Uh { m with register := if i.b = 1 then w64 (m.register + b * 2 ^ (8 * (i.a - m.left - 1)).toNat) else w64 (w64 (256 * m.register) + b) }) ++ tO g i b) (.tup []) := by
  refine Lp Try.func170 rfl _ Try.ntmps170 (by simp) g 3 0 0 rfl rfl (by simp) fun C gs hn hg => ?_
  subst hg
  repeat' (first
 | refine Yg 3 (Ee m i b hs hb) rfl (by simp [AV.onlys, AV.only]) (by simp [AV.only, AV.onlys]) rfl rfl rfl (Yd _) (Yd _) rfl (by first | exact trivial | exact ⟨rfl, trivial⟩ | exact ⟨rfl, rfl, trivial⟩ | exact ⟨rfl, rfl, rfl, trivial⟩ | exact ⟨rfl, rfl, rfl, rfl, trivial⟩) (fun t h => by injection h with h; subst h; exact tl hn rfl) ?_
 | refine Rl ?_
 | refine Zc 30 rfl ?_
 | (refine Zg hn rfl rfl rfl ?_; first
 | refine ⟨_, Y6 (s := 0) rfl (Yo rfl rfl rfl), ?_⟩
 | refine ⟨_, Y6 (s := 0) rfl (Xi rfl rfl rfl rfl), ?_⟩
 | refine ⟨_, Y6 (s := 1) rfl (Yo rfl rfl rfl), ?_⟩
 | refine ⟨_, Y6 (s := 1) rfl (Xi rfl rfl rfl rfl), ?_⟩
 | refine ⟨_, Y6 (s := 2) rfl (Yo rfl rfl rfl), ?_⟩
 | refine ⟨_, Y6 (s := 2) rfl (Xi rfl rfl rfl rfl), ?_⟩)
 | (refine Rj 30 rfl ?_; first | ((first | refine Zd rfl ?_ ?_ | refine Ze rfl ?_ ?_); · first | omega | rfl | assumption | (simp only [lmT]; omega)) | ((first | refine Zf rfl ?_ ?_ | refine Za rfl ?_ ?_); · first | omega | rfl | assumption | (simp only [lmT]; omega)) )
    )
  refine Rj 30 rfl ?_
  exact Qn (Mm (st4 (k := 3) (a := 0) (b := 1) (c := 2) rfl rfl rfl rfl) rfl rfl)
theorem take2_am (g : Nat) (m : Mch) (i : Ins) (b : Int)  : AM Try.prog 172 (mO m ++ tO g i b) [0, 3, 4, 5] [.obj 3 0, .obj 4 0, .obj 5 0] (mO (if 1 < b then Wh m 4 else if m.left ≠ 0 then m else { m with started := false, pc := if b = 0 then i.a else w64 (m.pc + 1) }) ++ tO g i b) (.tup []) := by
  refine Lp Try.func172 rfl _ Try.ntmps172 (by simp) g 3 0 0 rfl rfl (by simp) fun C gs hn hg => ?_
  subst hg
  repeat' (first
 | refine Yg 3 (Hm m i b) rfl (by simp [AV.onlys, AV.only]) (by simp [AV.only, AV.onlys]) rfl rfl rfl (Yd _) (Yd _) rfl (by first | exact trivial | exact ⟨rfl, trivial⟩ | exact ⟨rfl, rfl, trivial⟩ | exact ⟨rfl, rfl, rfl, trivial⟩ | exact ⟨rfl, rfl, rfl, rfl, trivial⟩) (fun t h => by injection h with h; subst h; exact tl hn rfl) ?_
 | refine Rl ?_
 | refine Zc 30 rfl ?_
 | (refine Zg hn rfl rfl rfl ?_; first
 | refine ⟨_, Y6 (s := 0) rfl (Yo rfl rfl rfl), ?_⟩
 | refine ⟨_, Y6 (s := 0) rfl (Xi rfl rfl rfl rfl), ?_⟩
 | refine ⟨_, Y6 (s := 1) rfl (Yo rfl rfl rfl), ?_⟩
 | refine ⟨_, Y6 (s := 1) rfl (Xi rfl rfl rfl rfl), ?_⟩
 | refine ⟨_, Y6 (s := 2) rfl (Yo rfl rfl rfl), ?_⟩
 | refine ⟨_, Y6 (s := 2) rfl (Xi rfl rfl rfl rfl), ?_⟩)
 | (refine Rj 30 rfl ?_; first | ((first | refine Zd rfl ?_ ?_ | refine Ze rfl ?_ ?_); · first | omega | rfl | assumption | (simp only [lmT]; omega)) | ((first | refine Zf rfl ?_ ?_ | refine Za rfl ?_ ?_); · first | omega | rfl | assumption | (simp only [lmT]; omega)) )
    )
  refine Rj 30 rfl ?_
  exact Qn (Mm (st4 (k := 3) (a := 0) (b := 1) (c := 2) rfl rfl rfl rfl) rfl rfl)
theorem take3_am (g : Nat) (m : Mch) (i : Ins) (b : Int)  : AM Try.prog 174 (mO m ++ tO g i b) [0, 3, 4, 5] [.obj 3 0, .obj 4 0, .obj 5 0] (mO (if m.escaped = false ∧ b = i.a then Uh m else { m with escaped := !m.escaped && decide (b = 92), left := 1 }) ++ tO g i b) (.tup []) := by
  refine Lp Try.func174 rfl _ Try.ntmps174 (by simp) g 3 0 0 rfl rfl (by simp) fun C gs hn hg => ?_
  subst hg
  repeat' (first
 | refine Yg 3 (Ay m i b) rfl (by simp [AV.onlys, AV.only]) (by simp [AV.only, AV.onlys]) rfl rfl rfl (Yd _) (Yd _) rfl (by first | exact trivial | exact ⟨rfl, trivial⟩ | exact ⟨rfl, rfl, trivial⟩ | exact ⟨rfl, rfl, rfl, trivial⟩ | exact ⟨rfl, rfl, rfl, rfl, trivial⟩) (fun t h => by injection h with h; subst h; exact tl hn rfl) ?_
 | refine Rl ?_
 | refine Zc 30 rfl ?_
 | (refine Zg hn rfl rfl rfl ?_; first
 | refine ⟨_, Y6 (s := 0) rfl (Yo rfl rfl rfl), ?_⟩
 | refine ⟨_, Y6 (s := 0) rfl (Xi rfl rfl rfl rfl), ?_⟩
 | refine ⟨_, Y6 (s := 1) rfl (Yo rfl rfl rfl), ?_⟩
 | refine ⟨_, Y6 (s := 1) rfl (Xi rfl rfl rfl rfl), ?_⟩
 | refine ⟨_, Y6 (s := 2) rfl (Yo rfl rfl rfl), ?_⟩
 | refine ⟨_, Y6 (s := 2) rfl (Xi rfl rfl rfl rfl), ?_⟩)
 | (refine Rj 30 rfl ?_; first | ((first | refine Zd rfl ?_ ?_ | refine Ze rfl ?_ ?_); · first | omega | rfl | assumption | (simp only [lmT]; omega)) | ((first | refine Zf rfl ?_ ?_ | refine Za rfl ?_ ?_); · first | omega | rfl | assumption | (simp only [lmT]; omega)) )
    )
  refine Rj 30 rfl ?_
  exact Qn (Mm (st4 (k := 3) (a := 0) (b := 1) (c := 2) rfl rfl rfl rfl) rfl rfl)
theorem take4_am (g : Nat) (m : Mch) (i : Ins) (b : Int)  : AM Try.prog 176 (mO m ++ tO g i b) [0, 3, 4, 5] [.obj 5 0, .obj 4 0, .obj 3 0] (mO (if b ≠ i.a then Wh m 2 else Uh m) ++ tO g i b) (.tup []) := by
  refine Lp Try.func176 rfl _ Try.ntmps176 (by simp) g 3 0 0 rfl rfl (by simp) fun C gs hn hg => ?_
  subst hg
  repeat' (first
 | refine Yg 3 (Y8 m 2) rfl (by simp [AV.onlys, AV.only]) (by simp [AV.only, AV.onlys]) rfl rfl rfl (Yd _) (Yd _) rfl (by first | exact trivial | exact ⟨rfl, trivial⟩ | exact ⟨rfl, rfl, trivial⟩ | exact ⟨rfl, rfl, rfl, trivial⟩ | exact ⟨rfl, rfl, rfl, rfl, trivial⟩) (fun t h => by injection h with h; subst h; exact tl hn rfl) ?_
 | refine Yg 3 (Ve m) rfl (by simp [AV.onlys, AV.only]) (by simp [AV.only, AV.onlys]) rfl rfl rfl (Yd _) (Yd _) rfl (by first | exact trivial | exact ⟨rfl, trivial⟩ | exact ⟨rfl, rfl, trivial⟩ | exact ⟨rfl, rfl, rfl, trivial⟩ | exact ⟨rfl, rfl, rfl, rfl, trivial⟩) (fun t h => by injection h with h; subst h; exact tl hn rfl) ?_
 | refine Rk Zu hn rfl ?_
 | refine Rl ?_
 | refine Zc 30 rfl ?_
 | (refine Zg hn rfl rfl rfl ?_; first
 | refine ⟨_, Y6 (s := 0) rfl (Yo rfl rfl rfl), ?_⟩
 | refine ⟨_, Y6 (s := 1) rfl (Yo rfl rfl rfl), ?_⟩
 | refine ⟨_, Y6 (s := 2) rfl (Yo rfl rfl rfl), ?_⟩
      )
 | (refine Rj 30 rfl ?_; first | ((first | refine Zd rfl ?_ ?_ | refine Ze rfl ?_ ?_); · first | omega | rfl | assumption | (simp only [lmT]; omega)) | ((first | refine Zf rfl ?_ ?_ | refine Za rfl ?_ ?_); · first | omega | rfl | assumption | (simp only [lmT]; omega)) | refine Ye rfl (fun h => ?_) (fun h => ?_) | refine Ri (Zt hm rfl rfl ?_) | exact Ri (Zj hm rfl rfl rfl (nbT rfl) rfl rfl))
    )
  · refine Rj 30 rfl ?_
    exact Ri (Mm (st4 (k := 7) (a := 2) (b := 1) (c := 0) rfl rfl rfl rfl) rfl (tO_app (by rw [if_pos (by assumption)])))
  · refine Rj 30 rfl ?_
    exact Qn (Mm (st4 (k := 9) (a := 2) (b := 1) (c := 0) rfl rfl rfl rfl) rfl (tO_app (by rw [if_neg (by simp [*])])))
set_option maxRecDepth 100000
instance tbr_take : TBR Try.prog 158 (List.replicate 18 .nilFunc) := ⟨_, _, _, _, _, rfl, rfl, rfl, by kernel_rfl, rfl, rfl, by decide⟩
instance t1_take : T1 Try.prog 1 := ⟨by kernel_rfl⟩
instance tz_take : TZ Try.prog 158 (List.replicate 18 .nilFunc) := ⟨_, _, rfl, rfl, rfl, fun x hx => by rw [List.eq_of_mem_replicate hx]; rfl⟩
def I5 : AV := .ro (.c .nilFunc)
def takeT : List AV := [I5, .fn (.func 170) [] [.obj 3 0, .obj 4 0, .obj 5 0], .fn (.func 176) [] [.obj 5 0, .obj 4 0, .obj 3 0], I5, I5, I5, I5, I5, I5, I5, I5, I5, I5, .fn (.func 172) [] [.obj 3 0, .obj 4 0, .obj 5 0], I5, I5, .fn (.func 174) [] [.obj 3 0, .obj 4 0, .obj 5 0], I5]
theorem A3 {P : Program} {C : Ctx} {env : Env} {σ : List Ob} {t : Nat} {ty : TypeId} {pos : String} {after : Array Edge} {gd : Option (Nat × Bool)} {tt : TypeId} {parts : Array (Nat × Operand)} {zs : List Value} [hb : TBR P tt zs] (h : Pr oneP env (zs.map fun v => .ro (.c v)) parts.toList = some takeT) : Pur P C ⟨some t, .build tt parts, ty, pos, after, gd⟩ env σ (.agg takeT) := pu_buildR h
set_option maxHeartbeats 16000000 in
theorem take_amN (m : Mch) (i : Ins) (b : Int) (hm : Jc m) (ho : 0 ≤ i.op ∧ i.op ≤ 17) (h15 : i.op ≠ 15) (hb : 0 ≤ b ∧ b ≤ 255) (h1 : i.op = 1 → 1 ≤ m.left ∧ m.left ≤ i.a ∧ i.a ≤ 4) : AM Try.prog 145 (mO m) [0] [.obj 0 0, .ro (.agg (Vr i)), .int b] (mO (Bh m i b)) (.tup []) := by
  refine Y1 Try.func145 rfl _ Try.ntmps145 (by simp) (by simp) fun C gs hn => ?_
  have hL := Ph (b := b) hm
  obtain ⟨op, ia, ib⟩ := i
  simp only at ho h15 h1
  have hs : op = 1 → ib = 1 → 0 ≤ ia - (Yy m b).left - 1 ∧ ia - (Yy m b).left - 1 ≤ 3 ∧ 0 ≤ ia ∧ ia ≤ 4 := fun e _ => by
    have := h1 e
    have hw : (Yy m b).left = m.left - 1 := Mf (by omega)
    rw [hw]
    omega
  have ht : Bh m ⟨op, ia, ib⟩ b = Qb (Yy m b) ⟨op, ia, ib⟩ b := by unfold Bh; rw [if_neg h15]
  rw [ht]
  clear ht h1
  have hop : op = 0 ∨ op = 1 ∨ op = 2 ∨ op = 3 ∨ op = 4 ∨ op = 5 ∨ op = 6 ∨ op = 7 ∨ op = 8 ∨ op = 9 ∨ op = 10 ∨ op = 11 ∨ op = 12 ∨ op = 13 ∨ op = 14 ∨ op = 16 ∨ op = 17 := by omega
  rcases hop with rfl | rfl | rfl | rfl | rfl | rfl | rfl | rfl | rfl | rfl | rfl | rfl | rfl | rfl | rfl | rfl | rfl
  all_goals
    repeat' (first
 | refine Yg 3 (Om m b hm) rfl (by simp [AV.onlys, AV.only]) (by simp [AV.only, AV.onlys]) rfl rfl rfl (Yd _) (Yd _) rfl (by first | exact trivial | exact ⟨rfl, trivial⟩ | exact ⟨rfl, rfl, trivial⟩ | exact ⟨rfl, rfl, rfl, trivial⟩ | exact ⟨rfl, rfl, rfl, rfl, trivial⟩) (fun t h => by injection h with h; subst h; exact tl hn rfl) ?_
 | refine Yg 3 (Ve (Yy m b)) rfl (by simp [AV.onlys, AV.only]) (by simp [AV.only, AV.onlys]) rfl rfl rfl (Yd _) (Yd _) rfl (by first | exact trivial | exact ⟨rfl, trivial⟩ | exact ⟨rfl, rfl, trivial⟩ | exact ⟨rfl, rfl, rfl, trivial⟩ | exact ⟨rfl, rfl, rfl, rfl, trivial⟩) (fun t h => by injection h with h; subst h; exact tl hn rfl) ?_
 | refine Lf 6 rfl (take1_am (gs 0) (Yy m b) ⟨1, ia, ib⟩ b (hs rfl) hb) rfl (by simp [AV.onlys, AV.only]) (by simp [AV.only, AV.onlys]) rfl rfl rfl (Q7 _ _ _ _) (Q7 _ _ _ _) rfl ⟨rfl, trivial⟩ (fun t h => by injection h with h; subst h; exact tl hn rfl) ?_
 | refine Lf 6 rfl (take2_am (gs 0) (Yy m b) ⟨_, ia, ib⟩ b) rfl (by simp [AV.onlys, AV.only]) (by simp [AV.only, AV.onlys]) rfl rfl rfl (Q7 _ _ _ _) (Q7 _ _ _ _) rfl ⟨rfl, trivial⟩ (fun t h => by injection h with h; subst h; exact tl hn rfl) ?_
 | refine Lf 6 rfl (take3_am (gs 0) (Yy m b) ⟨_, ia, ib⟩ b) rfl (by simp [AV.onlys, AV.only]) (by simp [AV.only, AV.onlys]) rfl rfl rfl (Q7 _ _ _ _) (Q7 _ _ _ _) rfl ⟨rfl, trivial⟩ (fun t h => by injection h with h; subst h; exact tl hn rfl) ?_
 | refine Lf 6 rfl (take4_am (gs 0) (Yy m b) ⟨_, ia, ib⟩ b) rfl (by simp [AV.onlys, AV.only]) (by simp [AV.only, AV.onlys]) rfl rfl rfl (Q7 _ _ _ _) (Q7 _ _ _ _) rfl ⟨rfl, trivial⟩ (fun t h => by injection h with h; subst h; exact tl hn rfl) ?_
 | refine Rk Zu hn rfl ?_
 | refine Rl ?_
 | refine Zc 30 rfl ?_
 | ((first | refine Zg hn rfl rfl rfl ?_ | refine Zm rfl rfl ?_); first
 | refine ⟨_, Yb rfl, ?_⟩
 | refine ⟨_, A3 rfl, ?_⟩
 | refine ⟨_, Xo, ?_⟩
 | refine ⟨_, Q0 (t := 48) rfl rfl (by simp) (by simp), ?_⟩
 | refine ⟨_, Yo (t := 49) rfl rfl rfl, ?_⟩
 | refine ⟨_, pu_neqNil (t := 51) Try.underlying1 rfl rfl, ?_⟩
 | refine ⟨_, Iy (t := 51) Try.underlying1 rfl rfl, ?_⟩)
 | (refine Rj 30 rfl ?_; first | refine Zp rfl ?_ | refine Zz rfl ?_ | ((first | refine Zd rfl ?_ ?_ | refine Ze rfl ?_ ?_); · first | omega | rfl | assumption | (simp only [lmT]; omega)) | ((first | refine Zf rfl ?_ ?_ | refine Za rfl ?_ ?_); · first | omega | rfl | assumption | (simp only [lmT]; omega)) )
 | refine Z1 rfl (tl hn rfl) ?_
 | refine Z6 (tl hn rfl) ?_
 | refine Z3 rfl rfl rfl rfl (nbT rfl) ?_
 | ((first | refine Zg hn rfl rfl rfl ?_ | refine Zm rfl rfl ?_); first
 | refine ⟨_, Zx rfl rfl (by omega), ?_⟩
 | refine ⟨_, Zb rfl rfl (by omega) (by assumption), ?_⟩
 | refine ⟨_, Z4 rfl rfl (by omega), ?_⟩
 | refine ⟨_, Zv rfl rfl rfl, ?_⟩
 | refine ⟨_, Z7 rfl rfl (by omega), ?_⟩
 | refine ⟨_, Zr rfl rfl rfl rfl rfl rfl, ?_⟩))
    all_goals refine Rj 30 rfl ?_
    all_goals first
      | (refine Vq (t := 0) rfl ((List.append_assoc _ _ _).trans (Xp ?_)) rfl
         simp [Qb]; done)
      | (refine Wg (t := 0) rfl (Xp ?_) rfl
         simp [Qb]; done)
set_option maxRecDepth 100000
set_option maxHeartbeats 16000000 in
theorem take_am15 (m : Mch) (i : Ins) (b : Int) (hm : Jc m) (h15 : i.op = 15) (hs : m.sums.length ≠ 0) : AM Try.prog 145 (mO m) [0] [.obj 0 0, .ro (.agg (Vr i)), .int b] (mO (Bh m i b)) (.tup []) := by
  refine Y1 Try.func145 rfl _ Try.ntmps145 (by simp) (by simp) fun C gs hn => ?_
  obtain ⟨op, ia, ib⟩ := i
  simp only at h15
  subst h15
  have hb := hm.2
  have hl : ((m.sums.map RV.int).map AV.ro).length = m.sums.length * 1 := by simp
  obtain ⟨z, hz⟩ : ∃ z, m.sums[m.sums.length - 1]? = some z := ⟨_, P9 (by omega)⟩
  have hz' : ((m.sums.map RV.int).map AV.ro)[((m.sums.length : Int) - 1).toNat * 1]? = some (.ro (.int z)) := by
    rw [show ((m.sums.length : Int) - 1).toNat * 1 = m.sums.length - 1 by omega]; simp [hz]
  have e1 : ((m.sums.map RV.int).map AV.ro).take (((m.sums.length : Int) - 1).toNat * 1) = ((m.sums.take (m.sums.length - 1)).map RV.int).map AV.ro := by
    rw [show ((m.sums.length : Int) - 1).toNat * 1 = m.sums.length - 1 by omega, List.map_take, List.map_take]
  have hm' : Jc { m with sums := m.sums.take (m.sums.length - 1) } := ⟨hm.1, by simp only [List.length_take]; omega⟩
  have hC := Om { m with sums := m.sums.take (m.sums.length - 1) } b hm'
  have hS := Ve (Yy { m with sums := m.sums.take (m.sums.length - 1) } b)
  have ht : Bh m ⟨15, ia, ib⟩ b = (if z ≠ b then Wh m 5 else Uh (Yy { m with sums := m.sums.take (m.sums.length - 1) } b)) := by
    unfold Bh; rw [if_pos rfl, hz]; simp [Qb]
  rw [ht]
  clear ht
  repeat' (first
 | refine Ha (id := 5) 30 9 Ym rfl (by kernel_rfl) (by kernel_rfl) ?_
 | refine RunsL.junk 0 3 rfl (I2 (i := 2) (n := m.sums.length) (q := (m.sums.length : Int) - 1) rfl rfl rfl rfl hl (by omega) (by omega) (by omega) (by repeat' (first | exact trivial | exact Vp _ _ | exact (by decide : (1 : Nat) ≠ 2) | exact (by decide : (0 : Nat) ≠ 2) | refine And.intro ?_ ?_)) (fun j v hj => W3 (Vp _ _) j v hj) (tl hn rfl) ?_)
 | refine Yg 3 (Y8 m 5) rfl (by simp [AV.onlys, AV.only]) (by simp [AV.only, AV.onlys]) rfl rfl rfl (Yd _) (Yd _) rfl (by first | exact trivial | exact ⟨rfl, trivial⟩ | exact ⟨rfl, rfl, trivial⟩ | exact ⟨rfl, rfl, rfl, trivial⟩ | exact ⟨rfl, rfl, rfl, rfl, trivial⟩) (fun t h => by injection h with h; subst h; exact tl hn rfl) ?_
 | refine Rk Zu hn rfl ?_
 | refine Rl ?_
 | refine Zc 30 rfl ?_
 | ((first | refine Zg hn rfl rfl rfl ?_ | refine Zm rfl rfl ?_); first
 | refine ⟨_, Yb rfl, ?_⟩
 | refine ⟨_, Yp (n := m.sums.length) rfl rfl hl, ?_⟩
 | refine ⟨_, Z4 rfl rfl (by omega), ?_⟩
 | refine ⟨_, Yl (n := m.sums.length) (sz := 1) rfl rfl rfl rfl hl (by omega) (by omega), ?_⟩
 | refine ⟨_, Yo rfl rfl hz', ?_⟩)
 | (refine Rj 30 rfl ?_; first | refine Zp rfl ?_ | refine Zz rfl ?_ | ((first | refine Zd rfl ?_ ?_ | refine Ze rfl ?_ ?_); · first | omega | rfl | assumption | (simp only [lmT]; omega)) | ((first | refine Zf rfl ?_ ?_ | refine Za rfl ?_ ?_); · first | omega | rfl | assumption | (simp only [lmT]; omega)) | refine Ye rfl (fun h => ?_) (fun h => ?_) )
 | refine Z1 rfl (tl hn rfl) ?_
 | refine Yc rfl rfl rfl rfl (nbT rfl) ?_
 | refine Z6 (tl hn rfl) ?_
 | refine Z3 rfl rfl rfl rfl (nbT rfl) ?_
 | refine Rm Zu hn rfl rfl ?_
 | refine Rn ?_
 | refine Z2 30 Ym hn rfl (by kernel_rfl) rfl ?_
 | ((first | refine Zg hn rfl rfl rfl ?_ | refine Zm rfl rfl ?_); first
 | refine ⟨_, Zx rfl rfl (by omega), ?_⟩
 | refine ⟨_, Zb rfl rfl (by omega) (by assumption), ?_⟩
 | refine ⟨_, Z4 rfl rfl (by omega), ?_⟩
 | refine ⟨_, Zv rfl rfl rfl, ?_⟩
 | refine ⟨_, Z7 rfl rfl (by omega), ?_⟩
 | refine ⟨_, Zr rfl rfl rfl rfl rfl rfl, ?_⟩))
  · refine Rj 30 rfl ?_
    refine Vq (t := 0) rfl (Xp ?_) rfl
    rw [if_pos (by assumption)]
  · rw [e1]
    repeat' (first
 | refine Yg 3 (hC) rfl (by simp [AV.onlys, AV.only]) (by simp [AV.only, AV.onlys]) rfl rfl rfl (Yd _) (Yd _) rfl (by first | exact trivial | exact ⟨rfl, trivial⟩ | exact ⟨rfl, rfl, trivial⟩ | exact ⟨rfl, rfl, rfl, trivial⟩ | exact ⟨rfl, rfl, rfl, rfl, trivial⟩) (fun t h => by injection h with h; subst h; exact tl hn rfl) ?_
 | refine Yg 3 (hS) rfl (by simp [AV.onlys, AV.only]) (by simp [AV.only, AV.onlys]) rfl rfl rfl (Yd _) (Yd _) rfl (by first | exact trivial | exact ⟨rfl, trivial⟩ | exact ⟨rfl, rfl, trivial⟩ | exact ⟨rfl, rfl, rfl, trivial⟩ | exact ⟨rfl, rfl, rfl, rfl, trivial⟩) (fun t h => by injection h with h; subst h; exact tl hn rfl) ?_
 | refine Rk Zu hn rfl ?_
 | refine Rl ?_
 | refine Zc 30 rfl ?_
 | ((first | refine Zg hn rfl rfl rfl ?_ | refine Zm rfl rfl ?_); first
 | refine ⟨_, Yb rfl, ?_⟩
 | refine ⟨_, A3 rfl, ?_⟩
 | refine ⟨_, Xo, ?_⟩
 | refine ⟨_, Q0 (t := 48) rfl rfl (by simp) (by simp), ?_⟩
 | refine ⟨_, Yo (t := 49) rfl rfl rfl, ?_⟩
 | refine ⟨_, Iy (t := 51) Try.underlying1 rfl rfl, ?_⟩)
 | (refine Rj 30 rfl ?_; first | refine Zp rfl ?_ | refine Zz rfl ?_ | ((first | refine Zd rfl ?_ ?_ | refine Ze rfl ?_ ?_); · first | omega | rfl | assumption | (simp only [lmT]; omega)) | ((first | refine Zf rfl ?_ ?_ | refine Za rfl ?_ ?_); · first | omega | rfl | assumption | (simp only [lmT]; omega)) | refine Ye rfl (fun h => ?_) (fun h => ?_) )
 | refine Z1 rfl (tl hn rfl) ?_
 | refine Yc rfl rfl rfl rfl (nbT rfl) ?_
 | refine Z6 (tl hn rfl) ?_
 | refine Z3 rfl rfl rfl rfl (nbT rfl) ?_
 | refine Rm Zu hn rfl rfl ?_
 | refine Rn ?_
 | refine Z2 30 Ym hn rfl (by kernel_rfl) rfl ?_
 | ((first | refine Zg hn rfl rfl rfl ?_ | refine Zm rfl rfl ?_); first
 | refine ⟨_, Zx rfl rfl (by omega), ?_⟩
 | refine ⟨_, Zb rfl rfl (by omega) (by assumption), ?_⟩
 | refine ⟨_, Z4 rfl rfl (by omega), ?_⟩
 | refine ⟨_, Zv rfl rfl rfl, ?_⟩
 | refine ⟨_, Z7 rfl rfl (by omega), ?_⟩
 | refine ⟨_, Zr rfl rfl rfl rfl rfl rfl, ?_⟩))
    refine Rj 30 rfl ?_
    refine Wg (t := 0) rfl (Xp ?_) rfl
    rw [if_neg (by simp [*])]
theorem take_am (m : Mch) (i : Ins) (b : Int) (hm : Jc m) (ho : 0 ≤ i.op ∧ i.op ≤ 17) (hb : 0 ≤ b ∧ b ≤ 255) (h1 : i.op = 1 → 1 ≤ m.left ∧ m.left ≤ i.a ∧ i.a ≤ 4) (hs : i.op = 15 → m.sums.length ≠ 0) : AM Try.prog 145 (mO m) [0] [.obj 0 0, .ro (.agg (Vr i)), .int b] (mO (Bh m i b)) (.tup []) := by
  by_cases h : i.op = 15
  · exact take_am15 m i b hm h (hs h)
  · exact take_amN m i b hm ho h hb h1
set_option maxRecDepth 100000
set_option maxHeartbeats 16000000 in
theorem feed_am (p : Prg) (f : Bool) (m : Mch) (b : Int) (hm : Jc m) (hc : p.code.length ≤ 4194304) (hf : f = true → ∀ (k : Nat) x, p.code[k]? = some x → Mq x) (hb : 0 ≤ b ∧ b ≤ 255) : AM Try.prog 102 (mO m) [0] [.obj 0 0, .ro (E8 p), .bool f, .int b] (mO (Hz p f m b)) (.tup []) := by
  refine Y1 Try.func102 rfl _ Try.ntmps102 (by simp) (by simp) fun C gs hn => ?_
  have hlc : (p.code.map Vr).length = p.code.length := lmT ..
  have hA := Pz p f m hm hc
  have hL := mAdv_len (p := p) (f := f) hm
  have hI := fun h => mAdv_idx (p := p) (f := f) (m := m) h
  have hF : Hz p f m b = (if (Mj p f m).state = 1 then Wh (Mj p f m) 7 else if (Mj p f m).state ≠ 0 then Mj p f m else mByte p (Mj p f m) b) := rfl
  rw [hF]
  clear hF
  generalize Mj p f m = q at hA hL hI ⊢
  by_cases h1 : q.state = 1
  · repeat' (first
 | refine Yg 3 (hA) rfl (by simp [AV.onlys, AV.only]) (by simp [AV.only, AV.onlys]) rfl rfl rfl (Yd _) (Yd _) rfl (by first | exact trivial | exact ⟨rfl, trivial⟩ | exact ⟨rfl, rfl, trivial⟩ | exact ⟨rfl, rfl, rfl, trivial⟩ | exact ⟨rfl, rfl, rfl, rfl, trivial⟩) (fun t h => by injection h with h; subst h; exact tl hn rfl) ?_
 | refine Yg 3 (Y8 q 7) rfl (by simp [AV.onlys, AV.only]) (by simp [AV.only, AV.onlys]) rfl rfl rfl (Yd _) (Yd _) rfl (by first | exact trivial | exact ⟨rfl, trivial⟩ | exact ⟨rfl, rfl, trivial⟩ | exact ⟨rfl, rfl, rfl, trivial⟩ | exact ⟨rfl, rfl, rfl, rfl, trivial⟩) (fun t h => by injection h with h; subst h; exact tl hn rfl) ?_
 | refine Rk Zu hn rfl ?_
 | refine Rl ?_
 | refine Zc 30 rfl ?_
 | ((first | refine Zg hn rfl rfl rfl ?_ | refine Zm rfl rfl ?_); first
 | refine ⟨_, Yb rfl, ?_⟩)
 | (refine Rj 30 rfl ?_; first | refine Zp rfl ?_ | refine Zz rfl ?_ | ((first | refine Zd rfl ?_ ?_ | refine Ze rfl ?_ ?_); · first | omega | rfl | assumption | (simp only [lmT]; omega)) | ((first | refine Zf rfl ?_ ?_ | refine Za rfl ?_ ?_); · first | omega | rfl | assumption | (simp only [lmT]; omega)) )
 | refine Z1 rfl (tl hn rfl) ?_
 | refine Z3 rfl rfl rfl rfl (nbT rfl) ?_
 | refine Rm Zu hn rfl rfl ?_
 | refine Rn ?_
 | refine Z2 30 Ym hn rfl (by kernel_rfl) rfl ?_
 | ((first | refine Zg hn rfl rfl rfl ?_ | refine Zm rfl rfl ?_); first
 | refine ⟨_, Zx rfl rfl (by omega), ?_⟩
 | refine ⟨_, Zb rfl rfl (by omega) (by assumption), ?_⟩
 | refine ⟨_, Z4 rfl rfl (by omega), ?_⟩
 | refine ⟨_, Zv rfl rfl rfl, ?_⟩
 | refine ⟨_, Z7 rfl rfl (by omega), ?_⟩
 | refine ⟨_, Zr rfl rfl rfl rfl rfl rfl, ?_⟩)
 | ((first | refine Zi rfl rfl rfl ?_ ?_ | refine Zh rfl rfl rfl ?_ ?_ | refine Zk rfl rfl rfl ?_ ?_ | refine Zl rfl rfl rfl ?_ ?_ | refine Zo rfl rfl rfl ?_ ?_ | refine Zn rfl rfl rfl ?_ ?_ | refine Zq rfl rfl rfl ?_ ?_ | refine Zs rfl rfl rfl ?_ ?_) <;> intro h <;> try (exfalso; first | omega | contradiction | (simp only [lmT] at h; omega))))
    all_goals first
      | (exfalso; omega)
      | (refine Rj 30 rfl ?_
         refine Vq (t := 0) (more := [⟨62, 0, [.ro (Ul p.code), .ro (Xc p.entries)]⟩]) rfl (Xp ?_) rfl
         rw [if_pos h1])
  · by_cases h0 : q.state = 0
    · obtain ⟨hft, hst, hi⟩ := hI h0
      obtain ⟨x, hx⟩ : ∃ x, p.code[q.pc.toNat]? = some x := ⟨_, P9 (by unfold Idx at hi; omega)⟩
      have hxa : mAt p q = x := by unfold mAt; rw [hx]; rfl
      have hok := hf hft _ _ hx
      unfold Idx at hi
      have ho : 0 ≤ x.op ∧ x.op ≤ 17 := by have := hok.2.2.2.2.2; unfold InR at this; omega
      have ho1 : x.op = 1 → x.a ≤ 4 := fun h => by have := (hok.1 h).1; unfold InR at this; omega
      have hl : ((q.sums.map RV.int).map AV.ro).length = q.sums.length * 1 := by simp
      rw [if_neg h1, if_neg (by simp [h0])]
      unfold mByte
      rw [hxa]
      by_cases hbad : (x.op = 1 ∧ ¬ InR q.left 1 x.a) ∨ (x.op = 15 ∧ q.sums.length = 0)
      · rw [if_pos hbad]
        repeat' (first
 | refine Y2 (id := 6) 30 [] [0, 1, 2, 3, 4, 5, 6, 7, 8] 9 [(8, 59, [.int .i64 0, .int .i64 0, .int .i64 0])] Ym hn rfl (by kernel_rfl) rfl .nil (by decide) (by decide) (by decide) ?_
 | refine Yg 3 (hA) rfl (by simp [AV.onlys, AV.only]) (by simp [AV.only, AV.onlys]) rfl rfl rfl (Yd _) (Yd _) rfl (by first | exact trivial | exact ⟨rfl, trivial⟩ | exact ⟨rfl, rfl, trivial⟩ | exact ⟨rfl, rfl, rfl, trivial⟩ | exact ⟨rfl, rfl, rfl, rfl, trivial⟩) (fun t h => by injection h with h; subst h; exact tl hn rfl) ?_
 | refine Yg 3 (Y8 q 8) rfl (by simp [AV.onlys, AV.only]) (by simp [AV.only, AV.onlys]) rfl rfl rfl (Yd _) (Yd _) rfl (by first | exact trivial | exact ⟨rfl, trivial⟩ | exact ⟨rfl, rfl, trivial⟩ | exact ⟨rfl, rfl, rfl, trivial⟩ | exact ⟨rfl, rfl, rfl, rfl, trivial⟩) (fun t h => by injection h with h; subst h; exact tl hn rfl) ?_
 | refine RunsT.nil ?_
 | refine RunsT.step Zu rfl rfl (fun _ => rfl) (by decide) ?_
 | refine RunsT.pur (fun _ => Yb rfl) (by decide) rfl rfl ?_
 | refine RunsT.pur (fun _ => Zw (Yx _ _ _) rfl) (by decide) rfl rfl ?_
 | refine RunsT.pur (fun _ => Yp (n := q.sums.length) rfl rfl hl) (by decide) rfl rfl ?_
 | refine RunsT.pur (fun _ => Zb rfl rfl (by omega) (by assumption)) (by decide) rfl rfl ?_
 | refine RunsT.alloc (p := 0) rfl inferInstance ?_
 | refine RunsT.alloc (p := 1) rfl inferInstance ?_
 | refine Rk Zu hn rfl ?_
 | refine Rl ?_
 | refine Zc 30 rfl ?_
 | ((first | refine Zg hn rfl rfl rfl ?_ | refine Zm rfl rfl ?_); first
 | refine ⟨_, Yb rfl, ?_⟩
 | refine ⟨_, Zw (Yx _ _ _) rfl, ?_⟩
 | refine ⟨_, Yp (n := q.sums.length) rfl rfl hl, ?_⟩)
 | (refine Rj 30 rfl ?_; first | refine Zp rfl ?_ | refine Zz rfl ?_ | ((first | refine Zd rfl ?_ ?_ | refine Ze rfl ?_ ?_); · first | omega | rfl | assumption | (simp only [lmT]; omega)) | ((first | refine Zf rfl ?_ ?_ | refine Za rfl ?_ ?_); · first | omega | rfl | assumption | (simp only [lmT]; omega)) )
 | refine Z1 rfl (tl hn rfl) ?_
 | refine Z3 rfl rfl rfl rfl (nbT rfl) ?_
 | refine Rm Zu hn rfl rfl ?_
 | refine Rn ?_
 | refine Z2 30 Ym hn rfl (by kernel_rfl) rfl ?_
 | ((first | refine Zg hn rfl rfl rfl ?_ | refine Zm rfl rfl ?_); first
 | refine ⟨_, Zx rfl rfl (by omega), ?_⟩
 | refine ⟨_, Zb rfl rfl (by omega) (by assumption), ?_⟩
 | refine ⟨_, Z4 rfl rfl (by omega), ?_⟩
 | refine ⟨_, Zv rfl rfl rfl, ?_⟩
 | refine ⟨_, Z7 rfl rfl (by omega), ?_⟩
 | refine ⟨_, Zr rfl rfl rfl rfl rfl rfl, ?_⟩)
 | ((first | refine Zi rfl rfl rfl ?_ ?_ | refine Zh rfl rfl rfl ?_ ?_ | refine Zk rfl rfl rfl ?_ ?_ | refine Zl rfl rfl rfl ?_ ?_ | refine Zo rfl rfl rfl ?_ ?_ | refine Zn rfl rfl rfl ?_ ?_ | refine Zq rfl rfl rfl ?_ ?_ | refine Zs rfl rfl rfl ?_ ?_) <;> intro h <;> try (exfalso; first | omega | contradiction | (simp only [lmT] at h; omega))))
        all_goals first
          | (exfalso; first | omega | (unfold InR at *; omega))
          | (refine Rj 30 rfl ?_
             refine Vq (t := 0) (more := [⟨62, 0, [.ro (Ul p.code), .ro (Xc p.entries)]⟩, ⟨59, 0, (Vr x).map .ro⟩]) rfl (Xp rfl) rfl)
      · rw [if_neg hbad]
        have hT := take_am q x b hL ho hb (fun h => ⟨by unfold InR at hbad; omega, by unfold InR at hbad; omega, ho1 h⟩) (fun h h' => hbad (.inr ⟨h, h'⟩))
        repeat' (first
 | refine Y2 (id := 6) 30 [] [0, 1, 2, 3, 4, 5, 6, 7, 8] 9 [(8, 59, [.int .i64 0, .int .i64 0, .int .i64 0])] Ym hn rfl (by kernel_rfl) rfl .nil (by decide) (by decide) (by decide) ?_
 | refine Yg 3 (hA) rfl (by simp [AV.onlys, AV.only]) (by simp [AV.only, AV.onlys]) rfl rfl rfl (Yd _) (Yd _) rfl (by first | exact trivial | exact ⟨rfl, trivial⟩ | exact ⟨rfl, rfl, trivial⟩ | exact ⟨rfl, rfl, rfl, trivial⟩ | exact ⟨rfl, rfl, rfl, rfl, trivial⟩) (fun t h => by injection h with h; subst h; exact tl hn rfl) ?_
 | refine Yg 3 (hT) rfl (by simp [AV.onlys, AV.only]) (by simp [AV.only, AV.onlys]) rfl rfl rfl (Yd _) (Yd _) rfl (by first | exact trivial | exact ⟨rfl, trivial⟩ | exact ⟨rfl, rfl, trivial⟩ | exact ⟨rfl, rfl, rfl, trivial⟩ | exact ⟨rfl, rfl, rfl, rfl, trivial⟩) (fun t h => by injection h with h; subst h; exact tl hn rfl) ?_
 | refine RunsT.nil ?_
 | refine RunsT.step Zu rfl rfl (fun _ => rfl) (by decide) ?_
 | refine RunsT.pur (fun _ => Yb rfl) (by decide) rfl rfl ?_
 | refine RunsT.pur (fun _ => Zw (Yx _ _ _) rfl) (by decide) rfl rfl ?_
 | refine RunsT.pur (fun _ => Yp (n := q.sums.length) rfl rfl hl) (by decide) rfl rfl ?_
 | refine RunsT.pur (fun _ => Zb rfl rfl (by omega) (by assumption)) (by decide) rfl rfl ?_
 | refine RunsT.alloc (p := 0) rfl inferInstance ?_
 | refine RunsT.alloc (p := 1) rfl inferInstance ?_
 | refine Rk Zu hn rfl ?_
 | refine Rl ?_
 | refine Zc 30 rfl ?_
 | ((first | refine Zg hn rfl rfl rfl ?_ | refine Zm rfl rfl ?_); first
 | refine ⟨_, Yb rfl, ?_⟩
 | refine ⟨_, Zw (Yx _ _ _) rfl, ?_⟩
 | refine ⟨_, Yp (n := q.sums.length) rfl rfl hl, ?_⟩)
 | (refine Rj 30 rfl ?_; first | refine Zp rfl ?_ | refine Zz rfl ?_ | ((first | refine Zd rfl ?_ ?_ | refine Ze rfl ?_ ?_); · first | omega | rfl | assumption | (simp only [lmT]; omega)) | ((first | refine Zf rfl ?_ ?_ | refine Za rfl ?_ ?_); · first | omega | rfl | assumption | (simp only [lmT]; omega)) )
 | refine Z1 rfl (tl hn rfl) ?_
 | refine Z3 rfl rfl rfl rfl (nbT rfl) ?_
 | refine Rm Zu hn rfl rfl ?_
 | refine Rn ?_
 | refine Z2 30 Ym hn rfl (by kernel_rfl) rfl ?_
 | ((first | refine Zg hn rfl rfl rfl ?_ | refine Zm rfl rfl ?_); first
 | refine ⟨_, Zx rfl rfl (by omega), ?_⟩
 | refine ⟨_, Zb rfl rfl (by omega) (by assumption), ?_⟩
 | refine ⟨_, Z4 rfl rfl (by omega), ?_⟩
 | refine ⟨_, Zv rfl rfl rfl, ?_⟩
 | refine ⟨_, Z7 rfl rfl (by omega), ?_⟩
 | refine ⟨_, Zr rfl rfl rfl rfl rfl rfl, ?_⟩)
 | ((first | refine Zi rfl rfl rfl ?_ ?_ | refine Zh rfl rfl rfl ?_ ?_ | refine Zk rfl rfl rfl ?_ ?_ | refine Zl rfl rfl rfl ?_ ?_ | refine Zo rfl rfl rfl ?_ ?_ | refine Zn rfl rfl rfl ?_ ?_ | refine Zq rfl rfl rfl ?_ ?_ | refine Zs rfl rfl rfl ?_ ?_) <;> intro h <;> try (exfalso; first | omega | contradiction | (simp only [lmT] at h; omega))))
        all_goals first
          | (exfalso; first | omega | (unfold InR at *; omega))
          | (refine Rj 30 rfl ?_
             refine Wg (t := 0) (more := [⟨62, 0, [.ro (Ul p.code), .ro (Xc p.entries)]⟩, ⟨59, 0, (Vr x).map .ro⟩]) rfl (Xp rfl) rfl)
    · repeat' (first
 | refine Yg 3 (hA) rfl (by simp [AV.onlys, AV.only]) (by simp [AV.only, AV.onlys]) rfl rfl rfl (Yd _) (Yd _) rfl (by first | exact trivial | exact ⟨rfl, trivial⟩ | exact ⟨rfl, rfl, trivial⟩ | exact ⟨rfl, rfl, rfl, trivial⟩ | exact ⟨rfl, rfl, rfl, rfl, trivial⟩) (fun t h => by injection h with h; subst h; exact tl hn rfl) ?_
 | refine Yg 3 (Y8 q 7) rfl (by simp [AV.onlys, AV.only]) (by simp [AV.only, AV.onlys]) rfl rfl rfl (Yd _) (Yd _) rfl (by first | exact trivial | exact ⟨rfl, trivial⟩ | exact ⟨rfl, rfl, trivial⟩ | exact ⟨rfl, rfl, rfl, trivial⟩ | exact ⟨rfl, rfl, rfl, rfl, trivial⟩) (fun t h => by injection h with h; subst h; exact tl hn rfl) ?_
 | refine Rk Zu hn rfl ?_
 | refine Rl ?_
 | refine Zc 30 rfl ?_
 | ((first | refine Zg hn rfl rfl rfl ?_ | refine Zm rfl rfl ?_); first
 | refine ⟨_, Yb rfl, ?_⟩)
 | (refine Rj 30 rfl ?_; first | refine Zp rfl ?_ | refine Zz rfl ?_ | ((first | refine Zd rfl ?_ ?_ | refine Ze rfl ?_ ?_); · first | omega | rfl | assumption | (simp only [lmT]; omega)) | ((first | refine Zf rfl ?_ ?_ | refine Za rfl ?_ ?_); · first | omega | rfl | assumption | (simp only [lmT]; omega)) )
 | refine Z1 rfl (tl hn rfl) ?_
 | refine Z3 rfl rfl rfl rfl (nbT rfl) ?_
 | refine Rm Zu hn rfl rfl ?_
 | refine Rn ?_
 | refine Z2 30 Ym hn rfl (by kernel_rfl) rfl ?_
 | ((first | refine Zg hn rfl rfl rfl ?_ | refine Zm rfl rfl ?_); first
 | refine ⟨_, Zx rfl rfl (by omega), ?_⟩
 | refine ⟨_, Zb rfl rfl (by omega) (by assumption), ?_⟩
 | refine ⟨_, Z4 rfl rfl (by omega), ?_⟩
 | refine ⟨_, Zv rfl rfl rfl, ?_⟩
 | refine ⟨_, Z7 rfl rfl (by omega), ?_⟩
 | refine ⟨_, Zr rfl rfl rfl rfl rfl rfl, ?_⟩)
 | ((first | refine Zi rfl rfl rfl ?_ ?_ | refine Zh rfl rfl rfl ?_ ?_ | refine Zk rfl rfl rfl ?_ ?_ | refine Zl rfl rfl rfl ?_ ?_ | refine Zo rfl rfl rfl ?_ ?_ | refine Zn rfl rfl rfl ?_ ?_ | refine Zq rfl rfl rfl ?_ ?_ | refine Zs rfl rfl rfl ?_ ?_) <;> intro h <;> try (exfalso; first | omega | contradiction | (simp only [lmT] at h; omega))))
      all_goals first
        | (exfalso; omega)
        | (refine Rj 30 rfl ?_
           refine Vq (t := 0) (more := [⟨62, 0, [.ro (Ul p.code), .ro (Xc p.entries)]⟩]) rfl (Xp ?_) rfl
           rw [if_neg h1, if_pos h0])
set_option maxRecDepth 100000
def mC (m : Mch) (a b : Nat) : List AV := [.int m.pc, .int m.register, .own a, .own b, .int m.left, .bool m.started, .bool m.escaped, .int m.state, .int m.code, .int m.read]
def Hf (l : List Int) : Ob := ⟨3, 1, (l.map RV.int).map .ro⟩
def Ga (m : Mch) : RR := .agg [.ro (.int m.pc), .ro (.int m.register), .row 3 1 (m.stack.map RV.int), .row 3 1 (m.sums.map RV.int), .ro (.int m.left), .ro (.bool m.started), .ro (.bool m.escaped), .ro (.int m.state), .ro (.int m.code), .ro (.int m.read)]
theorem seals_mch (m : Mch) : Seals (Ga m) (mchR m) := by
  have h1 := Eu 3 m.stack
  have h2 := Eu 3 m.sums
  unfold Ga mchR
  generalize (RR.row 3 1 (m.stack.map RV.int)) = r1 at h1 ⊢
  generalize (RR.row 3 1 (m.sums.map RV.int)) = r2 at h2 ⊢
  simp only [Seals, X3]
  exact ⟨_, rfl, _, _, rfl, rfl, _, _, rfl, rfl, _, _, rfl, h1, _, _, rfl, h2, _, _, rfl, rfl, _, _, rfl, rfl, _, _, rfl, rfl, _, _, rfl, rfl, _, _, rfl, rfl, _, _, rfl, rfl, rfl⟩
theorem D7 (r : Nat → Nat) : ∀ rs : List RV, Y0 r (rs.map .ro) = rs.map .ro
  | [] => rfl
  | x :: xs => by simp only [List.map_cons, Y0, AV.ren, D7 r xs]
theorem Aq (l : List Int) : (⟨3, 1, (([] : List RV) ++ (l.map fun z => [RV.int z]).flatten).map .ro⟩ : Ob) = Hf l := by
  unfold Hf
  congr 2
  induction l with
  | nil => rfl
  | cons x l ih => simpa using ih
theorem Ai : ∀ rs : List RV, (rs.map AV.ro).map unpin = rs.map .ro
  | [] => rfl
  | x :: xs => by simp only [List.map_cons, unpin, Ai xs]
section
variable {P : Program} {C : Ctx} {fn : Func} {ops : Array Oper} {rest : List Oper} {k : List Item} {env : Env} {σ : List Ob} {t : Nat} {ty : TypeId} {pos : String} {after : Array Edge}
theorem harv_mch {m : Mch} {a b : Nat} (h1 : σ[a]? = some (Hf m.stack)) (h2 : σ[b]? = some (Hf m.sums)) : Qq σ (Ga m) (.agg (mC m a b)) [a, b] := by
  simp only [Ga, mC, Qq, Vk, Hf] at *
  exact ⟨_, rfl, _, _, [], _, rfl, rfl, ⟨rfl, rfl⟩, _, _, [], _, rfl, rfl, ⟨rfl, rfl⟩, _, _, [a], [b], rfl, rfl, ⟨a, rfl, h1, rfl⟩, _, _, [b], [], rfl, rfl, ⟨b, rfl, h2, rfl⟩, _, _, [], _, rfl, rfl, ⟨rfl, rfl⟩, _, _, [], _, rfl, rfl, ⟨rfl, rfl⟩, _, _, [], _, rfl, rfl, ⟨rfl, rfl⟩, _, _, [], _, rfl, rfl, ⟨rfl, rfl⟩, _, _, [], _, rfl, rfl, ⟨rfl, rfl⟩, _, _, [], _, rfl, rfl, ⟨rfl, rfl⟩, rfl, rfl⟩
theorem resV_mch {p i a b : Nat} {m : Mch} {tt tt' : TypeId} [TN P tt 10] (hp : look env p = .obj i 0) (hi : σ[i]? = some ⟨tt', 0, mC m a b⟩) : Hb P ⟨env, σ⟩ (.cell p tt) (.agg (mC m a b)) := by
  simp only [Hb]
  exact ⟨i, 0, _, hp, hi, .inr ⟨10, inferInstance, Nat.le_refl _, rfl⟩⟩
theorem Bt {R : RR → Prop} {p i a b : Nat} {m : Mch} {tt tt' : TypeId} [TN P tt 10] (hm : ∀ b, ¬ C.mu b) (hr : fn.results = #[.cell p tt]) (hp : look env p = .obj i 0) (hi : σ[i]? = some ⟨tt', 0, mC m a b⟩) (h1 : σ[a]? = some (Hf m.stack)) (h2 : σ[b]? = some (Hf m.sums)) (hab : a ≠ b) (hR : R (Ga m)) :
    ∀ ac w, Sim C ⟨env, σ⟩ ac w → P6 P C fn R ac w :=
  ends1 hm hr _ (resV_mch hp hi) (Ga m) [a, b] (harv_mch h1 h2) (by simp [hab]) hR
variable {R : Act → World → Prop}
theorem Pe {f : FuncId} {fn : Func} {xs : Array Operand} {ats : Array TypeId} {m m' : Mch} {rs : List RV} {d : Option Nat} [hfn : FN P f fn] (i a b : Nat) (hf : AM P f (mO m) [0] (.obj 0 0 :: rs.map .ro) (mO m') (.tup [])) (ha : xs.toList.map (ev env) = .obj i 0 :: rs.map .ro)
    (hi : σ[i]? = some ⟨74, 0, mC m a b⟩) (h1 : σ[a]? = some (Hf m.stack)) (h2 : σ[b]? = some (Hf m.sums)) (hne : i ≠ a ∧ i ≠ b ∧ a ≠ b) (hfree : FreeR [i, a, b] [0] 0 σ) (ht : ∀ t, d = some t → t < C.n)
    (hk : RunsL P C ops rest k R ⟨Lb d (.tup []) (Jf (Wc [i, a, b]) (O2 [i, a, b] [0]) env), ((σ.set i ⟨74, 0, mC m' a b⟩).set a (Hf m'.stack)).set b (Hf m'.sums)⟩) :
    RunsL P C ops (⟨d, .call { callee := .value (.func f), args := xs, argTypes := ats }, ty, pos, after, none⟩ :: rest) k R ⟨env, σ⟩ := by
  have il := (P8.1 hi).1
  have al := (P8.1 h1).1
  have bl := (P8.1 h2).1
  have eM : ∀ m : Mch, (⟨74, 0, mC m 1 2⟩ : Ob).ren (rof [i, a, b]) = ⟨74, 0, mC m a b⟩ := fun m => rfl
  have eR : ∀ l : List Int, (Hf l).ren (rof [i, a, b]) = Hf l := fun l => by unfold Hf Ob.ren; simp only [D7]
  have eO : ∀ m : Mch, mO m = [⟨74, 0, mC m 1 2⟩, Hf m.stack, Hf m.sums] := fun m => rfl
  refine Bf (σ0 := mO m) (σ1 := mO m') [i, a, b] hf ?_ ?_ ?_ ht ?_
  · rw [ha, List.map_cons, Ai]
    simp only [Y0, AV.ren, D7, unpin]
    rfl
  · simp only [AV.onlys, AV.only]
    exact ⟨by simp [mO], Vp _ _⟩
  · refine ⟨rfl, rfl, ?_, ?_, ?_, Yd m, rfl, hfree⟩
    · simp only [List.all_cons, List.all_nil, Bool.and_eq_true]
      exact ⟨Nat.ble_eq_true_of_le il, Nat.ble_eq_true_of_le al, Nat.ble_eq_true_of_le bl, trivial⟩
    · simp [hne]
    · rw [eO]
      simp only [LentAt]
      refine ⟨?_, ?_, ?_, trivial⟩
      · rw [eM]; exact hi
      · rw [eR]; exact h1
      · rw [eR]; exact h2
  · rw [eO m']
    simp only [We, eM, eR]
    exact hk
end
set_option maxHeartbeats 4000000 in
theorem Jj (m : Mch) (hm : Jc m) : AC Try.prog 101 [mchR m] fun rr => rr = Ga m := by
  have h1 := hm.1
  have h2 := hm.2
  refine Yh Try.func101 rfl _ Try.ntmps101 (by simp) fun C hn hm => ?_
  repeat' (first
 | refine Rk Zu hn rfl ?_
 | refine Rl ?_
 | refine Zc 30 rfl ?_
 | refine Xl (tl hn rfl) ?_
 | refine V7 rfl rfl rfl rfl rfl rfl (by repeat' (first | exact trivial | exact Vp _ _ | exact (by decide : (2 : Nat) ≠ 3) | refine And.intro ?_ ?_)) (by simp; omega) rfl (tl hn rfl) ?_
 | (refine Rj 30 rfl ?_; first | ((first | refine Zd rfl ?_ ?_ | refine Ze rfl ?_ ?_); · first | omega | rfl | assumption | (simp only [lmT]; omega)) | ((first | refine Zf rfl ?_ ?_ | refine Za rfl ?_ ?_); · first | omega | rfl | assumption | (simp only [lmT]; omega)) | refine Ri (Zt hm rfl rfl ?_) | exact Ri (Zj hm rfl rfl rfl (nbT rfl) rfl rfl))
 | refine Z1 rfl (tl hn rfl) ?_
 | refine Yc rfl rfl rfl rfl (nbT rfl) ?_
 | refine Z6 (tl hn rfl) ?_
 | refine Z3 rfl rfl rfl rfl (nbT rfl) ?_
    )
  refine Rj 30 rfl ?_
  exact Ri (Bt (i := 1) (a := 2) (b := 3) hm rfl rfl rfl (congrArg some (Aq m.stack)) (congrArg some (Aq m.sums)) (by decide) rfl)
theorem fitsOk {p : Prg} {f : Bool} (h : f = decide (Kq p ∧ need p ≤ 60)) (hf : f = true) : ∀ (k : Nat) x, p.code[k]? = some x → Mq x := fun k x hx => by
  subst h
  have hS := (of_decide_eq_true hf).1
  have hk := (P8.1 hx).1
  exact ((V6 (p := p) (i := (k : Int)) (by simpa using hx)).1 (hS.1.ins k hk)).2.1
noncomputable def fitB (p : Prg) : Bool := decide (Kq p ∧ need p ≤ 60)
instance tb_mch : TB Try.prog 74 [(0, 1), (1, 1), (2, 1), (3, 1), (4, 1), (5, 1), (6, 1), (7, 1), (8, 1), (9, 1)] [.int .i64 0, .int .i64 0, .slice none 0 0, .slice none 0 0, .int .i64 0, .bool false, .bool false, .int .i64 0, .int .i64 0, .int .i64 0] := ⟨_, _, _, rfl, rfl, rfl, rfl, by kernel_rfl, by decide⟩
theorem Tp : ACv Try.prog 44 [] (mchR m0) := by
  refine Yh Try.func44 rfl _ Try.ntmps44 (by simp) fun C hn hm => ?_
  repeat' (first
 | refine Rl ?_
 | refine Zc 30 rfl ?_
 | (refine Zg hn rfl rfl rfl ?_; first
 | refine ⟨_, Yj rfl, ?_⟩)
 | (refine Rj 30 rfl ?_; first | ((first | refine Zd rfl ?_ ?_ | refine Ze rfl ?_ ?_); · first | omega | rfl | assumption | (simp only [lmT]; omega)) | ((first | refine Zf rfl ?_ ?_ | refine Za rfl ?_ ?_); · first | omega | rfl | assumption | (simp only [lmT]; omega)) | refine Ri (Zt hm rfl rfl ?_) | exact Ri (Zj hm rfl rfl rfl (nbT rfl) rfl rfl))
 | refine Z6 (tl hn rfl) ?_
 | refine Z3 rfl rfl rfl rfl (nbT rfl) ?_
    )
  refine Rj 30 rfl ?_
  refine Ri (Gt (r := mchR m0) hm rfl (v := .agg ([.int 0, .int 0, .nil, .nil, .int 0, .bool false, .bool false, .int 0, .int 0, .int 0] : List AV)) ?_ rfl ?_)
  · simp only [Hb]
    exact ⟨0, 0, _, rfl, rfl, .inr ⟨10, inferInstance, Nat.le_refl _, rfl⟩⟩
  · exact Lends.agg (.cons .ro (.cons .ro (.cons (Lends.nil 1) (.cons (Lends.nil 1) (.cons .ro (.cons .ro (.cons .ro (.cons .ro (.cons .ro (.cons .ro .nil))))))))))
def Gd (p : Prg) (f : Bool) (m : Mch) (b : Int) : Mch := if InR b 0 255 then Hz p f m b else m
set_option maxHeartbeats 8000000 in
theorem Bm (p : Prg) (m : Mch) (b : Int) (hB : PrgB p) (hm0 : Jc m) : AC Try.prog 45 [E8 p, mchR m, .int b] fun rr => rr = Ga (Gd p (fitB p) m b) := by
  have hF := Mx p hB
  have hc := hB.code
  unfold Gd
  refine Yh Try.func45 rfl _ Try.ntmps45 (by simp) fun C hn hm => ?_
  by_cases hb : InR b 0 255
  · have hA := feed_am p (fitB p) m b hm0 (by omega) (fitsOk rfl) hb
    rw [if_pos hb]
    repeat' (first
 | refine Y2 (id := 3) 30 [] [0, 1, 2, 3] 4 [] Ym hn rfl (by kernel_rfl) rfl .nil (by decide) (by decide) (by decide) ?_
 | refine U9 (Jj m hm0) rfl (tl hn rfl) ?_
 | refine Pe (rs := [E8 p, .bool (fitB p), .int b]) 5 3 4 hA rfl rfl rfl rfl (by decide) (by repeat' (first | exact trivial | exact .inl rfl | exact .inr rfl | refine And.intro ?_ ?_)) (fun t h => by injection h with h; subst h; exact tl hn rfl) ?_
 | refine RunsT.nil ?_
 | refine RunsT.step Zu rfl rfl (fun _ => rfl) (by decide) ?_
 | refine RunsT.pur (fun _ => Zw hF rfl) (by decide) rfl rfl ?_
 | refine RunsT.pur (fun _ => Zw (Yx _ _ _) rfl) (by decide) rfl rfl ?_
 | refine Rk Zu hn rfl ?_
 | refine Rl ?_
 | refine Zc 30 rfl ?_
 | ((first | refine Zg hn rfl rfl rfl ?_ | refine Zm rfl rfl ?_); first
 | refine ⟨_, Zw hF rfl, ?_⟩
 | refine ⟨_, Zw (Yx _ _ _) rfl, ?_⟩)
 | (refine Rj 30 rfl ?_; first | ((first | refine Zd rfl ?_ ?_ | refine Ze rfl ?_ ?_); · first | omega | rfl | assumption | (simp only [lmT]; omega)) | ((first | refine Zf rfl ?_ ?_ | refine Za rfl ?_ ?_); · first | omega | rfl | assumption | (simp only [lmT]; omega)) | refine Ri (Zt hm rfl rfl ?_) | exact Ri (Zj hm rfl rfl rfl (nbT rfl) rfl rfl))
 | refine Z1 rfl (tl hn rfl) ?_
 | refine Z6 (tl hn rfl) ?_
 | refine Z3 rfl rfl rfl rfl (nbT rfl) ?_
 | ((first | refine Zg hn rfl rfl rfl ?_ | refine Zm rfl rfl ?_); first
 | refine ⟨_, Zx rfl rfl (by omega), ?_⟩
 | refine ⟨_, Zb rfl rfl (by omega) (by assumption), ?_⟩
 | refine ⟨_, Z4 rfl rfl (by omega), ?_⟩
 | refine ⟨_, Zv rfl rfl rfl, ?_⟩
 | refine ⟨_, Z7 rfl rfl (by omega), ?_⟩
 | refine ⟨_, Zr rfl rfl rfl rfl rfl rfl, ?_⟩))
    refine Rj 30 rfl ?_
    exact Ri (Bt (i := 2) (a := 3) (b := 4) hm rfl rfl rfl rfl rfl (by decide) rfl)
  · rw [if_neg hb]
    repeat' (first
 | refine U9 (Jj m hm0) rfl (tl hn rfl) ?_
 | refine Rk Zu hn rfl ?_
 | refine Rl ?_
 | refine Zc 30 rfl ?_
 | ((first | refine Zg hn rfl rfl rfl ?_ | refine Zm rfl rfl ?_); first
 | refine ⟨_, Zw (Yx _ _ _) rfl, ?_⟩)
 | (refine Rj 30 rfl ?_; first | ((first | refine Zd rfl ?_ ?_ | refine Ze rfl ?_ ?_); · first | omega | rfl | assumption | (simp only [lmT]; omega)) | ((first | refine Zf rfl ?_ ?_ | refine Za rfl ?_ ?_); · first | omega | rfl | assumption | (simp only [lmT]; omega)) | refine Ri (Zt hm rfl rfl ?_) | exact Ri (Zj hm rfl rfl rfl (nbT rfl) rfl rfl))
 | refine Z1 rfl (tl hn rfl) ?_
 | refine Z6 (tl hn rfl) ?_
 | refine Z3 rfl rfl rfl rfl (nbT rfl) ?_
 | ((first | refine Zg hn rfl rfl rfl ?_ | refine Zm rfl rfl ?_); first
 | refine ⟨_, Zx rfl rfl (by omega), ?_⟩
 | refine ⟨_, Zb rfl rfl (by omega) (by assumption), ?_⟩
 | refine ⟨_, Z4 rfl rfl (by omega), ?_⟩
 | refine ⟨_, Zv rfl rfl rfl, ?_⟩
 | refine ⟨_, Z7 rfl rfl (by omega), ?_⟩
 | refine ⟨_, Zr rfl rfl rfl rfl rfl rfl, ?_⟩))
    refine Rj 30 rfl ?_
    exact Ri (Bt (i := 2) (a := 3) (b := 4) hm rfl rfl rfl rfl rfl (by decide) rfl)
end Go.Proofs.Ytnecoghfhcimeaa
