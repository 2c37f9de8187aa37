/- Gathered texts. -/
import Derived.Test.YtnecoghfhcimeaaGat0
import Derived.Test.YtnecoghfhcimeaaGat1
import Derived.Test.YtnecoghfhcimeaaGat2
import Derived.Laws.Bits128
import Derived.Lib.ItoaNum
/- Kinds, rules and descriptions that are valid: the program's side; a rule of a valid description. -/
namespace Go.Proofs.Ytnecoghfhcimeaa
set_option linter.unusedSimpArgs false
set_option linter.unusedVariables false
open Go.RowKit
set_option maxHeartbeats 8000000 in
theorem Ah (d : Des) (r : Rul) (hl : d.length ≤ maxLen) (ht : r.tags.length ≤ 1048576) (hnl : r.names.length ≤ maxLen) (hns : ∀ s ∈ r.names, s.size ≤ maxLen) : ACv Try.prog 162 [W1 d, .agg (Ws r)] (.bool (decide (Qz d r))) := by
  have hseq := Ms r hnl hns
  have hcho := Eb d r hl ht
  have hlim := Qh d (r.kids.headD 0) hl
  refine Yh Try.func162 rfl _ Try.ntmps162 (by simp) fun C hn hm => ?_
  by_cases k1 : r.kind = 1
  · repeat' (first
 | refine Rk Zu hn rfl ?_
 | refine Rl ?_
 | refine Zc 30 rfl ?_
 | ((first | refine Zg hn rfl rfl rfl ?_ | refine Zm rfl rfl ?_); first
 | refine ⟨_, Zw (Ld r _) rfl, ?_⟩
 | refine ⟨_, Zw (Yx _ _ _) rfl, ?_⟩)
 | (refine Rj 30 rfl ?_; first | refine Zp rfl ?_ | ((first | refine Zd rfl ?_ ?_ | refine Ze rfl ?_ ?_); · first | omega | rfl | assumption | (simp only [lmT]; omega)) | ((first | refine Zf rfl ?_ ?_ | refine Za rfl ?_ ?_); · first | omega | rfl | assumption | (simp only [lmT]; omega)) | refine Ri (Zt hm rfl rfl ?_) | exact Ri (Zj hm rfl rfl rfl (nbT rfl) rfl rfl))
 | refine Z1 rfl (tl hn rfl) ?_
 | refine Rm Zu hn rfl rfl ?_
 | refine Rn ?_
 | refine Z2 30 Ym hn rfl (by kernel_rfl) rfl ?_
 | ((first | refine Zg hn rfl rfl rfl ?_ | refine Zm rfl rfl ?_); first
 | refine ⟨_, Zx rfl rfl (by omega), ?_⟩
 | refine ⟨_, Zb rfl rfl (by omega) (by assumption), ?_⟩
 | refine ⟨_, Z4 rfl rfl (by omega), ?_⟩
 | refine ⟨_, Zv rfl rfl rfl, ?_⟩
 | refine ⟨_, Z7 rfl rfl (by omega), ?_⟩
 | refine ⟨_, Zr rfl rfl rfl rfl rfl rfl, ?_⟩)
 | ((first | refine Zi rfl rfl rfl ?_ ?_ | refine Zh rfl rfl rfl ?_ ?_ | refine Zk rfl rfl rfl ?_ ?_ | refine Zl rfl rfl rfl ?_ ?_ | refine Zo rfl rfl rfl ?_ ?_ | refine Zn rfl rfl rfl ?_ ?_ | refine Zq rfl rfl rfl ?_ ?_ | refine Zs rfl rfl rfl ?_ ?_) <;> intro h <;> try (exfalso; first | omega | contradiction | (simp only [lmT] at h; omega))))
    all_goals exact Yf (by rw [Bool.eq_iff_iff]; simp [Qz, *])
  by_cases k2 : r.kind = 2
  · repeat' (first
 | refine Rk Zu hn rfl ?_
 | refine Rl ?_
 | refine Zc 30 rfl ?_
 | ((first | refine Zg hn rfl rfl rfl ?_ | refine Zm rfl rfl ?_); first
 | refine ⟨_, Zw (Qr r _) rfl, ?_⟩
 | refine ⟨_, Zw (Yx _ _ _) rfl, ?_⟩)
 | (refine Rj 30 rfl ?_; first | refine Zp rfl ?_ | ((first | refine Zd rfl ?_ ?_ | refine Ze rfl ?_ ?_); · first | omega | rfl | assumption | (simp only [lmT]; omega)) | ((first | refine Zf rfl ?_ ?_ | refine Za rfl ?_ ?_); · first | omega | rfl | assumption | (simp only [lmT]; omega)) | refine Ri (Zt hm rfl rfl ?_) | exact Ri (Zj hm rfl rfl rfl (nbT rfl) rfl rfl))
 | refine Z1 rfl (tl hn rfl) ?_
 | refine Rm Zu hn rfl rfl ?_
 | refine Rn ?_
 | refine Z2 30 Ym hn rfl (by kernel_rfl) rfl ?_
 | ((first | refine Zg hn rfl rfl rfl ?_ | refine Zm rfl rfl ?_); first
 | refine ⟨_, Zx rfl rfl (by omega), ?_⟩
 | refine ⟨_, Zb rfl rfl (by omega) (by assumption), ?_⟩
 | refine ⟨_, Z4 rfl rfl (by omega), ?_⟩
 | refine ⟨_, Zv rfl rfl rfl, ?_⟩
 | refine ⟨_, Z7 rfl rfl (by omega), ?_⟩
 | refine ⟨_, Zr rfl rfl rfl rfl rfl rfl, ?_⟩)
 | ((first | refine Zi rfl rfl rfl ?_ ?_ | refine Zh rfl rfl rfl ?_ ?_ | refine Zk rfl rfl rfl ?_ ?_ | refine Zl rfl rfl rfl ?_ ?_ | refine Zo rfl rfl rfl ?_ ?_ | refine Zn rfl rfl rfl ?_ ?_ | refine Zq rfl rfl rfl ?_ ?_ | refine Zs rfl rfl rfl ?_ ?_) <;> intro h <;> try (exfalso; first | omega | contradiction | (simp only [lmT] at h; omega))))
    all_goals exact Yf (by rw [Bool.eq_iff_iff]; simp [Qz, *])
  by_cases k3 : r.kind = 3
  · repeat' (first
 | refine Rk Zu hn rfl ?_
 | refine Rl ?_
 | refine Zc 30 rfl ?_
 | ((first | refine Zg hn rfl rfl rfl ?_ | refine Zm rfl rfl ?_); first
 | refine ⟨_, Zw (Ld r _) rfl, ?_⟩
 | refine ⟨_, Zw (Yx _ _ _) rfl, ?_⟩)
 | (refine Rj 30 rfl ?_; first | refine Zp rfl ?_ | ((first | refine Zd rfl ?_ ?_ | refine Ze rfl ?_ ?_); · first | omega | rfl | assumption | (simp only [lmT]; omega)) | ((first | refine Zf rfl ?_ ?_ | refine Za rfl ?_ ?_); · first | omega | rfl | assumption | (simp only [lmT]; omega)) | refine Ri (Zt hm rfl rfl ?_) | exact Ri (Zj hm rfl rfl rfl (nbT rfl) rfl rfl))
 | refine Z1 rfl (tl hn rfl) ?_
 | refine Rm Zu hn rfl rfl ?_
 | refine Rn ?_
 | refine Z2 30 Ym hn rfl (by kernel_rfl) rfl ?_
 | ((first | refine Zg hn rfl rfl rfl ?_ | refine Zm rfl rfl ?_); first
 | refine ⟨_, Zx rfl rfl (by omega), ?_⟩
 | refine ⟨_, Zb rfl rfl (by omega) (by assumption), ?_⟩
 | refine ⟨_, Z4 rfl rfl (by omega), ?_⟩
 | refine ⟨_, Zv rfl rfl rfl, ?_⟩
 | refine ⟨_, Z7 rfl rfl (by omega), ?_⟩
 | refine ⟨_, Zr rfl rfl rfl rfl rfl rfl, ?_⟩)
 | ((first | refine Zi rfl rfl rfl ?_ ?_ | refine Zh rfl rfl rfl ?_ ?_ | refine Zk rfl rfl rfl ?_ ?_ | refine Zl rfl rfl rfl ?_ ?_ | refine Zo rfl rfl rfl ?_ ?_ | refine Zn rfl rfl rfl ?_ ?_ | refine Zq rfl rfl rfl ?_ ?_ | refine Zs rfl rfl rfl ?_ ?_) <;> intro h <;> try (exfalso; first | omega | contradiction | (simp only [lmT] at h; omega))))
    all_goals exact Yf (by rw [Bool.eq_iff_iff]; simp [Qz, *])
  by_cases k4 : r.kind = 4
  · by_cases hS : Plain r false false false false 1
    · have hk0 := Bo (l := r.kids) (by have := hS.kids (by omega); omega)
      repeat' (first
 | refine Rk Zu hn rfl ?_
 | refine Rl ?_
 | refine Zc 30 rfl ?_
 | ((first | refine Zg hn rfl rfl rfl ?_ | refine Zm rfl rfl ?_); first
 | refine ⟨_, Zw (Wp r _) rfl, ?_⟩
 | refine ⟨_, Zw hlim rfl, ?_⟩)
 | (refine Rj 30 rfl ?_; first | refine Zp rfl ?_ | ((first | refine Zd rfl ?_ ?_ | refine Ze rfl ?_ ?_); · first | omega | rfl | assumption | (simp only [lmT]; omega)) | ((first | refine Zf rfl ?_ ?_ | refine Za rfl ?_ ?_); · first | omega | rfl | assumption | (simp only [lmT]; omega)) | refine Ri (Zt hm rfl rfl ?_) | exact Ri (Zj hm rfl rfl rfl (nbT rfl) rfl rfl))
 | refine Z1 rfl (tl hn rfl) ?_
 | refine Rm Zu hn rfl rfl ?_
 | refine Rn ?_
 | refine Z2 30 Ym hn rfl (by kernel_rfl) rfl ?_
 | ((first | refine Zg hn rfl rfl rfl ?_ | refine Zm rfl rfl ?_); first
 | refine ⟨_, Zx rfl rfl (by omega), ?_⟩
 | refine ⟨_, Zb rfl rfl (by omega) (by assumption), ?_⟩
 | refine ⟨_, Z4 rfl rfl (by omega), ?_⟩
 | refine ⟨_, Zv rfl rfl rfl, ?_⟩
 | refine ⟨_, Z7 rfl rfl (by omega), ?_⟩
 | refine ⟨_, Zr rfl rfl rfl rfl rfl rfl, ?_⟩)
 | ((first | refine Zi rfl rfl rfl ?_ ?_ | refine Zh rfl rfl rfl ?_ ?_ | refine Zk rfl rfl rfl ?_ ?_ | refine Zl rfl rfl rfl ?_ ?_ | refine Zo rfl rfl rfl ?_ ?_ | refine Zn rfl rfl rfl ?_ ?_ | refine Zq rfl rfl rfl ?_ ?_ | refine Zs rfl rfl rfl ?_ ?_) <;> intro h <;> try (exfalso; first | omega | contradiction | (simp only [lmT] at h; omega))))
      all_goals exact Yf (by rw [Bool.eq_iff_iff]; simp [Qz, *])
    · repeat' (first
 | refine Rk Zu hn rfl ?_
 | refine Rl ?_
 | refine Zc 30 rfl ?_
 | ((first | refine Zg hn rfl rfl rfl ?_ | refine Zm rfl rfl ?_); first
 | refine ⟨_, Zw (Wp r _) rfl, ?_⟩)
 | (refine Rj 30 rfl ?_; first | refine Zp rfl ?_ | ((first | refine Zd rfl ?_ ?_ | refine Ze rfl ?_ ?_); · first | omega | rfl | assumption | (simp only [lmT]; omega)) | ((first | refine Zf rfl ?_ ?_ | refine Za rfl ?_ ?_); · first | omega | rfl | assumption | (simp only [lmT]; omega)) | refine Ri (Zt hm rfl rfl ?_) | exact Ri (Zj hm rfl rfl rfl (nbT rfl) rfl rfl))
 | refine Z1 rfl (tl hn rfl) ?_
 | refine Rm Zu hn rfl rfl ?_
 | refine Rn ?_
 | refine Z2 30 Ym hn rfl (by kernel_rfl) rfl ?_
 | ((first | refine Zg hn rfl rfl rfl ?_ | refine Zm rfl rfl ?_); first
 | refine ⟨_, Zx rfl rfl (by omega), ?_⟩
 | refine ⟨_, Zb rfl rfl (by omega) (by assumption), ?_⟩
 | refine ⟨_, Z4 rfl rfl (by omega), ?_⟩
 | refine ⟨_, Zv rfl rfl rfl, ?_⟩
 | refine ⟨_, Z7 rfl rfl (by omega), ?_⟩
 | refine ⟨_, Zr rfl rfl rfl rfl rfl rfl, ?_⟩)
 | ((first | refine Zi rfl rfl rfl ?_ ?_ | refine Zh rfl rfl rfl ?_ ?_ | refine Zk rfl rfl rfl ?_ ?_ | refine Zl rfl rfl rfl ?_ ?_ | refine Zo rfl rfl rfl ?_ ?_ | refine Zn rfl rfl rfl ?_ ?_ | refine Zq rfl rfl rfl ?_ ?_ | refine Zs rfl rfl rfl ?_ ?_) <;> intro h <;> try (exfalso; first | omega | contradiction | (simp only [lmT] at h; omega))))
      all_goals exact Yf (by rw [Bool.eq_iff_iff]; simp [Qz, *])
  by_cases k5 : r.kind = 5
  · by_cases hS : Plain r false false false false 2
    · have hk0 := Bo (l := r.kids) (by have := hS.kids (by omega); omega)
      repeat' (first
 | refine Rk Zu hn rfl ?_
 | refine Rl ?_
 | refine Zc 30 rfl ?_
 | ((first | refine Zg hn rfl rfl rfl ?_ | refine Zm rfl rfl ?_); first
 | refine ⟨_, Zw (Wp r _) rfl, ?_⟩
 | refine ⟨_, Zw hlim rfl, ?_⟩)
 | (refine Rj 30 rfl ?_; first | refine Zp rfl ?_ | ((first | refine Zd rfl ?_ ?_ | refine Ze rfl ?_ ?_); · first | omega | rfl | assumption | (simp only [lmT]; omega)) | ((first | refine Zf rfl ?_ ?_ | refine Za rfl ?_ ?_); · first | omega | rfl | assumption | (simp only [lmT]; omega)) | refine Ri (Zt hm rfl rfl ?_) | exact Ri (Zj hm rfl rfl rfl (nbT rfl) rfl rfl))
 | refine Z1 rfl (tl hn rfl) ?_
 | refine Rm Zu hn rfl rfl ?_
 | refine Rn ?_
 | refine Z2 30 Ym hn rfl (by kernel_rfl) rfl ?_
 | ((first | refine Zg hn rfl rfl rfl ?_ | refine Zm rfl rfl ?_); first
 | refine ⟨_, Zx rfl rfl (by omega), ?_⟩
 | refine ⟨_, Zb rfl rfl (by omega) (by assumption), ?_⟩
 | refine ⟨_, Z4 rfl rfl (by omega), ?_⟩
 | refine ⟨_, Zv rfl rfl rfl, ?_⟩
 | refine ⟨_, Z7 rfl rfl (by omega), ?_⟩
 | refine ⟨_, Zr rfl rfl rfl rfl rfl rfl, ?_⟩)
 | ((first | refine Zi rfl rfl rfl ?_ ?_ | refine Zh rfl rfl rfl ?_ ?_ | refine Zk rfl rfl rfl ?_ ?_ | refine Zl rfl rfl rfl ?_ ?_ | refine Zo rfl rfl rfl ?_ ?_ | refine Zn rfl rfl rfl ?_ ?_ | refine Zq rfl rfl rfl ?_ ?_ | refine Zs rfl rfl rfl ?_ ?_) <;> intro h <;> try (exfalso; first | omega | contradiction | (simp only [lmT] at h; omega))))
      all_goals exact Yf (by rw [Bool.eq_iff_iff]; simp [Qz, *])
    · repeat' (first
 | refine Rk Zu hn rfl ?_
 | refine Rl ?_
 | refine Zc 30 rfl ?_
 | ((first | refine Zg hn rfl rfl rfl ?_ | refine Zm rfl rfl ?_); first
 | refine ⟨_, Zw (Wp r _) rfl, ?_⟩)
 | (refine Rj 30 rfl ?_; first | refine Zp rfl ?_ | ((first | refine Zd rfl ?_ ?_ | refine Ze rfl ?_ ?_); · first | omega | rfl | assumption | (simp only [lmT]; omega)) | ((first | refine Zf rfl ?_ ?_ | refine Za rfl ?_ ?_); · first | omega | rfl | assumption | (simp only [lmT]; omega)) | refine Ri (Zt hm rfl rfl ?_) | exact Ri (Zj hm rfl rfl rfl (nbT rfl) rfl rfl))
 | refine Z1 rfl (tl hn rfl) ?_
 | refine Rm Zu hn rfl rfl ?_
 | refine Rn ?_
 | refine Z2 30 Ym hn rfl (by kernel_rfl) rfl ?_
 | ((first | refine Zg hn rfl rfl rfl ?_ | refine Zm rfl rfl ?_); first
 | refine ⟨_, Zx rfl rfl (by omega), ?_⟩
 | refine ⟨_, Zb rfl rfl (by omega) (by assumption), ?_⟩
 | refine ⟨_, Z4 rfl rfl (by omega), ?_⟩
 | refine ⟨_, Zv rfl rfl rfl, ?_⟩
 | refine ⟨_, Z7 rfl rfl (by omega), ?_⟩
 | refine ⟨_, Zr rfl rfl rfl rfl rfl rfl, ?_⟩)
 | ((first | refine Zi rfl rfl rfl ?_ ?_ | refine Zh rfl rfl rfl ?_ ?_ | refine Zk rfl rfl rfl ?_ ?_ | refine Zl rfl rfl rfl ?_ ?_ | refine Zo rfl rfl rfl ?_ ?_ | refine Zn rfl rfl rfl ?_ ?_ | refine Zq rfl rfl rfl ?_ ?_ | refine Zs rfl rfl rfl ?_ ?_) <;> intro h <;> try (exfalso; first | omega | contradiction | (simp only [lmT] at h; omega))))
      all_goals exact Yf (by rw [Bool.eq_iff_iff]; simp [Qz, *])
  by_cases k6 : r.kind = 6
  · repeat' (first
 | refine Rk Zu hn rfl ?_
 | refine Rl ?_
 | refine Zc 30 rfl ?_
 | ((first | refine Zg hn rfl rfl rfl ?_ | refine Zm rfl rfl ?_); first
 | refine ⟨_, Zw hseq rfl, ?_⟩)
 | (refine Rj 30 rfl ?_; first | refine Zp rfl ?_ | ((first | refine Zd rfl ?_ ?_ | refine Ze rfl ?_ ?_); · first | omega | rfl | assumption | (simp only [lmT]; omega)) | ((first | refine Zf rfl ?_ ?_ | refine Za rfl ?_ ?_); · first | omega | rfl | assumption | (simp only [lmT]; omega)) | refine Ri (Zt hm rfl rfl ?_) | exact Ri (Zj hm rfl rfl rfl (nbT rfl) rfl rfl))
 | refine Z1 rfl (tl hn rfl) ?_
 | refine Rm Zu hn rfl rfl ?_
 | refine Rn ?_
 | refine Z2 30 Ym hn rfl (by kernel_rfl) rfl ?_
 | ((first | refine Zg hn rfl rfl rfl ?_ | refine Zm rfl rfl ?_); first
 | refine ⟨_, Zx rfl rfl (by omega), ?_⟩
 | refine ⟨_, Zb rfl rfl (by omega) (by assumption), ?_⟩
 | refine ⟨_, Z4 rfl rfl (by omega), ?_⟩
 | refine ⟨_, Zv rfl rfl rfl, ?_⟩
 | refine ⟨_, Z7 rfl rfl (by omega), ?_⟩
 | refine ⟨_, Zr rfl rfl rfl rfl rfl rfl, ?_⟩)
 | ((first | refine Zi rfl rfl rfl ?_ ?_ | refine Zh rfl rfl rfl ?_ ?_ | refine Zk rfl rfl rfl ?_ ?_ | refine Zl rfl rfl rfl ?_ ?_ | refine Zo rfl rfl rfl ?_ ?_ | refine Zn rfl rfl rfl ?_ ?_ | refine Zq rfl rfl rfl ?_ ?_ | refine Zs rfl rfl rfl ?_ ?_) <;> intro h <;> try (exfalso; first | omega | contradiction | (simp only [lmT] at h; omega))))
    all_goals exact Yf (by rw [Bool.eq_iff_iff]; simp [Qz, *])
  by_cases k7 : r.kind = 7
  · repeat' (first
 | refine Rk Zu hn rfl ?_
 | refine Rl ?_
 | refine Zc 30 rfl ?_
 | ((first | refine Zg hn rfl rfl rfl ?_ | refine Zm rfl rfl ?_); first
 | refine ⟨_, Zw hcho rfl, ?_⟩)
 | (refine Rj 30 rfl ?_; first | refine Zp rfl ?_ | ((first | refine Zd rfl ?_ ?_ | refine Ze rfl ?_ ?_); · first | omega | rfl | assumption | (simp only [lmT]; omega)) | ((first | refine Zf rfl ?_ ?_ | refine Za rfl ?_ ?_); · first | omega | rfl | assumption | (simp only [lmT]; omega)) | refine Ri (Zt hm rfl rfl ?_) | exact Ri (Zj hm rfl rfl rfl (nbT rfl) rfl rfl))
 | refine Z1 rfl (tl hn rfl) ?_
 | refine Rm Zu hn rfl rfl ?_
 | refine Rn ?_
 | refine Z2 30 Ym hn rfl (by kernel_rfl) rfl ?_
 | ((first | refine Zg hn rfl rfl rfl ?_ | refine Zm rfl rfl ?_); first
 | refine ⟨_, Zx rfl rfl (by omega), ?_⟩
 | refine ⟨_, Zb rfl rfl (by omega) (by assumption), ?_⟩
 | refine ⟨_, Z4 rfl rfl (by omega), ?_⟩
 | refine ⟨_, Zv rfl rfl rfl, ?_⟩
 | refine ⟨_, Z7 rfl rfl (by omega), ?_⟩
 | refine ⟨_, Zr rfl rfl rfl rfl rfl rfl, ?_⟩)
 | ((first | refine Zi rfl rfl rfl ?_ ?_ | refine Zh rfl rfl rfl ?_ ?_ | refine Zk rfl rfl rfl ?_ ?_ | refine Zl rfl rfl rfl ?_ ?_ | refine Zo rfl rfl rfl ?_ ?_ | refine Zn rfl rfl rfl ?_ ?_ | refine Zq rfl rfl rfl ?_ ?_ | refine Zs rfl rfl rfl ?_ ?_) <;> intro h <;> try (exfalso; first | omega | contradiction | (simp only [lmT] at h; omega))))
    all_goals exact Yf (by rw [Bool.eq_iff_iff]; simp [Qz, *])
  by_cases k8 : r.kind = 8
  · repeat' (first
 | refine Rk Zu hn rfl ?_
 | refine Rl ?_
 | refine Zc 30 rfl ?_
 | ((first | refine Zg hn rfl rfl rfl ?_ | refine Zm rfl rfl ?_); first
 | refine ⟨_, Zw (Wp r _) rfl, ?_⟩)
 | (refine Rj 30 rfl ?_; first | refine Zp rfl ?_ | ((first | refine Zd rfl ?_ ?_ | refine Ze rfl ?_ ?_); · first | omega | rfl | assumption | (simp only [lmT]; omega)) | ((first | refine Zf rfl ?_ ?_ | refine Za rfl ?_ ?_); · first | omega | rfl | assumption | (simp only [lmT]; omega)) | refine Ri (Zt hm rfl rfl ?_) | exact Ri (Zj hm rfl rfl rfl (nbT rfl) rfl rfl))
 | refine Z1 rfl (tl hn rfl) ?_
 | refine Rm Zu hn rfl rfl ?_
 | refine Rn ?_
 | refine Z2 30 Ym hn rfl (by kernel_rfl) rfl ?_
 | ((first | refine Zg hn rfl rfl rfl ?_ | refine Zm rfl rfl ?_); first
 | refine ⟨_, Zx rfl rfl (by omega), ?_⟩
 | refine ⟨_, Zb rfl rfl (by omega) (by assumption), ?_⟩
 | refine ⟨_, Z4 rfl rfl (by omega), ?_⟩
 | refine ⟨_, Zv rfl rfl rfl, ?_⟩
 | refine ⟨_, Z7 rfl rfl (by omega), ?_⟩
 | refine ⟨_, Zr rfl rfl rfl rfl rfl rfl, ?_⟩)
 | ((first | refine Zi rfl rfl rfl ?_ ?_ | refine Zh rfl rfl rfl ?_ ?_ | refine Zk rfl rfl rfl ?_ ?_ | refine Zl rfl rfl rfl ?_ ?_ | refine Zo rfl rfl rfl ?_ ?_ | refine Zn rfl rfl rfl ?_ ?_ | refine Zq rfl rfl rfl ?_ ?_ | refine Zs rfl rfl rfl ?_ ?_) <;> intro h <;> try (exfalso; first | omega | contradiction | (simp only [lmT] at h; omega))))
    all_goals exact Yf (by rw [Bool.eq_iff_iff]; simp [Qz, *])
  by_cases k9 : r.kind = 9
  · repeat' (first
 | refine Rk Zu hn rfl ?_
 | refine Rl ?_
 | refine Zc 30 rfl ?_
 | ((first | refine Zg hn rfl rfl rfl ?_ | refine Zm rfl rfl ?_); first
 | refine ⟨_, Zw (Wp r _) rfl, ?_⟩)
 | (refine Rj 30 rfl ?_; first | refine Zp rfl ?_ | ((first | refine Zd rfl ?_ ?_ | refine Ze rfl ?_ ?_); · first | omega | rfl | assumption | (simp only [lmT]; omega)) | ((first | refine Zf rfl ?_ ?_ | refine Za rfl ?_ ?_); · first | omega | rfl | assumption | (simp only [lmT]; omega)) | refine Ri (Zt hm rfl rfl ?_) | exact Ri (Zj hm rfl rfl rfl (nbT rfl) rfl rfl))
 | refine Z1 rfl (tl hn rfl) ?_
 | refine Rm Zu hn rfl rfl ?_
 | refine Rn ?_
 | refine Z2 30 Ym hn rfl (by kernel_rfl) rfl ?_
 | ((first | refine Zg hn rfl rfl rfl ?_ | refine Zm rfl rfl ?_); first
 | refine ⟨_, Zx rfl rfl (by omega), ?_⟩
 | refine ⟨_, Zb rfl rfl (by omega) (by assumption), ?_⟩
 | refine ⟨_, Z4 rfl rfl (by omega), ?_⟩
 | refine ⟨_, Zv rfl rfl rfl, ?_⟩
 | refine ⟨_, Z7 rfl rfl (by omega), ?_⟩
 | refine ⟨_, Zr rfl rfl rfl rfl rfl rfl, ?_⟩)
 | ((first | refine Zi rfl rfl rfl ?_ ?_ | refine Zh rfl rfl rfl ?_ ?_ | refine Zk rfl rfl rfl ?_ ?_ | refine Zl rfl rfl rfl ?_ ?_ | refine Zo rfl rfl rfl ?_ ?_ | refine Zn rfl rfl rfl ?_ ?_ | refine Zq rfl rfl rfl ?_ ?_ | refine Zs rfl rfl rfl ?_ ?_) <;> intro h <;> try (exfalso; first | omega | contradiction | (simp only [lmT] at h; omega))))
    all_goals exact Yf (by rw [Bool.eq_iff_iff]; simp [Qz, *])
  by_cases k10 : r.kind = 10
  · by_cases hb : r.bytes.length = 1
    · have hb0 := headB_at (l := r.bytes) (by omega)
      have hu : ((r.bytes.headD 0).toNat : Int) = 92 ↔ r.bytes.headD 0 = 92 := ⟨fun h => u8_ext h, fun h => by rw [h]; rfl⟩
      repeat' (first
 | refine Rk Zu hn rfl ?_
 | refine Rl ?_
 | refine Zc 30 rfl ?_
 | ((first | refine Zg hn rfl rfl rfl ?_ | refine Zm rfl rfl ?_); first
 | refine ⟨_, Zw (Qr r _) rfl, ?_⟩)
 | (refine Rj 30 rfl ?_; first | refine Zp rfl ?_ | ((first | refine Zd rfl ?_ ?_ | refine Ze rfl ?_ ?_); · first | omega | rfl | assumption | (simp only [lmT]; omega)) | ((first | refine Zf rfl ?_ ?_ | refine Za rfl ?_ ?_); · first | omega | rfl | assumption | (simp only [lmT]; omega)) | refine Ri (Zt hm rfl rfl ?_) | exact Ri (Zj hm rfl rfl rfl (nbT rfl) rfl rfl))
 | refine Z1 rfl (tl hn rfl) ?_
 | refine Rm Zu hn rfl rfl ?_
 | refine Rn ?_
 | refine Z2 30 Ym hn rfl (by kernel_rfl) rfl ?_
 | ((first | refine Zg hn rfl rfl rfl ?_ | refine Zm rfl rfl ?_); first
 | refine ⟨_, Zx rfl rfl (by omega), ?_⟩
 | refine ⟨_, Zb rfl rfl (by omega) (by assumption), ?_⟩
 | refine ⟨_, Z4 rfl rfl (by omega), ?_⟩
 | refine ⟨_, Zv rfl rfl rfl, ?_⟩
 | refine ⟨_, Z7 rfl rfl (by omega), ?_⟩
 | refine ⟨_, Zr rfl rfl rfl rfl rfl rfl, ?_⟩)
 | ((first | refine Zi rfl rfl rfl ?_ ?_ | refine Zh rfl rfl rfl ?_ ?_ | refine Zk rfl rfl rfl ?_ ?_ | refine Zl rfl rfl rfl ?_ ?_ | refine Zo rfl rfl rfl ?_ ?_ | refine Zn rfl rfl rfl ?_ ?_ | refine Zq rfl rfl rfl ?_ ?_ | refine Zs rfl rfl rfl ?_ ?_) <;> intro h <;> try (exfalso; first | omega | contradiction | (simp only [lmT] at h; omega))))
      all_goals exact Yf (by rw [Bool.eq_iff_iff]; first | (simp [Qz, *]; done) | (simp [Qz, *]; exact not_congr (by simpa using hu)))
    · repeat' (first
 | refine Rk Zu hn rfl ?_
 | refine Rl ?_
 | refine Zc 30 rfl ?_
 | ((first | refine Zg hn rfl rfl rfl ?_ | refine Zm rfl rfl ?_); first
 | refine ⟨_, Zw (Qr r _) rfl, ?_⟩)
 | (refine Rj 30 rfl ?_; first | refine Zp rfl ?_ | ((first | refine Zd rfl ?_ ?_ | refine Ze rfl ?_ ?_); · first | omega | rfl | assumption | (simp only [lmT]; omega)) | ((first | refine Zf rfl ?_ ?_ | refine Za rfl ?_ ?_); · first | omega | rfl | assumption | (simp only [lmT]; omega)) | refine Ri (Zt hm rfl rfl ?_) | exact Ri (Zj hm rfl rfl rfl (nbT rfl) rfl rfl))
 | refine Z1 rfl (tl hn rfl) ?_
 | refine Rm Zu hn rfl rfl ?_
 | refine Rn ?_
 | refine Z2 30 Ym hn rfl (by kernel_rfl) rfl ?_
 | ((first | refine Zg hn rfl rfl rfl ?_ | refine Zm rfl rfl ?_); first
 | refine ⟨_, Zx rfl rfl (by omega), ?_⟩
 | refine ⟨_, Zb rfl rfl (by omega) (by assumption), ?_⟩
 | refine ⟨_, Z4 rfl rfl (by omega), ?_⟩
 | refine ⟨_, Zv rfl rfl rfl, ?_⟩
 | refine ⟨_, Z7 rfl rfl (by omega), ?_⟩
 | refine ⟨_, Zr rfl rfl rfl rfl rfl rfl, ?_⟩)
 | ((first | refine Zi rfl rfl rfl ?_ ?_ | refine Zh rfl rfl rfl ?_ ?_ | refine Zk rfl rfl rfl ?_ ?_ | refine Zl rfl rfl rfl ?_ ?_ | refine Zo rfl rfl rfl ?_ ?_ | refine Zn rfl rfl rfl ?_ ?_ | refine Zq rfl rfl rfl ?_ ?_ | refine Zs rfl rfl rfl ?_ ?_) <;> intro h <;> try (exfalso; first | omega | contradiction | (simp only [lmT] at h; omega))))
      all_goals exact Yf (by rw [Bool.eq_iff_iff]; simp [Qz, *])
  · repeat' (first
 | refine Rk Zu hn rfl ?_
 | refine Rl ?_
 | refine Zc 30 rfl ?_
 | (refine Rj 30 rfl ?_; first | refine Zp rfl ?_ | ((first | refine Zd rfl ?_ ?_ | refine Ze rfl ?_ ?_); · first | omega | rfl | assumption | (simp only [lmT]; omega)) | ((first | refine Zf rfl ?_ ?_ | refine Za rfl ?_ ?_); · first | omega | rfl | assumption | (simp only [lmT]; omega)) | refine Ri (Zt hm rfl rfl ?_) | exact Ri (Zj hm rfl rfl rfl (nbT rfl) rfl rfl))
 | refine Z1 rfl (tl hn rfl) ?_
 | refine Rm Zu hn rfl rfl ?_
 | refine Rn ?_
 | refine Z2 30 Ym hn rfl (by kernel_rfl) rfl ?_
 | ((first | refine Zg hn rfl rfl rfl ?_ | refine Zm rfl rfl ?_); first
 | refine ⟨_, Zx rfl rfl (by omega), ?_⟩
 | refine ⟨_, Zb rfl rfl (by omega) (by assumption), ?_⟩
 | refine ⟨_, Z4 rfl rfl (by omega), ?_⟩
 | refine ⟨_, Zv rfl rfl rfl, ?_⟩
 | refine ⟨_, Z7 rfl rfl (by omega), ?_⟩
 | refine ⟨_, Zr rfl rfl rfl rfl rfl rfl, ?_⟩)
 | ((first | refine Zi rfl rfl rfl ?_ ?_ | refine Zh rfl rfl rfl ?_ ?_ | refine Zk rfl rfl rfl ?_ ?_ | refine Zl rfl rfl rfl ?_ ?_ | refine Zo rfl rfl rfl ?_ ?_ | refine Zn rfl rfl rfl ?_ ?_ | refine Zq rfl rfl rfl ?_ ?_ | refine Zs rfl rfl rfl ?_ ?_) <;> intro h <;> try (exfalso; first | omega | contradiction | (simp only [lmT] at h; omega))))
    all_goals exact Yf (by rw [Bool.eq_iff_iff]; simp [Qz, *])
set_option maxHeartbeats 8000000 in
theorem Mw (d : Des) (ho : P5 d) (hd : W0 d ≤ 1048576) (i : Int) (hi : I64 i) : ACv Try.prog 133 [W1 d, .int i] (.bool (decide (Ku d i))) := by
  have hlm : (d.map Ws).length = d.length := lmT ..
  have hl := ho.len
  have et : W0 d = d.length + (d.map Rul.total).sum := rfl
  unfold I64 at hi
  by_cases hx : HasR d i
  · obtain ⟨r, hr⟩ : ∃ r, d[i.toNat]? = some r := ⟨_, P9 (by omega)⟩
    have hmem := Re hr
    have hro := ho.rules r hmem
    obtain ⟨o1, o2, o3, o4, o5, o6, o7⟩ := hro.lens
    have hrt := U5 Rul.total hmem
    have er : r.total = r.name.size + r.bytes.length + (r.names.length + (r.names.map ByteArray.size).sum) + r.tags.length + r.kids.length := rfl
    have hnm := Tq r.name o1
    have hk := Ah d r hl (by omega) o3 o4
    have hiff := Ex hx.1 hr
    have hkk := kindI_iff d r
    have hhr := V8 d i
    obtain ⟨n, rfl⟩ : ∃ n : Nat, i = n := ⟨i.toNat, by omega⟩
    simp only [Int.toNat_natCast] at hiff
    have hlt0 : n < d.length := by have := hx.2; omega
    have htl : (d.take n).length = n := by rw [List.length_take]; omega
    have htlm : ((d.take n).map Ws).length = n := by rw [lmT]; exact htl
    refine Yh Try.func133 rfl _ Try.ntmps133 (by simp) fun C hn hm => ?_
    by_cases hn1 : IsNm r.name
    · by_cases hli : r.little = false ∨ r.kind = 1
      · have hli' : ¬ (r.little = true ∧ ¬ r.kind = 1) := fun h => by rcases hli with e | e; rw [e] at h; cases h.1; exact h.2 e
        repeat' (first
 | refine Rk Zu hn rfl ?_
 | refine Rl ?_
 | refine Zc 30 rfl ?_
 | (refine Zg hn rfl rfl rfl ?_; first
 | refine ⟨_, Zw hhr rfl, ?_⟩
 | refine ⟨_, Zw hnm rfl, ?_⟩
 | refine ⟨_, Uc rfl rfl (by omega) (by omega), ?_⟩)
 | (refine Rj 30 rfl ?_; first | refine Zp rfl ?_ | refine Zz rfl ?_ | ((first | refine Zd rfl ?_ ?_ | refine Ze rfl ?_ ?_); · first | omega | rfl | assumption | (simp only [lmT]; omega)) | ((first | refine Zf rfl ?_ ?_ | refine Za rfl ?_ ?_); · first | omega | rfl | assumption | (simp only [lmT]; omega)) | refine Ye rfl (fun h => ?_) (fun h => ?_) | refine Ri (Zt hm rfl rfl ?_) | exact Ri (Zj hm rfl rfl rfl (nbT rfl) rfl rfl))
 | refine Z1 rfl (tl hn rfl) ?_
 | refine Z6 (tl hn rfl) ?_
 | refine Z3 rfl rfl rfl rfl (nbT rfl) ?_
 | (refine Zg hn rfl rfl rfl ?_; first
 | refine ⟨_, Zx rfl rfl (by omega), ?_⟩
 | refine ⟨_, Zb rfl rfl (by omega) (by assumption), ?_⟩
            )
 | ((first | refine Zi rfl rfl rfl ?_ ?_ | refine Zh rfl rfl rfl ?_ ?_ | refine Zk rfl rfl rfl ?_ ?_ | refine Zl rfl rfl rfl ?_ ?_) <;> intro h <;> try (exfalso; first | omega | contradiction | (simp only [lmT] at h; omega))))
        all_goals try (exfalso; exact hli' ⟨by assumption, by assumption⟩)
        all_goals
          refine Du 30 rfl (fun j => [(35, .ro (.seq 8 ((d.take n).map Ws))), (36, .int (n : Int)), (2, .obj 0 0), (5, .obj 1 0), (1, .int (n : Int)), (37, .int (j : Int))]) (fun _ => [⟨38, 0, [.ro (X4 d)]⟩, ⟨52, 0, [.str r.name, .int r.kind, .int r.size, .bool r.little, .ro (Yz r.bytes), .ro (U1 r.names), .ro (Xc r.tags), .ro (Xc r.kids)]⟩]) (fun j => ⟨by simp [Free, AV.only], by simp [FreeO, AV.onlys, AV.only]⟩) (fun j => ∀ (k : Nat) x, k < j → d[k]? = some x → ¬ x.name = r.name) n 0 (Nat.zero_le _) (fun k x h => absurd h (by omega)) ⟨rfl, by simp only [look]; exact congrArg (fun z : Nat => AV.int (z : Int)) htlm, rfl, rfl, rfl, rfl, trivial⟩ rfl fun j hj hQ next => ?_
          by_cases hlt : j < n
          · obtain ⟨x, hxj⟩ : ∃ x, (d.take n)[(j : Int).toNat]? = some x := ⟨_, P9 (by simp; omega)⟩
            have hx' : d[j]? = some x := by
              have h : (d.take n)[j]? = some x := hxj
              rwa [List.getElem?_take, if_pos hlt] at h
            by_cases hq : x.name = r.name
            · repeat' (first
 | (refine Zg hn rfl rfl rfl ?_; first
 | refine ⟨_, E5 rfl (by rw [hq]; rfl), ?_⟩)
 | refine Rk Zu hn rfl ?_
 | refine Rl ?_
 | refine Zc 30 rfl ?_
 | (refine Rj 30 rfl ?_; first | refine Zp rfl ?_ | refine Zz rfl ?_ | ((first | refine Zd rfl ?_ ?_ | refine Ze rfl ?_ ?_); · first | omega | rfl | assumption | (simp only [lmT]; omega)) | ((first | refine Zf rfl ?_ ?_ | refine Za rfl ?_ ?_); · first | omega | rfl | assumption | (simp only [lmT]; omega)) | refine Ye rfl (fun h => ?_) (fun h => ?_) | refine Ri (Zt hm rfl rfl ?_) | exact Ri (Zj hm rfl rfl rfl (nbT rfl) rfl rfl))
 | refine Z1 rfl (tl hn rfl) ?_
 | refine Z6 (tl hn rfl) ?_
 | refine Z3 rfl rfl rfl rfl (nbT rfl) ?_
 | (refine Zg hn rfl rfl rfl ?_; first
 | refine ⟨_, Zx rfl rfl (by omega), ?_⟩
 | refine ⟨_, Zb rfl rfl (by omega) (by assumption), ?_⟩
                )
 | ((first | refine Zi rfl rfl rfl ?_ ?_ | refine Zh rfl rfl rfl ?_ ?_ | refine Zk rfl rfl rfl ?_ ?_ | refine Zl rfl rfl rfl ?_ ?_) <;> intro h <;> try (exfalso; first | omega | contradiction | (simp only [lmT] at h; omega))))
              all_goals exact Yf (decide_eq_false (p := Ku d n) fun hN => (hiff.1 hN).1 j x hlt hx' hq).symm
            · repeat' (first
 | (refine Zg hn rfl rfl rfl ?_; first
 | refine ⟨_, E6 rfl rfl (by assumption), ?_⟩)
 | refine Rk Zu hn rfl ?_
 | refine Rl ?_
 | refine Zc 30 rfl ?_
 | (refine Rj 30 rfl ?_; first | refine Zp rfl ?_ | refine Zz rfl ?_ | ((first | refine Zd rfl ?_ ?_ | refine Ze rfl ?_ ?_); · first | omega | rfl | assumption | (simp only [lmT]; omega)) | ((first | refine Zf rfl ?_ ?_ | refine Za rfl ?_ ?_); · first | omega | rfl | assumption | (simp only [lmT]; omega)) | refine Ye rfl (fun h => ?_) (fun h => ?_) | refine Ri (Zt hm rfl rfl ?_) | exact Ri (Zj hm rfl rfl rfl (nbT rfl) rfl rfl))
 | refine Z1 rfl (tl hn rfl) ?_
 | refine Z6 (tl hn rfl) ?_
 | refine Z3 rfl rfl rfl rfl (nbT rfl) ?_
 | (refine Zg hn rfl rfl rfl ?_; first
 | refine ⟨_, Zx rfl rfl (by omega), ?_⟩
 | refine ⟨_, Zb rfl rfl (by omega) (by assumption), ?_⟩
                )
 | ((first | refine Zi rfl rfl rfl ?_ ?_ | refine Zh rfl rfl rfl ?_ ?_ | refine Zk rfl rfl rfl ?_ ?_ | refine Zl rfl rfl rfl ?_ ?_) <;> intro h <;> try (exfalso; first | omega | contradiction | (simp only [lmT] at h; omega))))
              refine next _ _ [_] ⟨rfl, rfl, rfl, rfl, rfl, rfl, trivial⟩ hlt (fun k y hkj hy => ?_) rfl
              by_cases e : k = j
              · subst e; rw [hx'] at hy; injection hy with hy; subst hy; exact hq
              · exact hQ k y (by omega) hy
          · obtain rfl : j = n := by omega
            repeat' (first
 | refine Rk Zu hn rfl ?_
 | refine Rl ?_
 | refine Zc 30 rfl ?_
 | (refine Rj 30 rfl ?_; first | refine Zp rfl ?_ | refine Zz rfl ?_ | ((first | refine Zd rfl ?_ ?_ | refine Ze rfl ?_ ?_); · first | omega | rfl | assumption | (simp only [lmT]; omega)) | ((first | refine Zf rfl ?_ ?_ | refine Za rfl ?_ ?_); · first | omega | rfl | assumption | (simp only [lmT]; omega)) | refine Ye rfl (fun h => ?_) (fun h => ?_) | refine Ri (Zt hm rfl rfl ?_) | exact Ri (Zj hm rfl rfl rfl (nbT rfl) rfl rfl))
 | refine Z1 rfl (tl hn rfl) ?_
 | refine Z6 (tl hn rfl) ?_
 | refine Z3 rfl rfl rfl rfl (nbT rfl) ?_
 | (refine Zg hn rfl rfl rfl ?_; first
 | refine ⟨_, Zx rfl rfl (by omega), ?_⟩
 | refine ⟨_, Zb rfl rfl (by omega) (by assumption), ?_⟩
                )
 | ((first | refine Zi rfl rfl rfl ?_ ?_ | refine Zh rfl rfl rfl ?_ ?_ | refine Zk rfl rfl rfl ?_ ?_ | refine Zl rfl rfl rfl ?_ ?_) <;> intro h <;> try (exfalso; first | omega | contradiction | (simp only [lmT] at h; omega))))
            refine Yw 30 rfl (fun m => [(48, .ro (Xc r.kids)), (49, .int (r.kids.length : Int)), (2, .obj 0 0), (5, .obj 1 0), (1, .int (j : Int)), (50, .int (m : Int))]) (fun _ => [⟨38, 0, [.ro (X4 d)]⟩, ⟨52, 0, [.str r.name, .int r.kind, .int r.size, .bool r.little, .ro (Yz r.bytes), .ro (U1 r.names), .ro (Xc r.tags), .ro (Xc r.kids)]⟩]) (fun m => ∀ (k : Nat) z, k < m → r.kids[k]? = some z → 0 ≤ z ∧ z < j) r.kids.length 0 (Nat.zero_le _) (fun k x h => absurd h (by omega)) ⟨rfl, by simp [look], rfl, rfl, rfl, rfl, trivial⟩ rfl fun m hm' hP next2 => ?_
            by_cases hlt2 : m < r.kids.length
            · obtain ⟨z, hz⟩ : ∃ z, r.kids[(m : Int).toNat]? = some z := ⟨_, P9 hlt2⟩
              have hz' : r.kids[m]? = some z := hz
              by_cases hzr : 0 ≤ z ∧ z < (j : Int)
              · repeat' (first
 | refine Rk Zu hn rfl ?_
 | refine Rl ?_
 | refine Zc 30 rfl ?_
 | (refine Rj 30 rfl ?_; first | refine Zp rfl ?_ | refine Zz rfl ?_ | ((first | refine Zd rfl ?_ ?_ | refine Ze rfl ?_ ?_); · first | omega | rfl | assumption | (simp only [lmT]; omega)) | ((first | refine Zf rfl ?_ ?_ | refine Za rfl ?_ ?_); · first | omega | rfl | assumption | (simp only [lmT]; omega)) | refine Ye rfl (fun h => ?_) (fun h => ?_) | refine Ri (Zt hm rfl rfl ?_) | exact Ri (Zj hm rfl rfl rfl (nbT rfl) rfl rfl))
 | refine Z1 rfl (tl hn rfl) ?_
 | refine Z6 (tl hn rfl) ?_
 | refine Z3 rfl rfl rfl rfl (nbT rfl) ?_
 | (refine Zg hn rfl rfl rfl ?_; first
 | refine ⟨_, Zx rfl rfl (by omega), ?_⟩
 | refine ⟨_, Zb rfl rfl (by omega) (by assumption), ?_⟩
                  )
 | ((first | refine Zi rfl rfl rfl ?_ ?_ | refine Zh rfl rfl rfl ?_ ?_ | refine Zk rfl rfl rfl ?_ ?_ | refine Zl rfl rfl rfl ?_ ?_) <;> intro h <;> try (exfalso; first | omega | contradiction | (simp only [lmT] at h; omega))))
                refine next2 _ _ ⟨rfl, rfl, rfl, rfl, rfl, rfl, trivial⟩ hlt2 (fun k y hkm hy => ?_) rfl
                by_cases e : k = m
                · subst e; rw [hz'] at hy; injection hy with hy; subst hy; exact hzr
                · exact hP k y (by omega) hy
              · repeat' (first
 | refine Rk Zu hn rfl ?_
 | refine Rl ?_
 | refine Zc 30 rfl ?_
 | (refine Rj 30 rfl ?_; first | refine Zp rfl ?_ | refine Zz rfl ?_ | ((first | refine Zd rfl ?_ ?_ | refine Ze rfl ?_ ?_); · first | omega | rfl | assumption | (simp only [lmT]; omega)) | ((first | refine Zf rfl ?_ ?_ | refine Za rfl ?_ ?_); · first | omega | rfl | assumption | (simp only [lmT]; omega)) | refine Ye rfl (fun h => ?_) (fun h => ?_) | refine Ri (Zt hm rfl rfl ?_) | exact Ri (Zj hm rfl rfl rfl (nbT rfl) rfl rfl))
 | refine Z1 rfl (tl hn rfl) ?_
 | refine Z6 (tl hn rfl) ?_
 | refine Z3 rfl rfl rfl rfl (nbT rfl) ?_
 | (refine Zg hn rfl rfl rfl ?_; first
 | refine ⟨_, Zx rfl rfl (by omega), ?_⟩
 | refine ⟨_, Zb rfl rfl (by omega) (by assumption), ?_⟩
                  )
 | ((first | refine Zi rfl rfl rfl ?_ ?_ | refine Zh rfl rfl rfl ?_ ?_ | refine Zk rfl rfl rfl ?_ ?_ | refine Zl rfl rfl rfl ?_ ?_) <;> intro h <;> try (exfalso; first | omega | contradiction | (simp only [lmT] at h; omega))))
                all_goals exact Yf (decide_eq_false (p := Ku d j) fun hN => hzr ((hiff.1 hN).2.1 m z hz')).symm
            · repeat' (first
 | refine Rk Zu hn rfl ?_
 | refine Rl ?_
 | refine Zc 30 rfl ?_
 | (refine Zg hn rfl rfl rfl ?_; first
 | refine ⟨_, Zw hk rfl, ?_⟩)
 | (refine Rj 30 rfl ?_; first | refine Zp rfl ?_ | refine Zz rfl ?_ | ((first | refine Zd rfl ?_ ?_ | refine Ze rfl ?_ ?_); · first | omega | rfl | assumption | (simp only [lmT]; omega)) | ((first | refine Zf rfl ?_ ?_ | refine Za rfl ?_ ?_); · first | omega | rfl | assumption | (simp only [lmT]; omega)) | refine Ye rfl (fun h => ?_) (fun h => ?_) | refine Ri (Zt hm rfl rfl ?_) | exact Ri (Zj hm rfl rfl rfl (nbT rfl) rfl rfl))
 | refine Z1 rfl (tl hn rfl) ?_
 | refine Z6 (tl hn rfl) ?_
 | refine Z3 rfl rfl rfl rfl (nbT rfl) ?_
 | (refine Zg hn rfl rfl rfl ?_; first
 | refine ⟨_, Zx rfl rfl (by omega), ?_⟩
 | refine ⟨_, Zb rfl rfl (by omega) (by assumption), ?_⟩
                )
 | ((first | refine Zi rfl rfl rfl ?_ ?_ | refine Zh rfl rfl rfl ?_ ?_ | refine Zk rfl rfl rfl ?_ ?_ | refine Zl rfl rfl rfl ?_ ?_) <;> intro h <;> try (exfalso; first | omega | contradiction | (simp only [lmT] at h; omega))))
              exact Yf (decide_eq_decide.2 ⟨fun h => hiff.2 ⟨fun k x hk => hQ k x hk, fun k z hkz => hP k z (by have := (P8.1 hkz).1; omega) hkz, hn1, hkk.1 ⟨h, hli⟩⟩, fun h => (hkk.2 (hiff.1 h).2.2.2).1⟩)
      · have h1 : r.little = true := by cases h : r.little; exact absurd (.inl h) hli; rfl
        have h2 : ¬ r.kind = 1 := fun h => hli (.inr h)
        obtain ⟨nm, kd, sz, li, bs, ns, tg, ki⟩ := r
        simp only at h1; subst h1
        repeat' (first
 | refine Rk Zu hn rfl ?_
 | refine Rl ?_
 | refine Zc 30 rfl ?_
 | (refine Zg hn rfl rfl rfl ?_; first
 | refine ⟨_, Zw hhr rfl, ?_⟩
 | refine ⟨_, Zw hnm rfl, ?_⟩)
 | (refine Rj 30 rfl ?_; first | refine Zp rfl ?_ | refine Zz rfl ?_ | ((first | refine Zd rfl ?_ ?_ | refine Ze rfl ?_ ?_); · first | omega | rfl | assumption | (simp only [lmT]; omega)) | ((first | refine Zf rfl ?_ ?_ | refine Za rfl ?_ ?_); · first | omega | rfl | assumption | (simp only [lmT]; omega)) | refine Ye rfl (fun h => ?_) (fun h => ?_) | refine Ri (Zt hm rfl rfl ?_) | exact Ri (Zj hm rfl rfl rfl (nbT rfl) rfl rfl))
 | refine Z1 rfl (tl hn rfl) ?_
 | refine Z6 (tl hn rfl) ?_
 | refine Z3 rfl rfl rfl rfl (nbT rfl) ?_
 | (refine Zg hn rfl rfl rfl ?_; first
 | refine ⟨_, Zx rfl rfl (by omega), ?_⟩
 | refine ⟨_, Zb rfl rfl (by omega) (by assumption), ?_⟩
            )
 | ((first | refine Zi rfl rfl rfl ?_ ?_ | refine Zh rfl rfl rfl ?_ ?_ | refine Zk rfl rfl rfl ?_ ?_ | refine Zl rfl rfl rfl ?_ ?_) <;> intro h <;> try (exfalso; first | omega | contradiction | (simp only [lmT] at h; omega))))
        all_goals exact Yf (decide_eq_false (p := Ku d n) fun hN => hli (hkk.2 (hiff.1 hN).2.2.2).2).symm
    · repeat' (first
 | refine Rk Zu hn rfl ?_
 | refine Rl ?_
 | refine Zc 30 rfl ?_
 | (refine Zg hn rfl rfl rfl ?_; first
 | refine ⟨_, Zw hhr rfl, ?_⟩
 | refine ⟨_, Zw hnm rfl, ?_⟩)
 | (refine Rj 30 rfl ?_; first | refine Zp rfl ?_ | refine Zz rfl ?_ | ((first | refine Zd rfl ?_ ?_ | refine Ze rfl ?_ ?_); · first | omega | rfl | assumption | (simp only [lmT]; omega)) | ((first | refine Zf rfl ?_ ?_ | refine Za rfl ?_ ?_); · first | omega | rfl | assumption | (simp only [lmT]; omega)) | refine Ye rfl (fun h => ?_) (fun h => ?_) | refine Ri (Zt hm rfl rfl ?_) | exact Ri (Zj hm rfl rfl rfl (nbT rfl) rfl rfl))
 | refine Z1 rfl (tl hn rfl) ?_
 | refine Z6 (tl hn rfl) ?_
 | refine Z3 rfl rfl rfl rfl (nbT rfl) ?_
 | (refine Zg hn rfl rfl rfl ?_; first
 | refine ⟨_, Zx rfl rfl (by omega), ?_⟩
 | refine ⟨_, Zb rfl rfl (by omega) (by assumption), ?_⟩
        )
 | ((first | refine Zi rfl rfl rfl ?_ ?_ | refine Zh rfl rfl rfl ?_ ?_ | refine Zk rfl rfl rfl ?_ ?_ | refine Zl rfl rfl rfl ?_ ?_) <;> intro h <;> try (exfalso; first | omega | contradiction | (simp only [lmT] at h; omega))))
      all_goals exact Yf (decide_eq_false (p := Ku d n) fun hN => hn1 (hiff.1 hN).2.2.1).symm
  · have hno : ¬ Ku d i := fun ⟨h0, r, hr, _⟩ => hx ⟨h0, by have := (P8.1 hr).1; omega⟩
    refine Yh Try.func133 rfl _ Try.ntmps133 (by simp) fun C hn hm => ?_
    repeat' (first
 | refine Rk Zu hn rfl ?_
 | refine Rl ?_
 | refine Zc 30 rfl ?_
 | (refine Zg hn rfl rfl rfl ?_; first
 | refine ⟨_, Zw (V8 d i) rfl, ?_⟩)
 | (refine Rj 30 rfl ?_; first | refine Zp rfl ?_ | refine Zz rfl ?_ | ((first | refine Zd rfl ?_ ?_ | refine Ze rfl ?_ ?_); · first | omega | rfl | assumption | (simp only [lmT]; omega)) | ((first | refine Zf rfl ?_ ?_ | refine Za rfl ?_ ?_); · first | omega | rfl | assumption | (simp only [lmT]; omega)) | refine Ye rfl (fun h => ?_) (fun h => ?_) | refine Ri (Zt hm rfl rfl ?_) | exact Ri (Zj hm rfl rfl rfl (nbT rfl) rfl rfl))
 | refine Z1 rfl (tl hn rfl) ?_
 | refine Z6 (tl hn rfl) ?_
 | refine Z3 rfl rfl rfl rfl (nbT rfl) ?_
 | (refine Zg hn rfl rfl rfl ?_; first
 | refine ⟨_, Zx rfl rfl (by omega), ?_⟩
 | refine ⟨_, Zb rfl rfl (by omega) (by assumption), ?_⟩
        )
 | ((first | refine Zi rfl rfl rfl ?_ ?_ | refine Zh rfl rfl rfl ?_ ?_ | refine Zk rfl rfl rfl ?_ ?_ | refine Zl rfl rfl rfl ?_ ?_) <;> intro h <;> try (exfalso; first | omega | contradiction | (simp only [lmT] at h; omega))))
    all_goals exact Yf (decide_eq_false hno).symm
theorem W5 (d : Des) (ho : P5 d) (hd : W0 d ≤ 1048576) : ACv Try.prog 93 [W1 d] (.bool (decide (Ut d))) := by
  have hlm : (d.map Ws).length = d.length := lmT ..
  have et : W0 d = d.length + (d.map Rul.total).sum := rfl
  refine Yh Try.func93 rfl _ Try.ntmps93 (by simp) fun C hn hm => ?_
  by_cases h24 : InR d.length 1 24
  · repeat' (first
 | refine Rk Zu hn rfl ?_
 | refine Rl ?_
 | refine Zc 30 rfl ?_
 | (refine Zg hn rfl rfl rfl ?_; first
 | refine ⟨_, Zw (Yx _ _ _) rfl, ?_⟩)
 | (refine Rj 30 rfl ?_; first | ((first | refine Zd rfl ?_ ?_ | refine Ze rfl ?_ ?_); · first | omega | rfl | assumption | (simp only [lmT]; omega)) | ((first | refine Zf rfl ?_ ?_ | refine Za rfl ?_ ?_); · first | omega | rfl | assumption | (simp only [lmT]; omega)) | refine Ri (Zt hm rfl rfl ?_) | exact Ri (Zj hm rfl rfl rfl (nbT rfl) rfl rfl))
 | refine Z1 rfl (tl hn rfl) ?_
 | (refine Zg hn rfl rfl rfl ?_; first
 | refine ⟨_, Zx rfl rfl (by omega), ?_⟩
      ))
    refine Yw 30 rfl (fun j => [(1, .obj 0 0), (11, .int (d.length : Int)), (12, .int (j : Int))]) (fun _ => [⟨38, 0, [.ro (X4 d)]⟩]) (fun j => ∀ k : Nat, k < j → Ku d k) d.length 0 (Nat.zero_le _) (fun k h => absurd h (by omega)) ⟨rfl, by simp [look], rfl, trivial⟩ rfl fun j hj hQ next => ?_
    by_cases hlt : j < d.length
    · have hr := Mw d ho hd j (by unfold I64; omega)
      by_cases hq : Ku d j
      · repeat' (first
 | refine Rk Zu hn rfl ?_
 | refine Rl ?_
 | refine Zc 30 rfl ?_
 | (refine Zg hn rfl rfl rfl ?_; first
 | refine ⟨_, Zw hr rfl, ?_⟩)
 | (refine Rj 30 rfl ?_; first | ((first | refine Zd rfl ?_ ?_ | refine Ze rfl ?_ ?_); · first | omega | rfl | assumption | (simp only [lmT]; omega)) | ((first | refine Zf rfl ?_ ?_ | refine Za rfl ?_ ?_); · first | omega | rfl | assumption | (simp only [lmT]; omega)) | refine Ri (Zt hm rfl rfl ?_) | exact Ri (Zj hm rfl rfl rfl (nbT rfl) rfl rfl))
 | refine Z1 rfl (tl hn rfl) ?_
 | (refine Zg hn rfl rfl rfl ?_; first
 | refine ⟨_, Zx rfl rfl (by omega), ?_⟩
          ))
        refine next _ _ ⟨rfl, rfl, rfl, trivial⟩ hlt (fun k hk => ?_) rfl
        by_cases e : k = j
        · subst e; exact hq
        · exact hQ k (by omega)
      · repeat' (first
 | refine Rk Zu hn rfl ?_
 | refine Rl ?_
 | refine Zc 30 rfl ?_
 | (refine Zg hn rfl rfl rfl ?_; first
 | refine ⟨_, Zw hr rfl, ?_⟩)
 | (refine Rj 30 rfl ?_; first | ((first | refine Zd rfl ?_ ?_ | refine Ze rfl ?_ ?_); · first | omega | rfl | assumption | (simp only [lmT]; omega)) | ((first | refine Zf rfl ?_ ?_ | refine Za rfl ?_ ?_); · first | omega | rfl | assumption | (simp only [lmT]; omega)) | refine Ri (Zt hm rfl rfl ?_) | exact Ri (Zj hm rfl rfl rfl (nbT rfl) rfl rfl))
 | refine Z1 rfl (tl hn rfl) ?_
 | (refine Zg hn rfl rfl rfl ?_; first
 | refine ⟨_, Zx rfl rfl (by omega), ?_⟩
          ))
        all_goals exact Yf (decide_eq_false (p := Ut d) fun hN => hq (hN.2.2 j hlt)).symm
    · repeat' (first
 | refine Rk Zu hn rfl ?_
 | refine Rl ?_
 | refine Zc 30 rfl ?_
 | (refine Rj 30 rfl ?_; first | ((first | refine Zd rfl ?_ ?_ | refine Ze rfl ?_ ?_); · first | omega | rfl | assumption | (simp only [lmT]; omega)) | ((first | refine Zf rfl ?_ ?_ | refine Za rfl ?_ ?_); · first | omega | rfl | assumption | (simp only [lmT]; omega)) | refine Ri (Zt hm rfl rfl ?_) | exact Ri (Zj hm rfl rfl rfl (nbT rfl) rfl rfl))
 | refine Z1 rfl (tl hn rfl) ?_
 | (refine Zg hn rfl rfl rfl ?_; first
 | refine ⟨_, Zx rfl rfl (by omega), ?_⟩
        ))
      exact Yf (decide_eq_true (p := Ut d) ⟨by have := h24.1; omega, by have := h24.2; omega, fun k hk => hQ k (by omega)⟩).symm
  · repeat' (first
 | refine Rk Zu hn rfl ?_
 | refine Rl ?_
 | refine Zc 30 rfl ?_
 | (refine Zg hn rfl rfl rfl ?_; first
 | refine ⟨_, Zw (Yx _ _ _) rfl, ?_⟩)
 | (refine Rj 30 rfl ?_; first | ((first | refine Zd rfl ?_ ?_ | refine Ze rfl ?_ ?_); · first | omega | rfl | assumption | (simp only [lmT]; omega)) | ((first | refine Zf rfl ?_ ?_ | refine Za rfl ?_ ?_); · first | omega | rfl | assumption | (simp only [lmT]; omega)) | refine Ri (Zt hm rfl rfl ?_) | exact Ri (Zj hm rfl rfl rfl (nbT rfl) rfl rfl))
 | refine Z1 rfl (tl hn rfl) ?_
 | (refine Zg hn rfl rfl rfl ?_; first
 | refine ⟨_, Zx rfl rfl (by omega), ?_⟩
      ))
    all_goals exact Yf (decide_eq_false (p := Ut d) fun hN => h24 ⟨by have := hN.1; omega, by have := hN.2.1; omega⟩).symm
abbrev Kn (d : Des) (i : Int) : Prop := Ut d ∧ HasR d i
theorem known_ac (d : Des) (ho : P5 d) (hd : W0 d ≤ 1048576) (i : Int) : ACv Try.prog 68 [W1 d, .int i] (.bool (decide (Kn d i))) := by
  have hv := W5 d ho hd
  have hh := V8 d i
  refine Yh Try.func68 rfl _ Try.ntmps68 (by simp) fun C hn hm => ?_
  repeat' (first
 | refine Rk Zu hn rfl ?_
 | refine Rl ?_
 | refine Zc 30 rfl ?_
 | (refine Zg hn rfl rfl rfl ?_; first
 | refine ⟨_, Zw hv rfl, ?_⟩
 | refine ⟨_, Zw hh rfl, ?_⟩)
 | (refine Rj 30 rfl ?_; first | ((first | refine Zd rfl ?_ ?_ | refine Ze rfl ?_ ?_); · first | omega | rfl | assumption | (simp only [lmT]; omega)) | ((first | refine Zf rfl ?_ ?_ | refine Za rfl ?_ ?_); · first | omega | rfl | assumption | (simp only [lmT]; omega)) | refine Ri (Zt hm rfl rfl ?_) | exact Ri (Zj hm rfl rfl rfl (nbT rfl) rfl rfl))
 | refine Z1 rfl (tl hn rfl) ?_
 | ((first | refine Zi rfl rfl rfl ?_ ?_ | refine Zh rfl rfl rfl ?_ ?_ | refine Zk rfl rfl rfl ?_ ?_ | refine Zl rfl rfl rfl ?_ ?_) <;> intro h <;> try (exfalso; first | omega | contradiction | (simp only [lmT] at h; omega))))
  all_goals exact Yf (by rw [Bool.eq_iff_iff]; simp [*])
open AV (Mem Wd)
section
variable {P : Program} {C : Ctx} {k k' : List Item} {R : Act → World → Prop} {S : St} {c : Code}
theorem Vj (m : Nat) (hc : Proofs.Ytnecoghfhcimeaa.ctls m k = .code (.loop c) :: k') (h : Runs P C (.code c :: .inLoop c :: k') R S) : Runs P C k R S :=
  Rj m hc ⟨fun a w hs => (h.run a w hs).step fun _ _ => step_loop⟩
theorem Us (m : Nat) (hc : Proofs.Ytnecoghfhcimeaa.ctls m k = .inLoop c :: k') (h : Runs P C (.code c :: .inLoop c :: k') R S) : Runs P C k R S :=
  Rj m hc ⟨fun a w hs => (h.run a w hs).step fun _ _ => step_inLoop⟩
end
def u8i (x : Int) : UInt8 := UInt8.ofNat (x % 256).toNat
theorem u8i_val (x : Int) : ((u8i x).toNat : Int) = x % 256 := by
  unfold u8i
  rw [UInt8.toNat_ofNat']
  omega
section
variable {P : Program} {C : Ctx} {env : Env} {σ : List Ob} {t : Nat} {ty : TypeId} {pos : String} {after : Array Edge} {gd : Option (Nat × Bool)}
theorem U2 {src dst : TypeId} {x : Operand} {p : Int} [hs : TI P src .i64] [hd : TI P dst .u8] (hx : ev env x = .int p) : Pur P C ⟨some t, .convert src dst x, ty, pos, after, gd⟩ env σ (.ro (.u8 (u8i p))) := by
  have h := E7 (P := P) (C := C) (σ := σ) (t := t) (ty := ty) (pos := pos) (after := after) (gd := gd) hs hd hx
  have e : IntKind.u8.wrap p = ((u8i p).toNat : Int) := by rw [u8i_val]; simp [IntKind.wrap, IntKind.bits, IntKind.signed]
  rwa [e] at h
theorem Vf {src dst : TypeId} {x : Operand} {b : UInt8} [hs : TI P src .u8] [hd : TI P dst .i64] (hx : ev env x = .ro (.u8 b)) : Pur P C ⟨some t, .convert src dst x, ty, pos, after, gd⟩ env σ (.int (b.toNat : Int)) := by
  have h := E7 (P := P) (C := C) (σ := σ) (t := t) (ty := ty) (pos := pos) (after := after) (gd := gd) hs hd hx
  have hb := b.toNat_lt
  have e : IntKind.i64.wrap (b.toNat : Int) = (b.toNat : Int) := by simp [IntKind.wrap, IntKind.bits, IntKind.signed]; omega
  rwa [e] at h
theorem Kc {xt yt : TypeId} {x y : Operand} {p q : Int} {kd : IntKind} (K : Int) (hx : ev env x = .int p) (hy : ev env y = .ro (.c (.int kd q))) (h0 : 0 ≤ q) (hK : (2 : Int) ^ min q.toNat 64 = K) : Pur P C ⟨some t, .binOp .shr xt x y yt, ty, pos, after, gd⟩ env σ (.int (p / K)) :=
  Xt hx hy (fun w => by
    subst hK
    simp only [go_sem]
    rw [shift_shr_any _ _ _ _ h0]
    simp [IntKind.bits])
end
def be (n s : Int) : List UInt8 := if s = 1 then [u8i n] else if s = 2 then [u8i (n / 256), u8i n] else if s = 3 then [u8i (n / 256 / 256), u8i (n / 256), u8i n] else [u8i (n / 256 / 256 / 256), u8i (n / 256 / 256), u8i (n / 256), u8i n]
def Fit (n s : Int) : Prop := 1 ≤ s ∧ s ≤ 4 ∧ 0 ≤ n ∧ n < Ef s
noncomputable def Gu (n s : Int) : List UInt8 := open Classical in if Fit n s then be n s else []
theorem Kj {n s : Int} (h : Fit n s) : Gu n s = be n s := if_pos h
theorem Bu {n s : Int} (h : ¬ Fit n s) : Gu n s = [] := if_neg h
set_option maxHeartbeats 4000000 in
theorem Je (n s : Int) : AC Try.prog 130 [.int n, .int s] (fun rr => rr = .row 5 1 ((Gu n s).map RV.u8)) := by
  by_cases h : Fit n s
  · rw [Kj h]
    obtain ⟨h1, h2, h3, h4⟩ := h
    have hp := N1 (s := s)
    have hs : s = 1 ∨ s = 2 ∨ s = 3 ∨ s = 4 := by omega
    have hw := L9 s ⟨h1, h2⟩
    rcases hs with rfl | rfl | rfl | rfl
    all_goals
      refine Yh Try.func130 rfl _ Try.ntmps130 (by simp) fun C hn hm => ?_
      repeat' (first
 | refine Xl (tl hn rfl) ?_
 | refine Rk Zu hn rfl ?_
 | refine Rl ?_
 | refine Zc 30 rfl ?_
 | refine Vj 30 rfl ?_
 | refine Us 30 rfl ?_
 | refine V7 rfl rfl rfl rfl rfl rfl ⟨by simp [AV.onlys, AV.only], trivial⟩ (by simp) rfl (tl hn rfl) ?_
 | (refine Zg hn rfl rfl rfl ?_; first
 | refine ⟨_, Zw (H2 _ _ _) rfl, ?_⟩
 | refine ⟨_, Zw hw rfl, ?_⟩
 | refine ⟨_, U2 rfl, ?_⟩
 | refine ⟨_, Kc 1 rfl rfl (by omega) (by decide), ?_⟩
 | refine ⟨_, Kc 256 rfl rfl (by omega) (by decide), ?_⟩
 | refine ⟨_, Kc 65536 rfl rfl (by omega) (by decide), ?_⟩
 | refine ⟨_, Kc 16777216 rfl rfl (by omega) (by decide), ?_⟩)
 | (refine Rj 30 rfl ?_; first | refine Zp rfl ?_ | refine Zz rfl ?_ | ((first | refine Zd rfl ?_ ?_ | refine Ze rfl ?_ ?_); · first | omega | rfl | assumption | (simp only [lmT]; omega)) | ((first | refine Zf rfl ?_ ?_ | refine Za rfl ?_ ?_); · first | omega | rfl | assumption | (simp only [lmT]; omega)) | refine Ri (Zt hm rfl rfl ?_) | exact Ri (Zj hm rfl rfl rfl (nbT rfl) rfl rfl))
 | (refine Zg hn rfl rfl rfl ?_; first
 | refine ⟨_, Z4 rfl rfl (by omega), ?_⟩
 | refine ⟨_, Z7 rfl rfl (by omega), ?_⟩
 | refine ⟨_, Zr rfl rfl rfl rfl rfl rfl, ?_⟩)
 | ((first | refine Zi rfl rfl rfl ?_ ?_ | refine Zh rfl rfl rfl ?_ ?_ | refine Zk rfl rfl rfl ?_ ?_ | refine Zl rfl rfl rfl ?_ ?_) <;> intro h <;> try (exfalso; first | omega | contradiction | (simp only [lmT] at h; omega))))
      refine Rj 30 rfl (Ri (Xd (rs := (be n _).map RV.u8) hm rfl rfl rfl ?_ rfl))
      have e1 : n / 256 / 256 = n / 65536 := by omega
      have e2 : n / 65536 / 256 = n / 16777216 := by omega
      simp [be, e1, e2]
  · rw [Bu h]
    have hp := N1 (s := s)
    refine Yh Try.func130 rfl _ Try.ntmps130 (by simp) fun C hn hm => ?_
    by_cases hs : 1 ≤ s ∧ s ≤ 4
    · have hw := L9 s hs
      have hb : n < 0 ∨ Ef s ≤ n := by
        rcases Int.lt_or_le n 0 with h0 | h0
        · exact .inl h0
        · exact .inr (by rcases Int.lt_or_le n (Ef s) with h5 | h5; exact absurd ⟨hs.1, hs.2, h0, h5⟩ h; exact h5)
      repeat' (first
 | refine Xl (tl hn rfl) ?_
 | refine Rk Zu hn rfl ?_
 | refine Rl ?_
 | refine Zc 30 rfl ?_
 | (refine Zg hn rfl rfl rfl ?_; first
 | refine ⟨_, Zw (H2 _ _ _) rfl, ?_⟩
 | refine ⟨_, Zw hw rfl, ?_⟩)
 | (refine Rj 30 rfl ?_; first | refine Zp rfl ?_ | refine Zz rfl ?_ | ((first | refine Zd rfl ?_ ?_ | refine Ze rfl ?_ ?_); · first | omega | rfl | assumption | (simp only [lmT]; omega)) | ((first | refine Zf rfl ?_ ?_ | refine Za rfl ?_ ?_); · first | omega | rfl | assumption | (simp only [lmT]; omega)) | refine Ri (Zt hm rfl rfl ?_) | exact Ri (Zj hm rfl rfl rfl (nbT rfl) rfl rfl))
 | (refine Zg hn rfl rfl rfl ?_; first
 | refine ⟨_, Z4 rfl rfl (by omega), ?_⟩
 | refine ⟨_, Z7 rfl rfl (by omega), ?_⟩
 | refine ⟨_, Zr rfl rfl rfl rfl rfl rfl, ?_⟩)
 | ((first | refine Zi rfl rfl rfl ?_ ?_ | refine Zh rfl rfl rfl ?_ ?_ | refine Zk rfl rfl rfl ?_ ?_ | refine Zl rfl rfl rfl ?_ ?_) <;> intro h <;> try (exfalso; first | omega | contradiction | (simp only [lmT] at h; omega))))
      all_goals exact Rj 30 rfl (Ri (Xd (rs := []) hm rfl rfl rfl rfl rfl))
    · repeat' (first
 | refine Xl (tl hn rfl) ?_
 | refine Rk Zu hn rfl ?_
 | refine Rl ?_
 | refine Zc 30 rfl ?_
 | (refine Zg hn rfl rfl rfl ?_; first
 | refine ⟨_, Zw (H2 _ _ _) rfl, ?_⟩)
 | (refine Rj 30 rfl ?_; first | refine Zp rfl ?_ | refine Zz rfl ?_ | ((first | refine Zd rfl ?_ ?_ | refine Ze rfl ?_ ?_); · first | omega | rfl | assumption | (simp only [lmT]; omega)) | ((first | refine Zf rfl ?_ ?_ | refine Za rfl ?_ ?_); · first | omega | rfl | assumption | (simp only [lmT]; omega)) | refine Ri (Zt hm rfl rfl ?_) | exact Ri (Zj hm rfl rfl rfl (nbT rfl) rfl rfl))
 | (refine Zg hn rfl rfl rfl ?_; first
 | refine ⟨_, Z4 rfl rfl (by omega), ?_⟩
 | refine ⟨_, Z7 rfl rfl (by omega), ?_⟩
 | refine ⟨_, Zr rfl rfl rfl rfl rfl rfl, ?_⟩)
 | ((first | refine Zi rfl rfl rfl ?_ ?_ | refine Zh rfl rfl rfl ?_ ?_ | refine Zk rfl rfl rfl ?_ ?_ | refine Zl rfl rfl rfl ?_ ?_) <;> intro h <;> try (exfalso; first | omega | contradiction | (simp only [lmT] at h; omega))))
      all_goals exact Rj 30 rfl (Ri (Xd (rs := []) hm rfl rfl rfl rfl rfl))
set_option maxHeartbeats 8000000 in
theorem Lv (n s : Int) : AC Try.prog 129 [.int n, .int s] (fun rr => rr = .row 5 1 ((Gu n s).reverse.map RV.u8)) := by
  have hb := (Je n s).shut (r := Yz (Gu n s)) (by rintro _ rfl; exact Ua _ _)
  by_cases h : Fit n s
  · rw [Kj h] at hb ⊢
    obtain ⟨h1, h2, h3, h4⟩ := h
    have hs : s = 1 ∨ s = 2 ∨ s = 3 ∨ s = 4 := by omega
    rcases hs with rfl | rfl | rfl | rfl
    · have hb' : ACv Try.prog 130 [.int n, .int 1] (.seq 1 [[.u8 (u8i n)]]) := hb
      refine Yh Try.func129 rfl _ Try.ntmps129 (by simp) fun C hn hm => ?_
      repeat' (first
 | refine Xl (tl hn rfl) ?_
 | (refine Zg hn rfl rfl rfl ?_; first
 | refine ⟨_, Z0 1 rfl rfl, ?_⟩)
 | refine Rk Zu hn rfl ?_
 | refine Rl ?_
 | refine Zc 30 rfl ?_
 | refine Vj 30 rfl ?_
 | refine Us 30 rfl ?_
 | refine V7 rfl rfl rfl rfl rfl rfl ⟨by simp [AV.onlys, AV.only], trivial⟩ (by simp) rfl (tl hn rfl) ?_
 | (refine Zg hn rfl rfl rfl ?_; first
 | refine ⟨_, Zw hb' rfl, ?_⟩
 | refine ⟨_, X6 rfl rfl (by omega) rfl, ?_⟩)
 | (refine Rj 30 rfl ?_; first | refine Zp rfl ?_ | refine Zz rfl ?_ | ((first | refine Zd rfl ?_ ?_ | refine Ze rfl ?_ ?_); · first | omega | rfl | assumption | (simp only [lmT]; omega)) | ((first | refine Zf rfl ?_ ?_ | refine Za rfl ?_ ?_); · first | omega | rfl | assumption | (simp only [lmT]; omega)) | refine Ri (Zt hm rfl rfl ?_) | exact Ri (Zj hm rfl rfl rfl (nbT rfl) rfl rfl))
 | (refine Zg hn rfl rfl rfl ?_; first
 | refine ⟨_, Z4 rfl rfl (by omega), ?_⟩
 | refine ⟨_, Zr rfl rfl rfl rfl rfl rfl, ?_⟩))
      exact Rj 30 rfl (Ri (Xd (rs := (be n 1).reverse.map RV.u8) hm rfl rfl rfl rfl rfl))
    · have hb' : ACv Try.prog 130 [.int n, .int 2] (.seq 1 [[.u8 (u8i (n / 256))], [.u8 (u8i n)]]) := hb
      refine Yh Try.func129 rfl _ Try.ntmps129 (by simp) fun C hn hm => ?_
      repeat' (first
 | refine Xl (tl hn rfl) ?_
 | (refine Zg hn rfl rfl rfl ?_; first
 | refine ⟨_, Z0 2 rfl rfl, ?_⟩)
 | refine Rk Zu hn rfl ?_
 | refine Rl ?_
 | refine Zc 30 rfl ?_
 | refine Vj 30 rfl ?_
 | refine Us 30 rfl ?_
 | refine V7 rfl rfl rfl rfl rfl rfl ⟨by simp [AV.onlys, AV.only], trivial⟩ (by simp) rfl (tl hn rfl) ?_
 | (refine Zg hn rfl rfl rfl ?_; first
 | refine ⟨_, Zw hb' rfl, ?_⟩
 | refine ⟨_, X6 rfl rfl (by omega) rfl, ?_⟩)
 | (refine Rj 30 rfl ?_; first | refine Zp rfl ?_ | refine Zz rfl ?_ | ((first | refine Zd rfl ?_ ?_ | refine Ze rfl ?_ ?_); · first | omega | rfl | assumption | (simp only [lmT]; omega)) | ((first | refine Zf rfl ?_ ?_ | refine Za rfl ?_ ?_); · first | omega | rfl | assumption | (simp only [lmT]; omega)) | refine Ri (Zt hm rfl rfl ?_) | exact Ri (Zj hm rfl rfl rfl (nbT rfl) rfl rfl))
 | (refine Zg hn rfl rfl rfl ?_; first
 | refine ⟨_, Z4 rfl rfl (by omega), ?_⟩
 | refine ⟨_, Zr rfl rfl rfl rfl rfl rfl, ?_⟩))
      exact Rj 30 rfl (Ri (Xd (rs := (be n 2).reverse.map RV.u8) hm rfl rfl rfl rfl rfl))
    · have hb' : ACv Try.prog 130 [.int n, .int 3] (.seq 1 [[.u8 (u8i (n / 256 / 256))], [.u8 (u8i (n / 256))], [.u8 (u8i n)]]) := hb
      refine Yh Try.func129 rfl _ Try.ntmps129 (by simp) fun C hn hm => ?_
      repeat' (first
 | refine Xl (tl hn rfl) ?_
 | (refine Zg hn rfl rfl rfl ?_; first
 | refine ⟨_, Z0 3 rfl rfl, ?_⟩)
 | refine Rk Zu hn rfl ?_
 | refine Rl ?_
 | refine Zc 30 rfl ?_
 | refine Vj 30 rfl ?_
 | refine Us 30 rfl ?_
 | refine V7 rfl rfl rfl rfl rfl rfl ⟨by simp [AV.onlys, AV.only], trivial⟩ (by simp) rfl (tl hn rfl) ?_
 | (refine Zg hn rfl rfl rfl ?_; first
 | refine ⟨_, Zw hb' rfl, ?_⟩
 | refine ⟨_, X6 rfl rfl (by omega) rfl, ?_⟩)
 | (refine Rj 30 rfl ?_; first | refine Zp rfl ?_ | refine Zz rfl ?_ | ((first | refine Zd rfl ?_ ?_ | refine Ze rfl ?_ ?_); · first | omega | rfl | assumption | (simp only [lmT]; omega)) | ((first | refine Zf rfl ?_ ?_ | refine Za rfl ?_ ?_); · first | omega | rfl | assumption | (simp only [lmT]; omega)) | refine Ri (Zt hm rfl rfl ?_) | exact Ri (Zj hm rfl rfl rfl (nbT rfl) rfl rfl))
 | (refine Zg hn rfl rfl rfl ?_; first
 | refine ⟨_, Z4 rfl rfl (by omega), ?_⟩
 | refine ⟨_, Zr rfl rfl rfl rfl rfl rfl, ?_⟩))
      exact Rj 30 rfl (Ri (Xd (rs := (be n 3).reverse.map RV.u8) hm rfl rfl rfl rfl rfl))
    · have hb' : ACv Try.prog 130 [.int n, .int 4] (.seq 1 [[.u8 (u8i (n / 256 / 256 / 256))], [.u8 (u8i (n / 256 / 256))], [.u8 (u8i (n / 256))], [.u8 (u8i n)]]) := hb
      refine Yh Try.func129 rfl _ Try.ntmps129 (by simp) fun C hn hm => ?_
      repeat' (first
 | refine Xl (tl hn rfl) ?_
 | (refine Zg hn rfl rfl rfl ?_; first
 | refine ⟨_, Z0 4 rfl rfl, ?_⟩)
 | refine Rk Zu hn rfl ?_
 | refine Rl ?_
 | refine Zc 30 rfl ?_
 | refine Vj 30 rfl ?_
 | refine Us 30 rfl ?_
 | refine V7 rfl rfl rfl rfl rfl rfl ⟨by simp [AV.onlys, AV.only], trivial⟩ (by simp) rfl (tl hn rfl) ?_
 | (refine Zg hn rfl rfl rfl ?_; first
 | refine ⟨_, Zw hb' rfl, ?_⟩
 | refine ⟨_, X6 rfl rfl (by omega) rfl, ?_⟩)
 | (refine Rj 30 rfl ?_; first | refine Zp rfl ?_ | refine Zz rfl ?_ | ((first | refine Zd rfl ?_ ?_ | refine Ze rfl ?_ ?_); · first | omega | rfl | assumption | (simp only [lmT]; omega)) | ((first | refine Zf rfl ?_ ?_ | refine Za rfl ?_ ?_); · first | omega | rfl | assumption | (simp only [lmT]; omega)) | refine Ri (Zt hm rfl rfl ?_) | exact Ri (Zj hm rfl rfl rfl (nbT rfl) rfl rfl))
 | (refine Zg hn rfl rfl rfl ?_; first
 | refine ⟨_, Z4 rfl rfl (by omega), ?_⟩
 | refine ⟨_, Zr rfl rfl rfl rfl rfl rfl, ?_⟩))
      exact Rj 30 rfl (Ri (Xd (rs := (be n 4).reverse.map RV.u8) hm rfl rfl rfl rfl rfl))
  · rw [Bu h] at hb ⊢
    have hb' : ACv Try.prog 130 [.int n, .int s] (.seq 1 []) := hb
    refine Yh Try.func129 rfl _ Try.ntmps129 (by simp) fun C hn hm => ?_
    repeat' (first
 | refine Xl (tl hn rfl) ?_
 | (refine Zg hn rfl rfl rfl ?_; first
 | refine ⟨_, Z0 0 rfl rfl, ?_⟩
 | refine ⟨_, Z0 4 rfl rfl, ?_⟩)
 | refine Rk Zu hn rfl ?_
 | refine Rl ?_
 | refine Zc 30 rfl ?_
 | refine Vj 30 rfl ?_
 | (refine Zg hn rfl rfl rfl ?_; first
 | refine ⟨_, Zw hb' rfl, ?_⟩)
 | (refine Rj 30 rfl ?_; first | refine Zp rfl ?_ | refine Zz rfl ?_ | ((first | refine Zd rfl ?_ ?_ | refine Ze rfl ?_ ?_); · first | omega | rfl | assumption | (simp only [lmT]; omega)) | ((first | refine Zf rfl ?_ ?_ | refine Za rfl ?_ ?_); · first | omega | rfl | assumption | (simp only [lmT]; omega)) | refine Ri (Zt hm rfl rfl ?_) | exact Ri (Zj hm rfl rfl rfl (nbT rfl) rfl rfl))
 | (refine Zg hn rfl rfl rfl ?_; first
 | refine ⟨_, Z4 rfl rfl (by omega), ?_⟩
 | refine ⟨_, Zr rfl rfl rfl rfl rfl rfl, ?_⟩))
    exact Rj 30 rfl (Ri (Xd (rs := []) hm rfl rfl rfl rfl rfl))
noncomputable def Ln (r : Rul) (n : Int) : List UInt8 := if r.little = true then (Gu n r.size).reverse else Gu n r.size
theorem Vl (r : Rul) (n : Int) : AC Try.prog 79 [.agg (Ws r), .int n] (fun rr => rr = .row 5 1 ((Ln r n).map RV.u8)) := by
  have h1 := Je n r.size
  have h2 := Lv n r.size
  obtain ⟨nm, kd, sz, li, bs, ns, tg, ki⟩ := r
  cases li
  all_goals
    refine Yh Try.func79 rfl _ Try.ntmps79 (by simp) fun C hn hm => ?_
    repeat' (first
 | refine U9 h1 rfl (tl hn rfl) ?_
 | refine U9 h2 rfl (tl hn rfl) ?_
 | refine Rk Zu hn rfl ?_
 | refine Rl ?_
 | refine Zc 30 rfl ?_
 | (refine Rj 30 rfl ?_; first | refine Zp rfl ?_ | refine Zz rfl ?_ | ((first | refine Zd rfl ?_ ?_ | refine Ze rfl ?_ ?_); · first | omega | rfl | assumption | (simp only [lmT]; omega)) | ((first | refine Zf rfl ?_ ?_ | refine Za rfl ?_ ?_); · first | omega | rfl | assumption | (simp only [lmT]; omega)) | refine Ri (Zt hm rfl rfl ?_) | exact Ri (Zj hm rfl rfl rfl (nbT rfl) rfl rfl))
 | refine Z1 rfl (tl hn rfl) ?_
      )
    exact Rj 30 rfl (Ri (Xd (rs := (Ln _ n).map RV.u8) hm rfl rfl rfl rfl rfl))
section
variable {P : Program} {C : Ctx} {env : Env} {σ : List Ob} {t : Nat} {ty : TypeId} {pos : String} {after : Array Edge} {gd : Option (Nat × Bool)}
theorem Ud {xt yt : TypeId} {x y : Operand} {p q : Int} (hx : ev env x = .int p) (hy : ev env y = .int q) (h : 0 ≤ p ∧ p ≤ 9223372036854775807 ∧ 1 ≤ q) : Pur P C ⟨some t, .binOp .quo xt x y yt, ty, pos, after, gd⟩ env σ (.int (p / q)) :=
  Xt hx hy (fun w => by
    have h0 : ¬ q = 0 := by omega
    have hw : IntKind.i64.wrap (p.tdiv q) = p / q := by
      rw [Int.tdiv_eq_ediv_of_nonneg h.1]
      have h1 : 0 ≤ p / q := Int.ediv_nonneg h.1 (by omega)
      have h2 : p / q ≤ p := Int.ediv_le_self _ h.1
      simp [IntKind.wrap, IntKind.bits, IntKind.signed]; omega
    simp [go_sem, Op.intDiv, h0, hw])
theorem pu_rem {xt yt : TypeId} {x y : Operand} {p q : Int} (hx : ev env x = .int p) (hy : ev env y = .int q) (h : 0 ≤ p ∧ p ≤ 9223372036854775807 ∧ 1 ≤ q) : Pur P C ⟨some t, .binOp .rem xt x y yt, ty, pos, after, gd⟩ env σ (.int (p % q)) :=
  Xt hx hy (fun w => by
    have h0 : ¬ q = 0 := by omega
    have h1 : p.tmod q = p % q := Int.tmod_eq_emod_of_nonneg h.1
    have h2 : 0 ≤ p % q := Int.emod_nonneg _ (by omega)
    have h3 : p % q ≤ p := by
      have := Int.emod_lt_of_pos p (show 0 < q by omega)
      have := Int.mul_ediv_add_emod p q
      have : 0 ≤ q * (p / q) := Int.mul_nonneg (by omega) (Int.ediv_nonneg h.1 (by omega))
      omega
    have h4 : IntKind.i64.wrap (p % q) = p % q := by simp [IntKind.wrap, IntKind.bits, IntKind.signed]; omega
    simp [go_sem, Op.intDiv, h0, h1, h4])
theorem Ue {xt yt : TypeId} {x y : Operand} {a b : ByteArray} (hx : ev env x = .str a) (hy : ev env y = .str b) (h : a.size + b.size ≤ 9223372036854775807) : Pur P C ⟨some t, .binOp .add xt x y yt, ty, pos, after, gd⟩ env σ (.str (a ++ b)) :=
  Xt hx hy (fun w => by
    have h' : ¬ (((a.size + b.size : Nat) : Int) > IntKind.i64.max) := by simp [IntKind.max, IntKind.bits, IntKind.signed]; omega
    rw [binOp_string_add]
    simp only [Op.stringOp]
    rw [if_neg h']
    simp [go_sem])
end
theorem and_255 (n : Int) : bits .and .i64 n 255 = n % 256 := by
  have h1 : (BitVec.ofInt 64 255).toNat = 2 ^ 8 - 1 := by decide
  have key : (BitVec.ofInt 64 n &&& BitVec.ofInt 64 255).toNat = (n % ((2 ^ 64 : Nat) : Int)).toNat % 2 ^ 8 := by
    rw [BitVec.toNat_and, BitVec.toNat_ofInt, h1, Nat.and_two_pow_sub_one_eq_mod]
  show IntKind.i64.wrap ((BitVec.ofInt 64 n &&& BitVec.ofInt 64 255).toNat : Nat) = n % 256
  rw [key, IntKind.wrap_i64]
  omega
theorem and_30 (n : Int) : bits .and .i64 n 1073741823 = n % 1073741824 := by
  have h1 : (BitVec.ofInt 64 1073741823).toNat = 2 ^ 30 - 1 := by decide
  have key : (BitVec.ofInt 64 n &&& BitVec.ofInt 64 1073741823).toNat = (n % ((2 ^ 64 : Nat) : Int)).toNat % 2 ^ 30 := by
    rw [BitVec.toNat_and, BitVec.toNat_ofInt, h1, Nat.and_two_pow_sub_one_eq_mod]
  show IntKind.i64.wrap ((BitVec.ofInt 64 n &&& BitVec.ofInt 64 1073741823).toNat : Nat) = n % 1073741824
  rw [key, IntKind.wrap_i64]
  omega
section
variable {P : Program} {C : Ctx} {env : Env} {σ : List Ob} {t : Nat} {ty : TypeId} {pos : String} {after : Array Edge} {gd : Option (Nat × Bool)} {xt yt : TypeId} {x y : Operand} {p q : Int}
theorem pu_xor (hx : ev env x = .int p) (hy : ev env y = .int q) : Pur P C ⟨some t, .binOp .xor xt x y yt, ty, pos, after, gd⟩ env σ (.int (bits .xor .i64 p q)) := Xt hx hy (fun w => by simp [go_sem])
theorem A4 (hx : ev env x = .int p) (hy : ev env y = .int 255) : Pur P C ⟨some t, .binOp .and xt x y yt, ty, pos, after, gd⟩ env σ (.int (p % 256)) := Xt hx hy (fun w => by rw [← and_255]; simp [go_sem])
theorem pu_and30 (hx : ev env x = .int p) (hy : ev env y = .int 1073741823) : Pur P C ⟨some t, .binOp .and xt x y yt, ty, pos, after, gd⟩ env σ (.int (p % 1073741824)) := Xt hx hy (fun w => by rw [← and_30]; simp [go_sem])
end
def QI (p : Int → Prop) (rr : RR) : Prop := ∃ x, rr = .ro (.int x) ∧ p x
def QB (rr : RR) : Prop := ∃ x, rr = .ro (.bool x)
def QS (p : ByteArray → Prop) (rr : RR) : Prop := ∃ x, rr = .ro (.str x) ∧ p x
section
variable {P : Program} {C : Ctx} {ops : Array Oper} {rest : List Oper} {k : List Item} {R : Act → World → Prop} {env : Env} {σ : List Ob} {t : Nat} {ty : TypeId} {pos : String} {after : Array Edge} {ct : TypeId} {b : List UInt8} {u : Value} {i h : Int} {more : List Ob} {l : List Oper} {H T' : List IOq} {n : Nat}
theorem qi_ok {p : Int → Prop} : ∀ rr, QI p rr → Jy rr = true ∧ ∃ r, Seals rr r ∧ ∃ x, r = .int x ∧ p x := by
  rintro _ ⟨x, rfl, hx⟩; exact ⟨rfl, .int x, by simp [Seals], x, rfl, hx⟩
theorem qb_ok : ∀ rr, QB rr → Jy rr = true ∧ ∃ r, Seals rr r ∧ ∃ x, r = .bool x := by
  rintro _ ⟨x, rfl⟩; exact ⟨rfl, .bool x, by simp [Seals], x, rfl⟩
theorem qs_ok {p : ByteArray → Prop} : ∀ rr, QS p rr → Jy rr = true ∧ ∃ r, Seals rr r ∧ ∃ x, r = .str x ∧ p x := by
  rintro _ ⟨x, rfl, hx⟩; exact ⟨rfl, .str x, by simp [Seals], x, rfl, hx⟩
theorem Yv {f : FuncId} {fn : Func} {x0 : Operand} {xs : List Operand} {ats : Array TypeId} {args : List RV} {p : Int → Prop} [hfn : FN P f fn] (hf : Drw P ct f b args (QI p)) (hc : unpin (ev env x0) = .obj 0 0) (hu : HU C b u) (hi : Xv b i) (hσ : σ = Yq ct u i h :: more) (ha : LendsPL C σ (xs.map (ev env)) args)
    (hce : clnE env = true) (hcl : B1 more = true) (ht : t < C.n) (hk : ∀ (i' h' x : Int), Xv b i' → p x → RunsL P C ops rest k R ⟨(t, .int x) :: env, Yq ct u i' h' :: more⟩) :
    RunsL P C ops (⟨some t, .call { callee := .value (.func f), args := (x0 :: xs).toArray, argTypes := ats }, ty, pos, after, none⟩ :: rest) k R ⟨env, σ⟩ :=
  Be hf qi_ok hc hu hi hσ ha hce hcl ht (by rintro i' h' _ h1 ⟨x, rfl, hx⟩; exact hk i' h' x h1 hx)
theorem M3 {f : FuncId} {fn : Func} {x0 : Operand} {xs : List Operand} {ats : Array TypeId} {args : List RV} [hfn : FN P f fn] (hf : Drw P ct f b args QB) (hc : unpin (ev env x0) = .obj 0 0) (hu : HU C b u) (hi : Xv b i) (hσ : σ = Yq ct u i h :: more) (ha : LendsPL C σ (xs.map (ev env)) args)
    (hce : clnE env = true) (hcl : B1 more = true) (ht : t < C.n) (hk : ∀ (i' h' : Int) (x : Bool), Xv b i' → RunsL P C ops rest k R ⟨(t, .bool x) :: env, Yq ct u i' h' :: more⟩) :
    RunsL P C ops (⟨some t, .call { callee := .value (.func f), args := (x0 :: xs).toArray, argTypes := ats }, ty, pos, after, none⟩ :: rest) k R ⟨env, σ⟩ :=
  Be hf qb_ok hc hu hi hσ ha hce hcl ht (by rintro i' h' _ h1 ⟨x, rfl⟩; exact hk i' h' x h1)
theorem Vm {f : FuncId} {fn : Func} {x0 : Operand} {xs : List Operand} {ats : Array TypeId} {args : List RV} {p : ByteArray → Prop} [hfn : FN P f fn] (hf : Drw P ct f b args (QS p)) (hc : unpin (ev env x0) = .obj 0 0) (hu : HU C b u) (hi : Xv b i) (hσ : σ = Yq ct u i h :: more) (ha : LendsPL C σ (xs.map (ev env)) args)
    (hce : clnE env = true) (hcl : B1 more = true) (ht : t < C.n) (hk : ∀ (i' h' : Int) (x : ByteArray), Xv b i' → p x → RunsL P C ops rest k R ⟨(t, .str x) :: env, Yq ct u i' h' :: more⟩) :
    RunsL P C ops (⟨some t, .call { callee := .value (.func f), args := (x0 :: xs).toArray, argTypes := ats }, ty, pos, after, none⟩ :: rest) k R ⟨env, σ⟩ :=
  Be hf qs_ok hc hu hi hσ ha hce hcl ht (by rintro i' h' _ h1 ⟨x, rfl, hx⟩; exact hk i' h' x h1 hx)
theorem Ur {f : FuncId} {fn : Func} {x0 : Operand} {xs : List Operand} {ats : Array TypeId} {args : List RV} {p : Int → Prop} [hfn : FN P f fn] (hf : Drw P ct f b args (QI p)) (hc : unpin (ev env x0) = .obj 0 0) (hu : HU C b u) (hi : Xv b i) (ha : ∀ h : Int, LendsPL C (Yq ct u i h :: more) (xs.map (ev env)) args)
    (hce : clnE env = true) (hcl : B1 more = true) (ht : t < C.n) (hk : ∀ (i' h' x : Int), Xv b i' → p x → RunsP P C ct u more l H T' k R i' h' ((t, .int x) :: env)) :
    RunsP P C ct u more l H ((n, ⟨some t, .call { callee := .value (.func f), args := (x0 :: xs).toArray, argTypes := ats }, ty, pos, after, none⟩) :: T') k R i h env :=
  Qx hf qi_ok hc hu hi ha hce hcl ht (by rintro i' h' _ h1 ⟨x, rfl, hx⟩; exact hk i' h' x h1 hx)
theorem Io {f : FuncId} {fn : Func} {x0 : Operand} {xs : List Operand} {ats : Array TypeId} {args : List RV} {p : ByteArray → Prop} [hfn : FN P f fn] (hf : Drw P ct f b args (QS p)) (hc : unpin (ev env x0) = .obj 0 0) (hu : HU C b u) (hi : Xv b i) (ha : ∀ h : Int, LendsPL C (Yq ct u i h :: more) (xs.map (ev env)) args)
    (hce : clnE env = true) (hcl : B1 more = true) (ht : t < C.n) (hk : ∀ (i' h' : Int) (x : ByteArray), Xv b i' → p x → RunsP P C ct u more l H T' k R i' h' ((t, .str x) :: env)) :
    RunsP P C ct u more l H ((n, ⟨some t, .call { callee := .value (.func f), args := (x0 :: xs).toArray, argTypes := ats }, ty, pos, after, none⟩) :: T') k R i h env :=
  Qx hf qs_ok hc hu hi ha hce hcl ht (by rintro i' h' _ h1 ⟨x, rfl, hx⟩; exact hk i' h' x h1 hx)
end
def curH (h : Int) : Int := w64 (w64 (h * 6364136223846793005) + 1442695040888963407)
def curX (h : Int) : Int := bits .xor .i64 (curH h / 8589934592) (curH h / 140737488355328) % 256
theorem Bj (b : List UInt8) (hb : b.length ≤ 1048576) : Drw Try.prog 123 125 b [] (QI fun x => 0 ≤ x ∧ x ≤ 255) := by
  have hlb : (b.map fun z => [RV.u8 z]).length = b.length := lmT ..
  refine Yu Try.func125 rfl _ Try.ntmps125 (by simp) fun C g u i h hn hm hu hi => ?_
  have hi' := hi
  unfold Xv at hi'
  have hx0 : 0 ≤ curX h ∧ curX h ≤ 255 := by unfold curX; omega
  by_cases hlt : i < b.length
  · obtain ⟨c, hc⟩ : ∃ c, b[i.toNat]? = some c := ⟨_, P9 (by omega)⟩
    have hcl := c.toNat_lt
    repeat' (first
 | ((first | refine Zg hn rfl rfl rfl ?_ | refine Zm rfl rfl ?_); first
 | refine ⟨_, W9 hu (Y3 Zu rfl), ?_⟩)
 | refine Rk Zu hn rfl ?_
 | refine Rl ?_
 | refine Zc 30 rfl ?_
 | ((first | refine Zg hn rfl rfl rfl ?_ | refine Zm rfl rfl ?_); first
 | refine ⟨_, Yb rfl, ?_⟩
 | refine ⟨_, Hq rfl rfl, ?_⟩
 | refine ⟨_, X0 (t := 10) rfl rfl, ?_⟩
 | refine ⟨_, Kc 8589934592 rfl rfl (by decide) (by decide), ?_⟩
 | refine ⟨_, Kc 140737488355328 rfl rfl (by decide) (by decide), ?_⟩
 | refine ⟨_, pu_xor rfl rfl, ?_⟩
 | refine ⟨_, A4 rfl rfl, ?_⟩
 | refine ⟨_, Vf rfl, ?_⟩
 | refine ⟨_, Zx rfl rfl (by have := c.toNat_lt; omega), ?_⟩)
 | (refine Rj 30 rfl ?_; first | ((first | refine Zd rfl ?_ ?_ | refine Ze rfl ?_ ?_); · first | omega | rfl | assumption | (simp only [lmT]; omega)) | ((first | refine Zf rfl ?_ ?_ | refine Za rfl ?_ ?_); · first | omega | rfl | assumption | (simp only [lmT]; omega)) | refine Ri (Zt hm rfl rfl ?_) | exact Ri (Zj hm rfl rfl rfl (nbT rfl) rfl rfl))
 | refine Yc rfl rfl rfl rfl (nbT rfl) ?_
 | refine Rm Zu hn rfl rfl ?_
 | refine Rn ?_
 | refine Z2 30 Ym hn rfl (by kernel_rfl) rfl ?_
 | ((first | refine Zg hn rfl rfl rfl ?_ | refine Zm rfl rfl ?_); first
 | refine ⟨_, Zx rfl rfl (by omega), ?_⟩
 | refine ⟨_, Zb rfl rfl (by omega) (by assumption), ?_⟩
 | refine ⟨_, Z4 rfl rfl (by omega), ?_⟩
 | refine ⟨_, Zv rfl rfl rfl, ?_⟩
 | refine ⟨_, Z7 rfl rfl (by omega), ?_⟩
 | refine ⟨_, Zr rfl rfl rfl rfl rfl rfl, ?_⟩))
    all_goals exact Rj 30 rfl (Ri (V3 hm rfl rfl rfl ⟨by omega, by omega⟩ rfl ⟨_, rfl, by omega, by omega⟩))
  · repeat' (first
 | ((first | refine Zg hn rfl rfl rfl ?_ | refine Zm rfl rfl ?_); first
 | refine ⟨_, W9 hu (Y3 Zu rfl), ?_⟩)
 | refine Rk Zu hn rfl ?_
 | refine Rl ?_
 | refine Zc 30 rfl ?_
 | ((first | refine Zg hn rfl rfl rfl ?_ | refine Zm rfl rfl ?_); first
 | refine ⟨_, Yb rfl, ?_⟩
 | refine ⟨_, Hq rfl rfl, ?_⟩
 | refine ⟨_, X0 (t := 10) rfl rfl, ?_⟩
 | refine ⟨_, Kc 8589934592 rfl rfl (by decide) (by decide), ?_⟩
 | refine ⟨_, Kc 140737488355328 rfl rfl (by decide) (by decide), ?_⟩
 | refine ⟨_, pu_xor rfl rfl, ?_⟩
 | refine ⟨_, A4 rfl rfl, ?_⟩
 | refine ⟨_, Vf rfl, ?_⟩)
 | (refine Rj 30 rfl ?_; first | ((first | refine Zd rfl ?_ ?_ | refine Ze rfl ?_ ?_); · first | omega | rfl | assumption | (simp only [lmT]; omega)) | ((first | refine Zf rfl ?_ ?_ | refine Za rfl ?_ ?_); · first | omega | rfl | assumption | (simp only [lmT]; omega)) | refine Ri (Zt hm rfl rfl ?_) | exact Ri (Zj hm rfl rfl rfl (nbT rfl) rfl rfl))
 | refine Yc rfl rfl rfl rfl (nbT rfl) ?_
 | refine Rm Zu hn rfl rfl ?_
 | refine Rn ?_
 | refine Z2 30 Ym hn rfl (by kernel_rfl) rfl ?_
 | ((first | refine Zg hn rfl rfl rfl ?_ | refine Zm rfl rfl ?_); first
 | refine ⟨_, Zx rfl rfl (by omega), ?_⟩
 | refine ⟨_, Zb rfl rfl (by omega) (by assumption), ?_⟩
 | refine ⟨_, Z4 rfl rfl (by omega), ?_⟩
 | refine ⟨_, Zv rfl rfl rfl, ?_⟩
 | refine ⟨_, Z7 rfl rfl (by omega), ?_⟩
 | refine ⟨_, Zr rfl rfl rfl rfl rfl rfl, ?_⟩))
    all_goals exact Rj 30 rfl (Ri (V3 hm rfl rfl rfl hi rfl ⟨_, rfl, hx0⟩))
def Bel (n : Int) (x : Int) : Prop := (n ≤ 0 → x = 0) ∧ (0 < n → 0 ≤ x ∧ x < n)
set_option maxHeartbeats 1600000 in
theorem Yt (b : List UInt8) (hb : b.length ≤ 1048576) (n : Int) (hn' : n ≤ 16777216) : Drw Try.prog 123 74 b [.int n] (QI (Bel n)) := by
  refine Yu Try.func74 rfl _ Try.ntmps74 (by simp) fun C g u i h hn hm hu hi => ?_
  by_cases h1 : n ≤ 0
  · repeat' (first
 | refine Rk Zu hn rfl ?_
 | refine Rl ?_
 | refine Zc 30 rfl ?_
 | (refine Rj 30 rfl ?_; first | ((first | refine Zd rfl ?_ ?_ | refine Ze rfl ?_ ?_); · first | omega | rfl | assumption | (simp only [lmT]; omega)) | ((first | refine Zf rfl ?_ ?_ | refine Za rfl ?_ ?_); · first | omega | rfl | assumption | (simp only [lmT]; omega)) | refine Ri (Zt hm rfl rfl ?_) | exact Ri (Zj hm rfl rfl rfl (nbT rfl) rfl rfl))
 | (refine Zg hn rfl rfl rfl ?_; first
 | refine ⟨_, Zx rfl rfl (by omega), ?_⟩
 | refine ⟨_, Z7 rfl rfl (by omega), ?_⟩
      ))
    all_goals exact Rj 30 rfl (Ri (V3 hm rfl rfl rfl hi rfl ⟨_, rfl, fun _ => rfl, by omega⟩))
  by_cases h2 : n ≤ 256
  · repeat' (first
 | (refine Yv (Bj b hb) rfl hu hi rfl .nil rfl rfl (tl hn rfl) ?_; intro i h x hi hx)
 | refine Rk Zu hn rfl ?_
 | refine Rl ?_
 | refine Zc 30 rfl ?_
 | (refine Zg hn rfl rfl rfl ?_; first
 | refine ⟨_, pu_rem rfl rfl (by omega), ?_⟩)
 | (refine Rj 30 rfl ?_; first | ((first | refine Zd rfl ?_ ?_ | refine Ze rfl ?_ ?_); · first | omega | rfl | assumption | (simp only [lmT]; omega)) | ((first | refine Zf rfl ?_ ?_ | refine Za rfl ?_ ?_); · first | omega | rfl | assumption | (simp only [lmT]; omega)) | refine Ri (Zt hm rfl rfl ?_) | exact Ri (Zj hm rfl rfl rfl (nbT rfl) rfl rfl))
 | (refine Zg hn rfl rfl rfl ?_; first
 | refine ⟨_, Zx rfl rfl (by omega), ?_⟩
 | refine ⟨_, Z7 rfl rfl (by omega), ?_⟩
      ))
    all_goals exact Rj 30 rfl (Ri (V3 hm rfl rfl rfl hi rfl ⟨_, rfl, by omega, fun _ => ⟨Int.emod_nonneg _ (by omega), Int.emod_lt_of_pos _ (by omega)⟩⟩))
  · repeat' (first
 | (refine Yv (Bj b hb) rfl hu hi rfl .nil rfl rfl (tl hn rfl) ?_; intro i h x hi hx)
 | refine Rk Zu hn rfl ?_
 | refine Rl ?_
 | refine Zc 30 rfl ?_
 | (refine Zg hn rfl rfl rfl ?_; first
 | refine ⟨_, pu_rem rfl rfl (by omega), ?_⟩)
 | (refine Rj 30 rfl ?_; first | ((first | refine Zd rfl ?_ ?_ | refine Ze rfl ?_ ?_); · first | omega | rfl | assumption | (simp only [lmT]; omega)) | ((first | refine Zf rfl ?_ ?_ | refine Za rfl ?_ ?_); · first | omega | rfl | assumption | (simp only [lmT]; omega)) | refine Ri (Zt hm rfl rfl ?_) | exact Ri (Zj hm rfl rfl rfl (nbT rfl) rfl rfl))
 | (refine Zg hn rfl rfl rfl ?_; first
 | refine ⟨_, Zx rfl rfl (by omega), ?_⟩
 | refine ⟨_, Z7 rfl rfl (by omega), ?_⟩
      ))
    all_goals exact Rj 30 rfl (Ri (V3 hm rfl rfl rfl hi rfl ⟨_, rfl, by omega, fun _ => ⟨Int.emod_nonneg _ (by omega), Int.emod_lt_of_pos _ (by omega)⟩⟩))
theorem M5 (b : List UInt8) (hb : b.length ≤ 1048576) (n : Int) (hn' : n ≤ 16777216) : Drw Try.prog 123 75 b [.int n] QB := by
  refine Yu Try.func75 rfl _ Try.ntmps75 (by simp) fun C g u i h hn hm hu hi => ?_
  repeat' (first
 | (refine Yv (Yt b hb n hn') rfl hu hi rfl (Ya [.int n]) rfl rfl (tl hn rfl) ?_; intro i h x hi hx)
 | refine Rk Zu hn rfl ?_
 | refine Rl ?_
 | refine Zc 30 rfl ?_
 | (refine Rj 30 rfl ?_; first | ((first | refine Zd rfl ?_ ?_ | refine Ze rfl ?_ ?_); · first | omega | rfl | assumption | (simp only [lmT]; omega)) | ((first | refine Zf rfl ?_ ?_ | refine Za rfl ?_ ?_); · first | omega | rfl | assumption | (simp only [lmT]; omega)) | refine Ri (Zt hm rfl rfl ?_) | exact Ri (Zj hm rfl rfl rfl (nbT rfl) rfl rfl))
    )
  all_goals exact Rj 30 rfl (Ri (V3 hm rfl rfl rfl hi rfl ⟨_, rfl⟩))
theorem Bi (b : List UInt8) (hb : b.length ≤ 1048576) (l : List Int) (h0 : 0 < l.length) (hl : l.length ≤ 1000) : Drw Try.prog 123 121 b [Xc l] (QI (· ∈ l)) := by
  have hlm : (l.map fun z => [RV.int z]).length = l.length := lmT ..
  refine Yu Try.func121 rfl _ Try.ntmps121 (by simp) fun C g u i h hn hm hu hi => ?_
  repeat' (first
 | (refine Yv (Yt b hb (l.length : Int) (by omega)) rfl hu hi rfl (Ya [.int (l.length : Int)]) rfl rfl (tl hn rfl) ?_; intro i h x hi hx; obtain ⟨x0, x1⟩ := hx.2 (by omega); obtain ⟨s, hs⟩ : ∃ s, l[x.toNat]? = some s := ⟨_, P9 (by omega)⟩)
 | (refine Zg hn rfl rfl rfl ?_; first
 | refine ⟨_, Z0 l.length rfl hlm, ?_⟩)
 | refine Rk Zu hn rfl ?_
 | refine Rl ?_
 | refine Zc 30 rfl ?_
 | (refine Rj 30 rfl ?_; first | ((first | refine Zd rfl ?_ ?_ | refine Ze rfl ?_ ?_); · first | omega | rfl | assumption | (simp only [lmT]; omega)) | ((first | refine Zf rfl ?_ ?_ | refine Za rfl ?_ ?_); · first | omega | rfl | assumption | (simp only [lmT]; omega)) | refine Ri (Zt hm rfl rfl ?_) | exact Ri (Zj hm rfl rfl rfl (nbT rfl) rfl rfl))
 | (refine Zg hn rfl rfl rfl ?_; first
 | refine ⟨_, Zb rfl rfl (by omega) (by assumption), ?_⟩
      ))
  all_goals exact Rj 30 rfl (Ri (V3 hm rfl rfl rfl hi rfl ⟨_, rfl, Re hs⟩))
theorem Uj (b : List UInt8) (hb : b.length ≤ 1048576) (l : List ByteArray) (h0 : 0 < l.length) (hl : l.length ≤ 1000) : Drw Try.prog 123 124 b [U1 l] (QS (· ∈ l)) := by
  have hlm : (l.map fun z => [RV.str z]).length = l.length := lmT ..
  refine Yu Try.func124 rfl _ Try.ntmps124 (by simp) fun C g u i h hn hm hu hi => ?_
  repeat' (first
 | (refine Yv (Yt b hb (l.length : Int) (by omega)) rfl hu hi rfl (Ya [.int (l.length : Int)]) rfl rfl (tl hn rfl) ?_; intro i h x hi hx; obtain ⟨x0, x1⟩ := hx.2 (by omega); obtain ⟨s, hs⟩ : ∃ s, l[x.toNat]? = some s := ⟨_, P9 (by omega)⟩)
 | (refine Zg hn rfl rfl rfl ?_; first
 | refine ⟨_, Z0 l.length rfl hlm, ?_⟩)
 | refine Rk Zu hn rfl ?_
 | refine Rl ?_
 | refine Zc 30 rfl ?_
 | (refine Rj 30 rfl ?_; first | ((first | refine Zd rfl ?_ ?_ | refine Ze rfl ?_ ?_); · first | omega | rfl | assumption | (simp only [lmT]; omega)) | ((first | refine Zf rfl ?_ ?_ | refine Za rfl ?_ ?_); · first | omega | rfl | assumption | (simp only [lmT]; omega)) | refine Ri (Zt hm rfl rfl ?_) | exact Ri (Zj hm rfl rfl rfl (nbT rfl) rfl rfl))
 | (refine Zg hn rfl rfl rfl ?_; first
 | refine ⟨_, Zb rfl rfl (by omega) (by assumption), ?_⟩
      ))
  all_goals exact Rj 30 rfl (Ri (V3 hm rfl rfl rfl hi rfl ⟨_, rfl, Re hs⟩))
def QBy (p : List UInt8 → Prop) (rr : RR) : Prop := ∃ x : List UInt8, rr = .row 5 1 (x.map RV.u8) ∧ p x
theorem Qe (b : List UInt8) (hb : b.length ≤ 1048576) (n : Nat) (hn' : n ≤ 1000) : Drw Try.prog 123 120 b [.int (n : Int)] (QBy fun x => x.length = n) := by
  refine Yu Try.func120 rfl _ Try.ntmps120 (by simp) fun C g u i h hn hm hu hi => ?_
  repeat' (first
 | refine Rk Zu hn rfl ?_
 | refine Rl ?_
 | refine Zc 30 rfl ?_
 | refine Xl (tl hn rfl) ?_
 | (refine Rj 30 rfl ?_; first | ((first | refine Zd rfl ?_ ?_ | refine Ze rfl ?_ ?_); · first | omega | rfl | assumption | (simp only [lmT]; omega)) | ((first | refine Zf rfl ?_ ?_ | refine Za rfl ?_ ?_); · first | omega | rfl | assumption | (simp only [lmT]; omega)) | refine Ri (Zt hm rfl rfl ?_) | exact Ri (Zj hm rfl rfl rfl (nbT rfl) rfl rfl))
 | (refine Zg hn rfl rfl rfl ?_; first
 | refine ⟨_, Zx rfl rfl (by omega), ?_⟩
 | refine ⟨_, Zr rfl rfl rfl rfl rfl rfl, ?_⟩))
  refine Wq 30 rfl (fun m E z => ∃ (j : Nat) (x : List UInt8) (i h : Int), j + m = n ∧ x.length = j ∧ Xv b i ∧ E = [(0, .pin 0 0 g), (1, .int n), (5, .own 1), (6, .int (j : Int))] ∧ z = [Yq 123 u i h, ⟨5, 1, (x.map RV.u8).map .ro⟩]) n [(0, .pin 0 0 g), (1, .int n), (5, .own 1), (6, .int ((0 : Nat) : Int))] ⟨rfl, rfl, rfl, rfl, trivial⟩ ⟨0, [], i, h, by omega, rfl, hi, rfl, rfl⟩ fun m E z ⟨j, x, i, h, hj, hx, hi, hE, hz⟩ ih => ?_
  subst hE; subst hz
  by_cases hlt : j < n
  · have hxl : (x.map RV.u8).length = j := by rw [lmT]; exact hx
    repeat' (first
 | (refine Yv (Bj b hb) rfl hu hi rfl .nil rfl (by first | rfl | repeat' (first | rfl | exact Z5 _ | refine Zy ?_ ?_)) (tl hn rfl) ?_; intro i h y hi hy)
 | refine Rk Zu hn rfl ?_
 | refine Rl ?_
 | refine Zc 30 rfl ?_
 | refine Yr (n := j) rfl rfl rfl rfl rfl rfl (by rw [hxl, Nat.mul_one]) (FreeI.at_ ⟨by simp [Yq, AV.onlys, AV.only], Yi _ _, trivial⟩) (by simp; omega) (by simp; omega) (tl hn rfl) ?_
 | (refine Zg hn rfl rfl rfl ?_; first
 | refine ⟨_, U2 rfl, ?_⟩
 | refine ⟨_, Zr rfl rfl rfl rfl rfl rfl, ?_⟩)
 | (refine Rj 30 rfl ?_; first | ((first | refine Zd rfl ?_ ?_ | refine Ze rfl ?_ ?_); · first | omega | rfl | assumption | (simp only [lmT]; omega)) | ((first | refine Zf rfl ?_ ?_ | refine Za rfl ?_ ?_); · first | omega | rfl | assumption | (simp only [lmT]; omega)) | refine Ri (Zt hm rfl rfl ?_) | exact Ri (Zj hm rfl rfl rfl (nbT rfl) rfl rfl))
 | (refine Zg hn rfl rfl rfl ?_; first
 | refine ⟨_, Zx rfl rfl (by omega), ?_⟩
 | refine ⟨_, Zr rfl rfl rfl rfl rfl rfl, ?_⟩))
    refine Rj 30 rfl ?_
    refine ih (m - 1) _ _ _ (by omega) ⟨j + 1, x ++ [u8i y], i, h, by omega, by simp [hx], hi, rfl, ?_⟩ ⟨rfl, rfl, rfl, rfl, trivial⟩
    simp
  · repeat' (first
 | refine Rk Zu hn rfl ?_
 | refine Rl ?_
 | refine Zc 30 rfl ?_
 | (refine Rj 30 rfl ?_; first | ((first | refine Zd rfl ?_ ?_ | refine Ze rfl ?_ ?_); · first | omega | rfl | assumption | (simp only [lmT]; omega)) | ((first | refine Zf rfl ?_ ?_ | refine Za rfl ?_ ?_); · first | omega | rfl | assumption | (simp only [lmT]; omega)) | refine Ri (Zt hm rfl rfl ?_) | exact Ri (Zj hm rfl rfl rfl (nbT rfl) rfl rfl))
 | (refine Zg hn rfl rfl rfl ?_; first
 | refine ⟨_, Zx rfl rfl (by omega), ?_⟩
 | refine ⟨_, Zr rfl rfl rfl rfl rfl rfl, ?_⟩))
    have ej : j = n := by omega
    subst ej
    exact Rj 30 rfl (Ri (Kh (rs := x.map RV.u8) hm rfl rfl rfl hi rfl (by decide) rfl ⟨x, rfl, hx⟩))
set_option maxRecDepth 100000 in
instance tb_cur : TB Try.prog 123 [(0, 1), (1, 1), (2, 1)] [.slice none 0 0, .int .i64 0, .int .i64 0] := ⟨_, _, _, rfl, rfl, rfl, rfl, by kernel_rfl, by decide⟩
def H8 (b : List UInt8) : Nat → Int
  | 0 => 193017 + b.length
  | j + 1 => (H8 b j * 137 + ((b[j]?.getD 0).toNat : Int) + 11) % 1073741824
theorem hashN_bd (b : List UInt8) (hb : b.length ≤ 1048576) : ∀ j, 0 ≤ H8 b j ∧ H8 b j ≤ 1073741824
  | 0 => by unfold H8; omega
  | j + 1 => by unfold H8; omega
set_option maxRecDepth 100000 in
theorem l1New_u (b : List UInt8) (hb : b.length ≤ 1048576) : ANewU Try.prog 123 64 b := by
  have hlb : (b.map fun z => [RV.u8 z]).length = b.length := lmT ..
  refine Il Try.func64 rfl _ Try.ntmps64 (by simp) fun C u hn hm hu => ?_
  obtain ⟨A, m0, c0, rfl⟩ := hu.shape
  repeat' (first
 | (refine Zg hn rfl rfl rfl ?_; first
 | refine ⟨_, Z0 b.length rfl hlb, ?_⟩
 | refine ⟨_, W9 hu (Y3 (t := 5) Zu rfl), ?_⟩
 | refine ⟨_, W9 hu (Y3 (t := 9) Zu rfl), ?_⟩
 | refine ⟨_, W9 hu (Y3 (t := 20) Zu rfl), ?_⟩)
 | refine Rk Zu hn rfl ?_
 | refine Rl ?_
 | refine Zc 30 rfl ?_
 | (refine Rj 30 rfl ?_; first | refine Zz rfl ?_ | ((first | refine Zd rfl ?_ ?_ | refine Ze rfl ?_ ?_); · first | omega | rfl | assumption | (simp only [lmT]; omega)) | ((first | refine Zf rfl ?_ ?_ | refine Za rfl ?_ ?_); · first | omega | rfl | assumption | (simp only [lmT]; omega)) | refine Ri (Zt hm rfl rfl ?_) | exact Ri (Zj hm rfl rfl rfl (nbT rfl) rfl rfl))
 | refine Z1 rfl (tl hn rfl) ?_
 | (refine Zg hn rfl rfl rfl ?_; first
 | refine ⟨_, Zx rfl rfl (by omega), ?_⟩
 | refine ⟨_, Zb rfl rfl (by omega) (by assumption), ?_⟩
 | refine ⟨_, Z7 rfl rfl (by omega), ?_⟩
      )
 | ((first | refine Zi rfl rfl rfl ?_ ?_ | refine Zh rfl rfl rfl ?_ ?_ | refine Zk rfl rfl rfl ?_ ?_ | refine Zl rfl rfl rfl ?_ ?_) <;> intro h <;> try (exfalso; first | omega | contradiction | (simp only [lmT] at h; omega))))
  refine Yw 30 rfl (fun j => [(0, .ro (.c (.slice A m0 c0))), (3, .int (H8 b j)), (4, .int (j : Int))]) (fun _ => []) (fun _ => True) (min b.length 4000) 0 (Nat.zero_le _) trivial ⟨rfl, rfl, rfl, trivial⟩ rfl fun j hj _ next => ?_
  have hbd := hashN_bd b hb j
  by_cases hlt : j < min b.length 4000
  · obtain ⟨c, hc⟩ : ∃ c, b[(j : Int).toNat]? = some c := ⟨_, P9 (by simp; omega)⟩
    have hcl := c.toNat_lt
    repeat' (first
 | (refine Zg hn rfl rfl rfl ?_; first
 | refine ⟨_, Z0 b.length rfl hlb, ?_⟩
 | refine ⟨_, W9 hu (Y3 (t := 5) Zu rfl), ?_⟩
 | refine ⟨_, W9 hu (Y3 (t := 9) Zu rfl), ?_⟩
 | refine ⟨_, W9 hu (Y3 (t := 20) Zu rfl), ?_⟩)
 | refine Rk Zu hn rfl ?_
 | refine Rl ?_
 | refine Zc 30 rfl ?_
 | (refine Zg hn rfl rfl rfl ?_; first
 | refine ⟨_, Vf rfl, ?_⟩
 | refine ⟨_, pu_and30 rfl rfl, ?_⟩)
 | (refine Rj 30 rfl ?_; first | refine Zz rfl ?_ | ((first | refine Zd rfl ?_ ?_ | refine Ze rfl ?_ ?_); · first | omega | rfl | assumption | (simp only [lmT]; omega)) | ((first | refine Zf rfl ?_ ?_ | refine Za rfl ?_ ?_); · first | omega | rfl | assumption | (simp only [lmT]; omega)) | refine Ri (Zt hm rfl rfl ?_) | exact Ri (Zj hm rfl rfl rfl (nbT rfl) rfl rfl))
 | refine Z1 rfl (tl hn rfl) ?_
 | (refine Zg hn rfl rfl rfl ?_; first
 | refine ⟨_, Zx rfl rfl (by omega), ?_⟩
 | refine ⟨_, Zb rfl rfl (by omega) (by assumption), ?_⟩
 | refine ⟨_, Z7 rfl rfl (by omega), ?_⟩
        )
 | ((first | refine Zi rfl rfl rfl ?_ ?_ | refine Zh rfl rfl rfl ?_ ?_ | refine Zk rfl rfl rfl ?_ ?_ | refine Zl rfl rfl rfl ?_ ?_) <;> intro h <;> try (exfalso; first | omega | contradiction | (simp only [lmT] at h; omega))))
    refine next _ _ ⟨rfl, ?_, rfl, trivial⟩ hlt trivial rfl
    have hc' : b[j]? = some c := hc
    show AV.int _ = AV.int _
    rw [H8, hc']; rfl
  · have ej : j = min b.length 4000 := by omega
    repeat' (first
 | (refine Zg hn rfl rfl rfl ?_; first
 | refine ⟨_, Z0 b.length rfl hlb, ?_⟩
 | refine ⟨_, W9 hu (Y3 (t := 5) Zu rfl), ?_⟩
 | refine ⟨_, W9 hu (Y3 (t := 9) Zu rfl), ?_⟩
 | refine ⟨_, W9 hu (Y3 (t := 20) Zu rfl), ?_⟩)
 | refine Rk Zu hn rfl ?_
 | refine Rl ?_
 | refine Zc 30 rfl ?_
 | (refine Zg hn rfl rfl rfl ?_; first
 | refine ⟨_, Yj rfl, ?_⟩)
 | (refine Rj 30 rfl ?_; first | refine Zz rfl ?_ | ((first | refine Zd rfl ?_ ?_ | refine Ze rfl ?_ ?_); · first | omega | rfl | assumption | (simp only [lmT]; omega)) | ((first | refine Zf rfl ?_ ?_ | refine Za rfl ?_ ?_); · first | omega | rfl | assumption | (simp only [lmT]; omega)) | refine Ri (Zt hm rfl rfl ?_) | exact Ri (Zj hm rfl rfl rfl (nbT rfl) rfl rfl))
 | refine Z1 rfl (tl hn rfl) ?_
 | (refine Zg hn rfl rfl rfl ?_; first
 | refine ⟨_, Zx rfl rfl (by omega), ?_⟩
 | refine ⟨_, Zb rfl rfl (by omega) (by assumption), ?_⟩
 | refine ⟨_, Z7 rfl rfl (by omega), ?_⟩
        )
 | ((first | refine Zi rfl rfl rfl ?_ ?_ | refine Zh rfl rfl rfl ?_ ?_ | refine Zk rfl rfl rfl ?_ ?_ | refine Zl rfl rfl rfl ?_ ?_) <;> intro h <;> try (exfalso; first | omega | contradiction | (simp only [lmT] at h; omega))))
    all_goals exact Rj 30 rfl (Ri (endsNU hm rfl rfl rfl))
def Q1 (x : Int) : List UInt8 := if x = 0 then [] else Lib.decDigits x.natAbs
theorem Ip (x : Int) : (x.tdiv 10).natAbs = x.natAbs / 10 := by
  rw [Int.natAbs_tdiv]; rfl
theorem tmod_abs (x : Int) : (x.tmod 10).natAbs = x.natAbs % 10 := by
  rw [Int.natAbs_tmod]; rfl
theorem Ic (x : Int) (hx : x ≠ 0) : Q1 x = Q1 (x.tdiv 10) ++ [UInt8.ofNat (48 + x.natAbs % 10)] := by
  have h1 := Ip x
  have hn : x.natAbs ≠ 0 := by omega
  unfold Q1
  rw [if_neg hx, Lib.decDigits]
  by_cases h : x.natAbs < 10
  · have h0 : x.tdiv 10 = 0 := by
      have : (x.tdiv 10).natAbs = 0 := by rw [h1]; omega
      omega
    rw [dif_pos h, if_pos h0, Nat.mod_eq_of_lt h]; rfl
  · have h0 : x.tdiv 10 ≠ 0 := by
      intro e
      rw [e] at h1
      simp only [Int.natAbs_zero] at h1
      omega
    rw [dif_neg h, if_neg h0, h1]
theorem itoa_zero : Lib.itoa 0 = [48] := by
  unfold Lib.itoa
  rw [if_neg (by decide), Lib.decDigits, dif_pos (by decide)]; rfl
theorem Oc (n : Int) (h : n < 0) : Lib.itoa n = 45 :: Q1 n := by
  unfold Lib.itoa Q1
  rw [if_pos h, if_neg (by omega)]
theorem Oa (n : Int) (h : 0 < n) : Lib.itoa n = Q1 n := by
  unfold Lib.itoa Q1
  rw [if_neg (by omega), if_neg (by omega), show n.toNat = n.natAbs by omega]
theorem By : ∀ (k u : Nat), u < 10 ^ (k + 1) → (Lib.decDigits u).length ≤ k + 1
  | 0, u, h => by rw [Lib.decDigits, dif_pos (by simpa using h)]; simp
  | k + 1, u, h => by
    rw [Lib.decDigits]
    split
    · simp
    · rw [Ra]
      have := By k (u / 10) (by rw [Nat.pow_succ] at h; omega)
      simp only [Rb, Rc]; omega
theorem Wu (n : Int) (h1 : -9223372036854775808 ≤ n) (h2 : n ≤ 9223372036854775807) : (Lib.itoa n).length ≤ 20 := by
  unfold Lib.itoa
  split
  · have := By 18 n.natAbs (by omega)
    simp only [Rb]; omega
  · have := By 18 n.toNat (by omega)
    omega
section
variable {P : Program} {C : Ctx} {env : Env} {σ : List Ob} {t : Nat} {ty : TypeId} {pos : String} {after : Array Edge} {gd : Option (Nat × Bool)}
theorem Ts {p : Int} (h : -9223372036854775808 ≤ p ∧ p ≤ 9223372036854775807) : IntKind.i64.wrap p = p := by
  simp [IntKind.wrap, IntKind.bits, IntKind.signed]; omega
theorem pu_quo10 {xt yt : TypeId} {x y : Operand} {p : Int} (hx : ev env x = .int p) (hy : ev env y = .int 10) (h : I64 p) : Pur P C ⟨some t, .binOp .quo xt x y yt, ty, pos, after, gd⟩ env σ (.int (p.tdiv 10)) :=
  Xt hx hy (fun w => by
    have h1 : (p.tdiv 10).natAbs = p.natAbs / 10 := by rw [Int.natAbs_tdiv]; rfl
    have hw : IntKind.i64.wrap (p.tdiv 10) = p.tdiv 10 := Ts (by omega)
    simp [go_sem, Op.intDiv, hw])
theorem pu_rem10 {xt yt : TypeId} {x y : Operand} {p : Int} (hx : ev env x = .int p) (hy : ev env y = .int 10) : Pur P C ⟨some t, .binOp .rem xt x y yt, ty, pos, after, gd⟩ env σ (.int (p.tmod 10)) :=
  Xt hx hy (fun w => by
    have h1 : (p.tmod 10).natAbs = p.natAbs % 10 := by rw [Int.natAbs_tmod]; rfl
    have hw : IntKind.i64.wrap (p.tmod 10) = p.tmod 10 := Ts (by omega)
    simp [go_sem, Op.intDiv, hw])
theorem pu_neg {xt : TypeId} {x : Operand} {p : Int} [hs : TI P xt .i64] (hx : ev env x = .int p) (h : I64 (-p)) : Pur P C ⟨some t, .unOp .neg xt x, ty, pos, after, gd⟩ env σ (.int (-p)) :=
  Xh (fun a m hG hσ hH => ⟨.int .i64 (-p), by
    have e := Tv (hH x (by simp [Op.operands])) hx
    simp only [execOp, Op.unary, e]
    simp [go_sem, Int.zero_sub, Ts h], by simp [AV.rel, RV.rel]⟩)
end
theorem ba_cat (l : List UInt8) (s : ByteArray) : (⟨l.toArray⟩ : ByteArray) ++ s = ⟨(l ++ s.data.toList).toArray⟩ := by
  apply ByteArray.ext
  simp
theorem W8 (l : List UInt8) : (⟨l.toArray⟩ : ByteArray).size = l.length := by simp [ByteArray.size]
theorem Iq {d : Int} {x : Nat} {l : List UInt8} (hd : d = (x % 10 : Nat)) : AV.str ((⟨[u8i (48 + d)].toArray⟩ : ByteArray) ++ ⟨l.toArray⟩) = AV.str ⟨(UInt8.ofNat (48 + x % 10) :: l).toArray⟩ := by
  subst hd
  have e : u8i (48 + ((x % 10 : Nat) : Int)) = UInt8.ofNat (48 + x % 10) := by unfold u8i; congr 1; omega
  rw [e, ba_cat]; rfl
theorem Y5 (n : Int) (hI : I64 n) : ACv Try.prog 156 [.int n] (.str ⟨(Lib.itoa n).toArray⟩) := by
  have hlen := Wu n hI.1 hI.2
  refine Yh Try.func156 rfl _ Try.ntmps156 (by simp) fun C hn hm => ?_
  by_cases h0 : n = 0
  · subst h0
    repeat' (first
 | refine Rk Zu hn rfl ?_
 | refine Rl ?_
 | refine Zc 30 rfl ?_
 | (refine Rj 30 rfl ?_; first | refine Zp rfl ?_ | refine Zz rfl ?_ | ((first | refine Zd rfl ?_ ?_ | refine Ze rfl ?_ ?_); · first | omega | rfl | assumption | (simp only [lmT]; omega)) | ((first | refine Zf rfl ?_ ?_ | refine Za rfl ?_ ?_); · first | omega | rfl | assumption | (simp only [lmT]; omega)) | refine Z9 rfl (fun h => ?_) (fun h => ?_) | refine Ri (Zt hm rfl rfl ?_) | exact Ri (Zj hm rfl rfl rfl (nbT rfl) rfl rfl))
 | (refine Zg hn rfl rfl rfl ?_; first
 | refine ⟨_, Zx rfl rfl (by omega), ?_⟩
 | refine ⟨_, Zr rfl rfl rfl rfl rfl rfl, ?_⟩))
    rw [itoa_zero]
  have hd : (Q1 n).length ≤ 20 := by
    rcases Int.lt_or_gt_of_ne h0 with h | h
    · rw [Oc n h] at hlen; simp only [Rb] at hlen; omega
    · rw [Oa n h] at hlen; exact hlen
  repeat' (first
 | refine Rk Zu hn rfl ?_
 | refine Rl ?_
 | refine Zc 30 rfl ?_
 | (refine Rj 30 rfl ?_; first | refine Zp rfl ?_ | refine Zz rfl ?_ | ((first | refine Zd rfl ?_ ?_ | refine Ze rfl ?_ ?_); · first | omega | rfl | assumption | (simp only [lmT]; omega)) | ((first | refine Zf rfl ?_ ?_ | refine Za rfl ?_ ?_); · first | omega | rfl | assumption | (simp only [lmT]; omega)) | refine Z9 rfl (fun h => ?_) (fun h => ?_) | refine Ri (Zt hm rfl rfl ?_) | exact Ri (Zj hm rfl rfl rfl (nbT rfl) rfl rfl))
 | (refine Zg hn rfl rfl rfl ?_; first
 | refine ⟨_, Zx rfl rfl (by omega), ?_⟩
 | refine ⟨_, Zr rfl rfl rfl rfl rfl rfl, ?_⟩))
  refine Wq 30 rfl (fun m E s => ∃ (x : Int) (l : List UInt8), x.natAbs ≤ m ∧ x.natAbs ≤ n.natAbs ∧ I64 x ∧ Q1 n = Q1 x ++ l ∧ E = [(0, .int n), (3, .str ⟨l.toArray⟩), (4, .int x)] ∧ s = []) n.natAbs [(0, .int n), (3, .str ⟨#[]⟩), (4, .int n)] ⟨rfl, rfl, rfl, trivial⟩ ⟨n, [], Nat.le_refl _, Nat.le_refl _, hI, by simp, rfl, rfl⟩ fun m E s ⟨x, l, hm', hxn, hxb, hl, hE, hs⟩ ih => ?_
  subst hE; subst hs
  have hll : l.length ≤ 20 := by rw [hl, Ra] at hd; omega
  by_cases hx : x = 0
  · subst hx
    have hl0 : Q1 n = l := by rw [hl]; simp [Q1]
    clear ih
    repeat' (first
 | refine Rk Zu hn rfl ?_
 | refine Rl ?_
 | refine Zc 30 rfl ?_
 | (refine Zg hn rfl rfl rfl ?_; first
 | refine ⟨_, Ue rfl rfl (by rw [W8]; show 1 + l.length ≤ _; omega), ?_⟩)
 | (refine Rj 30 rfl ?_; first | refine Zp rfl ?_ | refine Zz rfl ?_ | ((first | refine Zd rfl ?_ ?_ | refine Ze rfl ?_ ?_); · first | omega | rfl | assumption | (simp only [lmT]; omega)) | ((first | refine Zf rfl ?_ ?_ | refine Za rfl ?_ ?_); · first | omega | rfl | assumption | (simp only [lmT]; omega)) | refine Z9 rfl (fun h => ?_) (fun h => ?_) | refine Ri (Zt hm rfl rfl ?_) | exact Ri (Zj hm rfl rfl rfl (nbT rfl) rfl rfl))
 | (refine Zg hn rfl rfl rfl ?_; first
 | refine ⟨_, Zx rfl rfl (by omega), ?_⟩
 | refine ⟨_, Zr rfl rfl rfl rfl rfl rfl, ?_⟩))
    · refine rr_ro ?_
      rw [Oc n h, hl0, show (⟨#[45]⟩ : ByteArray) = ⟨[45].toArray⟩ from rfl, ba_cat]
      rfl
    · refine rr_ro ?_
      rw [Oa n (by omega), hl0]
  · have hst := Ic x hx
    have hq := Ip x
    have hr := tmod_abs x
    have hng : I64 (-(x.tmod 10)) := by omega
    repeat' (first
 | refine Rk Zu hn rfl ?_
 | refine Rl ?_
 | refine Zc 30 rfl ?_
 | (refine Zg hn rfl rfl rfl ?_; first
 | refine ⟨_, pu_quo10 rfl rfl hxb, ?_⟩
 | refine ⟨_, pu_rem10 rfl rfl, ?_⟩
 | refine ⟨_, pu_neg rfl hng, ?_⟩
 | refine ⟨_, U2 rfl, ?_⟩
 | refine ⟨_, pu_string (l := [_]) Try.underlying22 Try.underlying5 Try.underlying9 rfl, ?_⟩
 | refine ⟨_, Ue rfl rfl (by rw [W8, W8]; show 1 + l.length ≤ _; omega), ?_⟩)
 | (refine Rj 30 rfl ?_; first | refine Zp rfl ?_ | refine Zz rfl ?_ | ((first | refine Zd rfl ?_ ?_ | refine Ze rfl ?_ ?_); · first | omega | rfl | assumption | (simp only [lmT]; omega)) | ((first | refine Zf rfl ?_ ?_ | refine Za rfl ?_ ?_); · first | omega | rfl | assumption | (simp only [lmT]; omega)) | refine Z9 rfl (fun h => ?_) (fun h => ?_) | refine Ri (Zt hm rfl rfl ?_) | exact Ri (Zj hm rfl rfl rfl (nbT rfl) rfl rfl))
 | (refine Zg hn rfl rfl rfl ?_; first
 | refine ⟨_, Zx rfl rfl (by omega), ?_⟩
 | refine ⟨_, Zr rfl rfl rfl rfl rfl rfl, ?_⟩))
    · refine ih (x.tdiv 10).natAbs _ _ _ (by omega) ⟨x.tdiv 10, UInt8.ofNat (48 + x.natAbs % 10) :: l, Nat.le_refl _, by omega, by omega, ?_, rfl, rfl⟩ ⟨rfl, ?_, rfl, trivial⟩
      · rw [hl, hst]; simp
      · exact Iq (by omega)
    · refine ih (x.tdiv 10).natAbs _ _ _ (by omega) ⟨x.tdiv 10, UInt8.ofNat (48 + x.natAbs % 10) :: l, Nat.le_refl _, by omega, by omega, ?_, rfl, rfl⟩ ⟨rfl, ?_, rfl, trivial⟩
      · rw [hl, hst]; simp
      · exact Iq (by omega)
def IsInt (d : Des) (x : Int) : Prop := 0 ≤ x ∧ x < d.length ∧ ∃ r, d[x.toNat]? = some r ∧ r.kind = 1
def Wr (d : Des) : Nat → List Int
  | 0 => []
  | j + 1 => Wr d j ++ (match d[j]? with | some r => if r.kind = 1 then [(j : Int)] else [] | none => [])
theorem Dj {d : Des} {j : Nat} {r : Rul} (h : d[j]? = some r) (hk : r.kind = 1) : Wr d (j + 1) = Wr d j ++ [(j : Int)] := by simp [Wr, h, hk]
theorem intIdx_no {d : Des} {j : Nat} {r : Rul} (h : d[j]? = some r) (hk : ¬ r.kind = 1) : Wr d (j + 1) = Wr d j := by simp [Wr, h, hk]
theorem Dm (d : Des) : ∀ j, (Wr d j).length ≤ j
  | 0 => by simp [Wr]
  | j + 1 => by
    have := Dm d j
    simp only [Wr, Ra]
    split
    · split <;> simp <;> omega
    · simp; omega
theorem Dl (d : Des) : ∀ j x, x ∈ Wr d j → IsInt d x
  | 0, x, h => by simp [Wr] at h
  | j + 1, x, h => by
    simp only [Wr, List.mem_append] at h
    rcases h with h | h
    · exact Dl d j x h
    · split at h
      · rename_i r hr
        split at h
        · simp at h; subst h
          have := (P8.1 hr).1
          exact ⟨by omega, by omega, r, by simpa using hr, by assumption⟩
        · simp at h
      · simp at h
theorem Dk {d : Des} {r : Rul} (h : d[0]? = some r) (hk : r.kind = 1) : ∀ j, 0 < (Wr d (j + 1)).length
  | 0 => by rw [Dj h hk]; simp
  | j + 1 => by
    have := Dk h hk j
    rw [Wr, Ra]; omega
theorem flat1 {α : Type} (f : α → RV) : ∀ l : List α, (l.map fun z => [f z]).flatten = l.map f
  | [] => rfl
  | x :: l => by simp [flat1 f l]
theorem len1 {α : Type} (f : α → RV) (l : List α) : ∀ x ∈ l.map (fun z => [f z]), x.length = 1 := fun x hx => by
  obtain ⟨z, _, rfl⟩ := List.mem_map.1 hx; rfl
theorem Jw (b : List UInt8) (hb : b.length ≤ 1048576) (d : Des) (hd : d.length ≤ 24) (r0 : Rul) (h0 : d[0]? = some r0) (hk0 : r0.kind = 1) : Drw Try.prog 123 157 b [W1 d] (QI (IsInt d)) := by
  have hlm : (d.map Ws).length = d.length := lmT ..
  refine Yu Try.func157 rfl _ Try.ntmps157 (by simp) fun C g u i h hn hm hu hi => ?_
  repeat' (first
 | refine Rk Zu hn rfl ?_
 | refine Rl ?_
 | refine Zc 30 rfl ?_
 | refine Xl (tl hn rfl) ?_
 | (refine Rj 30 rfl ?_; first | ((first | refine Zd rfl ?_ ?_ | refine Ze rfl ?_ ?_); · first | omega | rfl | assumption | (simp only [lmT]; omega)) | ((first | refine Zf rfl ?_ ?_ | refine Za rfl ?_ ?_); · first | omega | rfl | assumption | (simp only [lmT]; omega)) | refine Ri (Zt hm rfl rfl ?_) | exact Ri (Zj hm rfl rfl rfl (nbT rfl) rfl rfl))
 | refine Z1 rfl (tl hn rfl) ?_
 | (refine Zg hn rfl rfl rfl ?_; first
 | refine ⟨_, Zx rfl rfl (by omega), ?_⟩
 | refine ⟨_, Zb rfl rfl (by omega) (by assumption), ?_⟩
 | refine ⟨_, Zr rfl rfl rfl rfl rfl rfl, ?_⟩))
  refine Yw 30 rfl (fun j => [(0, .pin 0 0 g), (3, .obj 1 0), (5, .own 2), (6, .int (j : Int))]) (fun j => [Yq 123 u i h, ⟨38, 0, [.ro (X4 d)]⟩, ⟨3, 1, ((Wr d j).map RV.int).map .ro⟩]) (fun _ => True) d.length 0 (Nat.zero_le _) trivial ⟨rfl, rfl, rfl, rfl, trivial⟩ rfl fun j hj _ next => ?_
  have hil := Dm d j
  have hxl : ((Wr d j).map RV.int).length = (Wr d j).length := lmT ..
  by_cases hlt : j < d.length
  · obtain ⟨r, hr⟩ : ∃ r, d[(j : Int).toNat]? = some r := ⟨_, P9 (by simpa using hlt)⟩
    have hr' : d[j]? = some r := hr
    by_cases hk : r.kind = 1
    · repeat' (first
 | (refine Zg hn rfl rfl rfl ?_; first
 | refine ⟨_, Z0 d.length rfl hlm, ?_⟩)
 | refine Rk Zu hn rfl ?_
 | refine Rl ?_
 | refine Zc 30 rfl ?_
 | refine Yr (n := (Wr d j).length) rfl rfl rfl rfl rfl rfl (by rw [hxl, Nat.mul_one]) (FreeI.at_ ⟨by simp [Yq, AV.onlys, AV.only], by simp [AV.onlys, AV.only], Yi _ _, trivial⟩) (by simp; omega) (by simp; omega) (tl hn rfl) ?_
 | (refine Zg hn rfl rfl rfl ?_; first
 | refine ⟨_, Zr rfl rfl rfl rfl rfl rfl, ?_⟩)
 | (refine Rj 30 rfl ?_; first | ((first | refine Zd rfl ?_ ?_ | refine Ze rfl ?_ ?_); · first | omega | rfl | assumption | (simp only [lmT]; omega)) | ((first | refine Zf rfl ?_ ?_ | refine Za rfl ?_ ?_); · first | omega | rfl | assumption | (simp only [lmT]; omega)) | refine Ri (Zt hm rfl rfl ?_) | exact Ri (Zj hm rfl rfl rfl (nbT rfl) rfl rfl))
 | refine Z1 rfl (tl hn rfl) ?_
 | (refine Zg hn rfl rfl rfl ?_; first
 | refine ⟨_, Zx rfl rfl (by omega), ?_⟩
 | refine ⟨_, Zb rfl rfl (by omega) (by assumption), ?_⟩
 | refine ⟨_, Zr rfl rfl rfl rfl rfl rfl, ?_⟩))
      exact next _ _ ⟨rfl, rfl, rfl, rfl, trivial⟩ hlt trivial (by rw [Dj hr' hk]; simp)
    · repeat' (first
 | (refine Zg hn rfl rfl rfl ?_; first
 | refine ⟨_, Z0 d.length rfl hlm, ?_⟩)
 | refine Rk Zu hn rfl ?_
 | refine Rl ?_
 | refine Zc 30 rfl ?_
 | (refine Rj 30 rfl ?_; first | ((first | refine Zd rfl ?_ ?_ | refine Ze rfl ?_ ?_); · first | omega | rfl | assumption | (simp only [lmT]; omega)) | ((first | refine Zf rfl ?_ ?_ | refine Za rfl ?_ ?_); · first | omega | rfl | assumption | (simp only [lmT]; omega)) | refine Ri (Zt hm rfl rfl ?_) | exact Ri (Zj hm rfl rfl rfl (nbT rfl) rfl rfl))
 | refine Z1 rfl (tl hn rfl) ?_
 | (refine Zg hn rfl rfl rfl ?_; first
 | refine ⟨_, Zx rfl rfl (by omega), ?_⟩
 | refine ⟨_, Zb rfl rfl (by omega) (by assumption), ?_⟩
 | refine ⟨_, Zr rfl rfl rfl rfl rfl rfl, ?_⟩))
      exact next _ _ ⟨rfl, rfl, rfl, rfl, trivial⟩ hlt trivial (by rw [intIdx_no hr' hk])
  · have ej : j = d.length := by omega
    subst ej
    have hpos : 0 < (Wr d d.length).length := by
      obtain ⟨m, hm⟩ : ∃ m, d.length = m + 1 := ⟨d.length - 1, by have := (P8.1 h0).1; omega⟩
      rw [hm]; exact Dk h0 hk0 m
    repeat' (first
 | (refine Yv (Bi b hb (Wr d d.length) hpos (by omega)) rfl hu hi rfl (.cons (LendsP.own (i := 2) (o := ⟨3, 1, _⟩) (els := (Wr d d.length).map fun z => [RV.int z]) (by decide) rfl (by rw [flat1]) (len1 _ _)) .nil) rfl (by first | rfl | repeat' (first | rfl | exact Z5 _ | refine Zy ?_ ?_)) (tl hn rfl) ?_; intro i h x hi hx)
 | (refine Zg hn rfl rfl rfl ?_; first
 | refine ⟨_, Z0 d.length rfl hlm, ?_⟩)
 | refine Rk Zu hn rfl ?_
 | refine Rl ?_
 | refine Zc 30 rfl ?_
 | (refine Rj 30 rfl ?_; first | ((first | refine Zd rfl ?_ ?_ | refine Ze rfl ?_ ?_); · first | omega | rfl | assumption | (simp only [lmT]; omega)) | ((first | refine Zf rfl ?_ ?_ | refine Za rfl ?_ ?_); · first | omega | rfl | assumption | (simp only [lmT]; omega)) | refine Ri (Zt hm rfl rfl ?_) | exact Ri (Zj hm rfl rfl rfl (nbT rfl) rfl rfl))
 | refine Z1 rfl (tl hn rfl) ?_
 | (refine Zg hn rfl rfl rfl ?_; first
 | refine ⟨_, Zx rfl rfl (by omega), ?_⟩
 | refine ⟨_, Zb rfl rfl (by omega) (by assumption), ?_⟩
 | refine ⟨_, Zr rfl rfl rfl rfl rfl rfl, ?_⟩))
    exact Rj 30 rfl (Ri (V3 hm rfl rfl rfl hi rfl ⟨_, rfl, Dl d _ _ hx⟩))
def Wm : List ByteArray := [⟨#[97]⟩, ⟨#[105, 116, 101, 109]⟩, ⟨#[98]⟩, ⟨#[104, 101, 97, 100]⟩, ⟨#[120]⟩]
def B4 : List ByteArray := [⟨#[112]⟩, ⟨#[113]⟩, ⟨#[114]⟩]
def Wj (n : Int) : ByteArray := ⟨(Lib.itoa n).toArray⟩
theorem X9 : ∀ x ∈ Wm, x.size ≤ 4 := by
  intro x hx
  simp only [Wm, List.mem_cons, List.not_mem_nil, or_false] at hx
  rcases hx with rfl | rfl | rfl | rfl | rfl <;> decide
theorem Px : ∀ x ∈ B4, x.size ≤ 4 := by
  intro x hx
  simp only [B4, List.mem_cons, List.not_mem_nil, or_false] at hx
  rcases hx with rfl | rfl | rfl <;> decide
def InD (d : Des) (z : Int) : Prop := (d.length = 0 → z = 0) ∧ (0 < d.length → 0 ≤ z ∧ z < d.length)
structure Vu (d : Des) (kind : Int) (r : Rul) : Prop where
  hkind : r.kind = kind
  hname : ∃ a ∈ Wm, r.name = a ++ Wj d.length
  hsize : (kind = 1 → 1 ≤ r.size ∧ r.size ≤ 3) ∧ (kind = 3 → 1 ≤ r.size ∧ r.size ≤ 4) ∧ (kind ≠ 1 → kind ≠ 3 → r.size = 0)
  hlittle : r.little = true → kind = 1 ∧ 1 < r.size
  hbytes : (kind = 2 → 1 ≤ r.bytes.length ∧ r.bytes.length ≤ 3) ∧ (kind = 10 → ∃ x ∈ ([0, 10, 59, 255] : List Int), r.bytes = [u8i x]) ∧ (kind ≠ 2 → kind ≠ 10 → r.bytes = [])
  hnames : (kind = 6 → 1 ≤ r.names.length ∧ r.names.length ≤ 3 ∧ ∀ (j : Nat) x, r.names[j]? = some x → ∃ a ∈ B4, x = a ++ Wj ((r.names.length : Int) - j)) ∧ (kind ≠ 6 → r.names = [])
  htags : (kind = 7 → 1 ≤ r.tags.length ∧ r.tags.length ≤ 3 ∧ ∀ (j : Nat) z, r.tags[j]? = some z → 4 * (j : Int) ≤ z ∧ z ≤ 4 * j + 3) ∧ (kind ≠ 7 → r.tags = [])
  hkids : (kind = 4 → ∃ x, IsInt d x ∧ r.kids = [x]) ∧ (kind = 5 → ∃ x y, IsInt d x ∧ InD d y ∧ r.kids = [x, y]) ∧ (kind = 6 → r.kids.length = r.names.length ∧ ∀ z ∈ r.kids, InD d z) ∧
    (kind = 7 → ∃ x l, IsInt d x ∧ l.length = r.tags.length ∧ (∀ z ∈ l, InD d z) ∧ r.kids = x :: l) ∧ (kind = 8 ∨ kind = 9 → ∃ y, InD d y ∧ r.kids = [y]) ∧ (kind = 1 ∨ kind = 2 ∨ kind = 3 ∨ kind = 10 → r.kids = [])
section
variable {d : Des} {a : ByteArray}
theorem ruleD1 {s : Int} {lt : Bool} (ha : a ∈ Wm) (h : 1 ≤ s ∧ s ≤ 3) (hl : lt = true → 1 < s) : Vu d 1 ⟨a ++ Wj d.length, 1, s, lt, [], [], [], []⟩ :=
  ⟨rfl, ⟨a, ha, rfl⟩, by simp; exact h, fun e => ⟨rfl, hl e⟩, by simp, by simp, by simp, by simp⟩
theorem ruleD2 {x : List UInt8} (ha : a ∈ Wm) (h : 1 ≤ x.length ∧ x.length ≤ 3) : Vu d 2 ⟨a ++ Wj d.length, 2, 0, false, x, [], [], []⟩ :=
  ⟨rfl, ⟨a, ha, rfl⟩, by simp, by simp, by simp; exact h, by simp, by simp, by simp⟩
theorem ruleD3 {s : Int} (ha : a ∈ Wm) (h : 1 ≤ s ∧ s ≤ 4) : Vu d 3 ⟨a ++ Wj d.length, 3, s, false, [], [], [], []⟩ :=
  ⟨rfl, ⟨a, ha, rfl⟩, by simp; exact h, by simp, by simp, by simp, by simp, by simp⟩
theorem ruleD4 {x : Int} (ha : a ∈ Wm) (h : IsInt d x) : Vu d 4 ⟨a ++ Wj d.length, 4, 0, false, [], [], [], [x]⟩ :=
  ⟨rfl, ⟨a, ha, rfl⟩, by simp, by simp, by simp, by simp, by simp, by simp [h]⟩
theorem ruleD5 {x y : Int} (ha : a ∈ Wm) (h : IsInt d x) (hy : InD d y) : Vu d 5 ⟨a ++ Wj d.length, 5, 0, false, [], [], [], [x, y]⟩ :=
  ⟨rfl, ⟨a, ha, rfl⟩, by simp, by simp, by simp, by simp, by simp, by simp [h, hy]⟩
theorem ruleD6 {l : List ByteArray} {k : List Int} (ha : a ∈ Wm) (h : 1 ≤ l.length ∧ l.length ≤ 3) (hl : ∀ (j : Nat) x, l[j]? = some x → ∃ a ∈ B4, x = a ++ Wj ((l.length : Int) - j)) (hk : k.length = l.length) (hk' : ∀ z ∈ k, InD d z) : Vu d 6 ⟨a ++ Wj d.length, 6, 0, false, [], l, [], k⟩ :=
  ⟨rfl, ⟨a, ha, rfl⟩, by simp, by simp, by simp, ⟨fun _ => ⟨h.1, h.2, hl⟩, by simp⟩, by simp, by simp; exact ⟨hk, hk'⟩⟩
theorem ruleD7 {t k : List Int} {x : Int} (ha : a ∈ Wm) (h : 1 ≤ t.length ∧ t.length ≤ 3) (ht : ∀ (j : Nat) z, t[j]? = some z → 4 * (j : Int) ≤ z ∧ z ≤ 4 * j + 3) (hx : IsInt d x) (hk : k.length = t.length) (hk' : ∀ z ∈ k, InD d z) : Vu d 7 ⟨a ++ Wj d.length, 7, 0, false, [], [], t, x :: k⟩ :=
  ⟨rfl, ⟨a, ha, rfl⟩, by simp, by simp, by simp, by simp, ⟨fun _ => ⟨h.1, h.2, ht⟩, by simp⟩, ⟨by simp, by simp, by simp, fun _ => ⟨x, k, hx, hk, hk', rfl⟩, by simp, by simp⟩⟩
theorem ruleD8 {y : Int} (ha : a ∈ Wm) (hy : InD d y) : Vu d 8 ⟨a ++ Wj d.length, 8, 0, false, [], [], [], [y]⟩ :=
  ⟨rfl, ⟨a, ha, rfl⟩, by simp, by simp, by simp, by simp, by simp, by simp [hy]⟩
theorem ruleD9 {y : Int} (ha : a ∈ Wm) (hy : InD d y) : Vu d 9 ⟨a ++ Wj d.length, 9, 0, false, [], [], [], [y]⟩ :=
  ⟨rfl, ⟨a, ha, rfl⟩, by simp, by simp, by simp, by simp, by simp, by simp [hy]⟩
theorem ruleD10 {y : Int} (ha : a ∈ Wm) (hy : y ∈ ([0, 10, 59, 255] : List Int)) : Vu d 10 ⟨a ++ Wj d.length, 10, 0, false, [u8i y], [], [], []⟩ :=
  ⟨rfl, ⟨a, ha, rfl⟩, by simp, by simp, ⟨by simp, fun _ => ⟨y, hy, rfl⟩, by simp⟩, by simp, by simp, by simp⟩
end
def Ap (r : Rul) : RR := .agg [.ro (.str r.name), .ro (.int r.kind), .ro (.int r.size), .ro (.bool r.little), .row 5 1 (r.bytes.map RV.u8), .row 9 1 (r.names.map RV.str), .row 3 1 (r.tags.map RV.int), .row 3 1 (r.kids.map RV.int)]
theorem Iu (r : Rul) : Jy (Ap r) = true ∧ Seals (Ap r) (.agg (Ws r)) := by
  have fl : ∀ {α : Type} (f : α → RV) (l : List α), (∀ x, flat (f x) = true) → (l.map f).all flat = true := fun f l h => by simp [h]
  refine ⟨?_, ?_⟩
  · simp only [Ap, Jy, Do, flat, fl RV.u8 r.bytes (fun _ => rfl), fl RV.str r.names (fun _ => rfl), fl RV.int r.tags (fun _ => rfl), fl RV.int r.kids (fun _ => rfl), Bool.and_self]
  · have sl : ∀ {α : Type} (e : TypeId) (f : α → RV) (l : List α), Seals (.row e 1 (l.map f)) (.seq 1 (l.map fun z => [f z])) := fun e f l => by
      simp only [Seals]; exact ⟨_, rfl, flat1 f l, len1 f l⟩
    simp only [Ap, Ws]
    unfold Seals
    refine ⟨_, rfl, ?_⟩
    unfold X3; refine ⟨_, _, rfl, by simp [Seals], ?_⟩
    unfold X3; refine ⟨_, _, rfl, by simp [Seals], ?_⟩
    unfold X3; refine ⟨_, _, rfl, by simp [Seals], ?_⟩
    unfold X3; refine ⟨_, _, rfl, by simp [Seals], ?_⟩
    unfold X3; refine ⟨_, _, rfl, sl _ RV.u8 _, ?_⟩
    unfold X3; refine ⟨_, _, rfl, sl _ RV.str _, ?_⟩
    unfold X3; refine ⟨_, _, rfl, sl _ RV.int _, ?_⟩
    unfold X3; refine ⟨_, _, rfl, sl _ RV.int _, ?_⟩
    unfold X3; rfl
def rC (r : Rul) (a b c d : Nat) : List AV := [.str r.name, .int r.kind, .int r.size, .bool r.little, .own a, .own b, .own c, .own d]
def rowU (l : List UInt8) : Ob := ⟨5, 1, (l.map RV.u8).map .ro⟩
def rowS (l : List ByteArray) : Ob := ⟨9, 1, (l.map RV.str).map .ro⟩
def rowZ (l : List Int) : Ob := ⟨3, 1, (l.map RV.int).map .ro⟩
theorem harv_rul {σ : List Ob} {r : Rul} {a b c d : Nat} (h1 : σ[a]? = some (rowU r.bytes)) (h2 : σ[b]? = some (rowS r.names)) (h3 : σ[c]? = some (rowZ r.tags)) (h4 : σ[d]? = some (rowZ r.kids)) : Qq σ (Ap r) (.agg (rC r a b c d)) [a, b, c, d] := by
  simp only [Ap, rC, Qq, Vk, rowU, rowS, rowZ] at *
  exact ⟨_, rfl, _, _, [], _, rfl, rfl, ⟨rfl, rfl⟩, _, _, [], _, rfl, rfl, ⟨rfl, rfl⟩, _, _, [], _, rfl, rfl, ⟨rfl, rfl⟩, _, _, [], _, rfl, rfl, ⟨rfl, rfl⟩, _, _, [a], _, rfl, rfl, ⟨a, rfl, h1, rfl⟩, _, _, [b], _, rfl, rfl, ⟨b, rfl, h2, rfl⟩, _, _, [c], _, rfl, rfl, ⟨c, rfl, h3, rfl⟩, _, _, [d], [], rfl, rfl, ⟨d, rfl, h4, rfl⟩, rfl, rfl⟩
def P4 (p : Rul → Prop) (rr : RR) : Prop := ∃ r, rr = Ap r ∧ p r
theorem qrul_ok {p : Rul → Prop} : ∀ rr, P4 p rr → Jy rr = true ∧ ∃ r, Seals rr r ∧ ∃ x, r = .agg (Ws x) ∧ p x := by
  rintro _ ⟨x, rfl, hx⟩
  exact ⟨(Iu x).1, _, (Iu x).2, x, rfl, hx⟩
set_option maxRecDepth 100000 in
instance tb_rule : TB Try.prog 52 [(0, 1), (1, 1), (2, 1), (3, 1), (4, 1), (5, 1), (6, 1), (7, 1)] [.string ⟨#[]⟩, .int .i64 0, .int .i64 0, .bool false, .slice none 0 0, .slice none 0 0, .slice none 0 0, .slice none 0 0] := ⟨_, _, _, rfl, rfl, rfl, rfl, by kernel_rfl, by decide⟩
theorem W6 {C : Ctx} {fn : Func} {ct : TypeId} {b : List UInt8} {g : Nat} {u : Value} {p : Rul → Prop} {env : Env} {σ : List Ob} {i h : Int} {more : List Ob} {t j : Nat} {r : Rul} {tt : TypeId} {x y z w : Nat} (hm : ∀ x, C.mu x → x = g) (hr : fn.results = #[.cell t 52]) (hσ : σ = Yq ct u i h :: more) (ht : look env 0 = .pin 0 0 g) (hi : Xv b i) (h1 : look env t = .obj j 0) (h2 : σ[j]? = some ⟨tt, 0, rC r x y z w⟩)
    (k1 : σ[x]? = some (rowU r.bytes)) (k2 : σ[y]? = some (rowS r.names)) (k3 : σ[z]? = some (rowZ r.tags)) (k4 : σ[w]? = some (rowZ r.kids)) (hn : [x, y, z, w].Nodup) (h0 : 0 ∉ [x, y, z, w]) (hQ : p r) : ∀ a w, Sim C ⟨env, σ⟩ a w → Ab Try.prog C fn ct b g u (P4 p) a w :=
  Dp hm hr hσ ht hi (.agg (rC r x y z w)) (by
    simp only [Hb]
    exact ⟨j, 0, _, h1, h2, .inr ⟨8, by infer_instance, Nat.le_refl _, rfl⟩⟩) (Ap r) [x, y, z, w] (harv_rul k1 k2 k3 k4) hn h0 ⟨r, rfl, hQ⟩
set_option maxHeartbeats 8000000 in
theorem l4Make1_d (b : List UInt8) (hb : b.length ≤ 1048576) (d : Des) (hd : d.length ≤ 24) : Drw Try.prog 123 117 b [W1 d, .int 1] (P4 (Vu d 1)) := by
  have hlm : (d.map Ws).length = d.length := lmT ..
  have hF := Y5 (d.length : Int) (by constructor <;> omega)
  have hlen := Wu (d.length : Int) (by omega) (by omega)
  have hfs : (⟨(Lib.itoa (d.length : Int)).toArray⟩ : ByteArray).size ≤ 20 := by rw [W8]; exact hlen
  refine Yu Try.func117 rfl _ Try.ntmps117 (by simp) fun C g u i h hn hm hu hi => ?_
  repeat' (first
 | (refine Vm (Uj b hb Wm (by decide) (by decide)) rfl hu hi rfl (Ya [U1 Wm]) rfl (by first | rfl | repeat' (first | rfl | exact Z5 _ | refine Zy ?_ ?_)) (tl hn rfl) ?_; intro i h a hi ha; have hsz := X9 a ha)
 | (refine Yv (Yt b hb _ (by omega)) rfl hu hi rfl (Ya [.int _]) rfl (by first | rfl | repeat' (first | rfl | exact Z5 _ | refine Zy ?_ ?_)) (tl hn rfl) ?_; intro i h x hi hx; obtain ⟨hxa, hxb⟩ := hx.2 (by omega))
 | refine Qy rfl rfl rfl ?_
 | (refine M3 (M5 b hb 2 (by decide)) rfl hu hi rfl (Ya [.int 2]) rfl (by first | rfl | repeat' (first | rfl | exact Z5 _ | refine Zy ?_ ?_)) (tl hn rfl) ?_; intro i h lt hi)
 | ((first | refine Zg hn rfl rfl rfl ?_ | refine Zm rfl rfl ?_); first
 | refine ⟨_, Z0 d.length rfl hlm, ?_⟩)
 | refine Rk Zu hn rfl ?_
 | refine Rl ?_
 | refine Zc 30 rfl ?_
 | ((first | refine Zg hn rfl rfl rfl ?_ | refine Zm rfl rfl ?_); first
 | refine ⟨_, Zw hF rfl, ?_⟩
 | refine ⟨_, Ue rfl rfl (by omega), ?_⟩
 | refine ⟨_, Yj rfl, ?_⟩)
 | (refine Rj 30 rfl ?_; first | refine Zp rfl ?_ | ((first | refine Zd rfl ?_ ?_ | refine Ze rfl ?_ ?_); · first | omega | rfl | assumption | (simp only [lmT]; omega)) | ((first | refine Zf rfl ?_ ?_ | refine Za rfl ?_ ?_); · first | omega | rfl | assumption | (simp only [lmT]; omega)) | refine Ri (Zt hm rfl rfl ?_) | exact Ri (Zj hm rfl rfl rfl (nbT rfl) rfl rfl))
 | refine Z1 rfl (tl hn rfl) ?_
 | refine Yc rfl rfl rfl rfl (nbT rfl) ?_
 | refine Z6 (tl hn rfl) ?_
 | refine Z3 rfl rfl rfl rfl (nbT rfl) ?_
 | ((first | refine Zg hn rfl rfl rfl ?_ | refine Zm rfl rfl ?_); first
 | refine ⟨_, Zx rfl rfl (by omega), ?_⟩
 | refine ⟨_, Zb rfl rfl (by omega) (by assumption), ?_⟩
 | refine ⟨_, Z4 rfl rfl (by omega), ?_⟩
 | refine ⟨_, Zv rfl rfl rfl, ?_⟩
 | refine ⟨_, Z7 rfl rfl (by omega), ?_⟩
 | refine ⟨_, Zr rfl rfl rfl rfl rfl rfl, ?_⟩)
 | ((first | refine Zi rfl rfl rfl ?_ ?_ | refine Zh rfl rfl rfl ?_ ?_ | refine Zk rfl rfl rfl ?_ ?_ | refine Zl rfl rfl rfl ?_ ?_ | refine Zo rfl rfl rfl ?_ ?_ | refine Zn rfl rfl rfl ?_ ?_ | refine Zq rfl rfl rfl ?_ ?_ | refine Zs rfl rfl rfl ?_ ?_) <;> intro h <;> try (exfalso; first | omega | contradiction | (simp only [lmT] at h; omega))))
  all_goals (
    refine Z8 (e := 5) (sz := 1) 2 4 (by decide) rfl rfl ?_
    refine Z8 (e := 9) (sz := 1) 2 5 (by decide) rfl rfl ?_
    refine Z8 (e := 3) (sz := 1) 2 6 (by decide) rfl rfl ?_
    refine Z8 (e := 3) (sz := 1) 2 7 (by decide) rfl rfl ?_)
  all_goals first
    | exact Rj 30 rfl (Ri (W6 (r := ⟨a ++ Wj d.length, 1, 1 + x, lt, [], [], [], []⟩) (x := 4) (y := 5) (z := 6) (w := 7) hm rfl rfl rfl hi rfl rfl rfl rfl rfl rfl (by decide) (by decide) (ruleD1 ha (by omega) (fun _ => by omega))))
    | exact Rj 30 rfl (Ri (W6 (r := ⟨a ++ Wj d.length, 1, 1 + x, false, [], [], [], []⟩) (x := 4) (y := 5) (z := 6) (w := 7) hm rfl rfl rfl hi rfl rfl rfl rfl rfl rfl (by decide) (by decide) (ruleD1 ha (by omega) (by simp))))
set_option maxHeartbeats 8000000 in
theorem l4Make2_d (b : List UInt8) (hb : b.length ≤ 1048576) (d : Des) (hd : d.length ≤ 24) : Drw Try.prog 123 117 b [W1 d, .int 2] (P4 (Vu d 2)) := by
  have hlm : (d.map Ws).length = d.length := lmT ..
  have hF := Y5 (d.length : Int) (by constructor <;> omega)
  have hlen := Wu (d.length : Int) (by omega) (by omega)
  have hfs : (⟨(Lib.itoa (d.length : Int)).toArray⟩ : ByteArray).size ≤ 20 := by rw [W8]; exact hlen
  refine Yu Try.func117 rfl _ Try.ntmps117 (by simp) fun C g u i h hn hm hu hi => ?_
  repeat' (first
 | (refine Vm (Uj b hb Wm (by decide) (by decide)) rfl hu hi rfl (Ya [U1 Wm]) rfl (by first | rfl | repeat' (first | rfl | exact Z5 _ | refine Zy ?_ ?_)) (tl hn rfl) ?_; intro i h a hi ha; have hsz := X9 a ha)
 | (refine Yv (Yt b hb _ (by omega)) rfl hu hi rfl (Ya [.int _]) rfl (by first | rfl | repeat' (first | rfl | exact Z5 _ | refine Zy ?_ ?_)) (tl hn rfl) ?_; intro i h x hi hx; obtain ⟨hxa, hxb⟩ := hx.2 (by omega); obtain ⟨n3, rfl⟩ : ∃ n3 : Nat, x = n3 := ⟨x.toNat, by omega⟩)
 | (refine Qt (Qe b hb (1 + n3) (by omega)) rfl hu hi rfl rfl rfl (by first | rfl | repeat' (first | rfl | exact Z5 _ | refine Zy ?_ ?_)) (tl hn rfl) ?_; rintro i h _ hi ⟨z, rfl, hz⟩)
 | ((first | refine Zg hn rfl rfl rfl ?_ | refine Zm rfl rfl ?_); first
 | refine ⟨_, Z0 d.length rfl hlm, ?_⟩)
 | refine Rk Zu hn rfl ?_
 | refine Rl ?_
 | refine Zc 30 rfl ?_
 | ((first | refine Zg hn rfl rfl rfl ?_ | refine Zm rfl rfl ?_); first
 | refine ⟨_, Zw hF rfl, ?_⟩
 | refine ⟨_, Ue rfl rfl (by omega), ?_⟩
 | refine ⟨_, Yj rfl, ?_⟩)
 | (refine Rj 30 rfl ?_; first | refine Zp rfl ?_ | refine Zz rfl ?_ | ((first | refine Zd rfl ?_ ?_ | refine Ze rfl ?_ ?_); · first | omega | rfl | assumption | (simp only [lmT]; omega)) | ((first | refine Zf rfl ?_ ?_ | refine Za rfl ?_ ?_); · first | omega | rfl | assumption | (simp only [lmT]; omega)) | refine Ri (Zt hm rfl rfl ?_) | exact Ri (Zj hm rfl rfl rfl (nbT rfl) rfl rfl))
 | refine Z1 rfl (tl hn rfl) ?_
 | refine Yc rfl rfl rfl rfl (nbT rfl) ?_
 | refine Z6 (tl hn rfl) ?_
 | refine Z3 rfl rfl rfl rfl (nbT rfl) ?_
 | ((first | refine Zg hn rfl rfl rfl ?_ | refine Zm rfl rfl ?_); first
 | refine ⟨_, Zx rfl rfl (by omega), ?_⟩
 | refine ⟨_, Zb rfl rfl (by omega) (by assumption), ?_⟩
 | refine ⟨_, Z4 rfl rfl (by omega), ?_⟩
 | refine ⟨_, Zv rfl rfl rfl, ?_⟩
 | refine ⟨_, Z7 rfl rfl (by omega), ?_⟩
 | refine ⟨_, Zr rfl rfl rfl rfl rfl rfl, ?_⟩)
 | ((first | refine Zi rfl rfl rfl ?_ ?_ | refine Zh rfl rfl rfl ?_ ?_ | refine Zk rfl rfl rfl ?_ ?_ | refine Zl rfl rfl rfl ?_ ?_ | refine Zo rfl rfl rfl ?_ ?_ | refine Zn rfl rfl rfl ?_ ?_ | refine Zq rfl rfl rfl ?_ ?_ | refine Zs rfl rfl rfl ?_ ?_) <;> intro h <;> try (exfalso; first | omega | contradiction | (simp only [lmT] at h; omega))))
  all_goals (
    refine Z8 (e := 9) (sz := 1) 2 5 (by decide) rfl rfl ?_
    refine Z8 (e := 3) (sz := 1) 2 6 (by decide) rfl rfl ?_
    refine Z8 (e := 3) (sz := 1) 2 7 (by decide) rfl rfl ?_)
  all_goals first
    | exact Rj 30 rfl (Ri (W6 (r := ⟨a ++ Wj d.length, 2, 0, false, z, [], [], []⟩) (x := 4) (y := 5) (z := 6) (w := 7) hm rfl rfl rfl hi rfl rfl rfl rfl rfl rfl (by decide) (by decide) (ruleD2 ha (by omega))))
set_option maxHeartbeats 8000000 in
theorem l4Make3_d (b : List UInt8) (hb : b.length ≤ 1048576) (d : Des) (hd : d.length ≤ 24) : Drw Try.prog 123 117 b [W1 d, .int 3] (P4 (Vu d 3)) := by
  have hlm : (d.map Ws).length = d.length := lmT ..
  have hF := Y5 (d.length : Int) (by constructor <;> omega)
  have hlen := Wu (d.length : Int) (by omega) (by omega)
  have hfs : (⟨(Lib.itoa (d.length : Int)).toArray⟩ : ByteArray).size ≤ 20 := by rw [W8]; exact hlen
  refine Yu Try.func117 rfl _ Try.ntmps117 (by simp) fun C g u i h hn hm hu hi => ?_
  repeat' (first
 | (refine Vm (Uj b hb Wm (by decide) (by decide)) rfl hu hi rfl (Ya [U1 Wm]) rfl (by first | rfl | repeat' (first | rfl | exact Z5 _ | refine Zy ?_ ?_)) (tl hn rfl) ?_; intro i h a hi ha; have hsz := X9 a ha)
 | (refine Yv (Yt b hb _ (by omega)) rfl hu hi rfl (Ya [.int _]) rfl (by first | rfl | repeat' (first | rfl | exact Z5 _ | refine Zy ?_ ?_)) (tl hn rfl) ?_; intro i h x hi hx; obtain ⟨hxa, hxb⟩ := hx.2 (by omega))
 | ((first | refine Zg hn rfl rfl rfl ?_ | refine Zm rfl rfl ?_); first
 | refine ⟨_, Z0 d.length rfl hlm, ?_⟩)
 | refine Rk Zu hn rfl ?_
 | refine Rl ?_
 | refine Zc 30 rfl ?_
 | ((first | refine Zg hn rfl rfl rfl ?_ | refine Zm rfl rfl ?_); first
 | refine ⟨_, Zw hF rfl, ?_⟩
 | refine ⟨_, Ue rfl rfl (by omega), ?_⟩
 | refine ⟨_, Yj rfl, ?_⟩)
 | (refine Rj 30 rfl ?_; first | refine Zp rfl ?_ | refine Zz rfl ?_ | ((first | refine Zd rfl ?_ ?_ | refine Ze rfl ?_ ?_); · first | omega | rfl | assumption | (simp only [lmT]; omega)) | ((first | refine Zf rfl ?_ ?_ | refine Za rfl ?_ ?_); · first | omega | rfl | assumption | (simp only [lmT]; omega)) | refine Ri (Zt hm rfl rfl ?_) | exact Ri (Zj hm rfl rfl rfl (nbT rfl) rfl rfl))
 | refine Z1 rfl (tl hn rfl) ?_
 | refine Yc rfl rfl rfl rfl (nbT rfl) ?_
 | refine Z6 (tl hn rfl) ?_
 | refine Z3 rfl rfl rfl rfl (nbT rfl) ?_
 | ((first | refine Zg hn rfl rfl rfl ?_ | refine Zm rfl rfl ?_); first
 | refine ⟨_, Zx rfl rfl (by omega), ?_⟩
 | refine ⟨_, Zb rfl rfl (by omega) (by assumption), ?_⟩
 | refine ⟨_, Z4 rfl rfl (by omega), ?_⟩
 | refine ⟨_, Zv rfl rfl rfl, ?_⟩
 | refine ⟨_, Z7 rfl rfl (by omega), ?_⟩
 | refine ⟨_, Zr rfl rfl rfl rfl rfl rfl, ?_⟩)
 | ((first | refine Zi rfl rfl rfl ?_ ?_ | refine Zh rfl rfl rfl ?_ ?_ | refine Zk rfl rfl rfl ?_ ?_ | refine Zl rfl rfl rfl ?_ ?_ | refine Zo rfl rfl rfl ?_ ?_ | refine Zn rfl rfl rfl ?_ ?_ | refine Zq rfl rfl rfl ?_ ?_ | refine Zs rfl rfl rfl ?_ ?_) <;> intro h <;> try (exfalso; first | omega | contradiction | (simp only [lmT] at h; omega))))
  all_goals (
    refine Z8 (e := 5) (sz := 1) 2 4 (by decide) rfl rfl ?_
    refine Z8 (e := 9) (sz := 1) 2 5 (by decide) rfl rfl ?_
    refine Z8 (e := 3) (sz := 1) 2 6 (by decide) rfl rfl ?_
    refine Z8 (e := 3) (sz := 1) 2 7 (by decide) rfl rfl ?_)
  all_goals first
    | exact Rj 30 rfl (Ri (W6 (r := ⟨a ++ Wj d.length, 3, 1 + x, false, [], [], [], []⟩) (x := 4) (y := 5) (z := 6) (w := 7) hm rfl rfl rfl hi rfl rfl rfl rfl rfl rfl (by decide) (by decide) (ruleD3 ha (by omega))))
set_option maxHeartbeats 8000000 in
theorem l4Make4_d (b : List UInt8) (hb : b.length ≤ 1048576) (d : Des) (hd : d.length ≤ 24) (r0 : Rul) (h0 : d[0]? = some r0) (hk0 : r0.kind = 1) : Drw Try.prog 123 117 b [W1 d, .int 4] (P4 (Vu d 4)) := by
  have hlm : (d.map Ws).length = d.length := lmT ..
  have hF := Y5 (d.length : Int) (by constructor <;> omega)
  have hlen := Wu (d.length : Int) (by omega) (by omega)
  have hfs : (⟨(Lib.itoa (d.length : Int)).toArray⟩ : ByteArray).size ≤ 20 := by rw [W8]; exact hlen
  refine Yu Try.func117 rfl _ Try.ntmps117 (by simp) fun C g u i h hn hm hu hi => ?_
  repeat' (first
 | (refine Vm (Uj b hb Wm (by decide) (by decide)) rfl hu hi rfl (Ya [U1 Wm]) rfl (by first | rfl | repeat' (first | rfl | exact Z5 _ | refine Zy ?_ ?_)) (tl hn rfl) ?_; intro i h a hi ha; have hsz := X9 a ha)
 | (refine Yv (Jw b hb d hd r0 h0 hk0) rfl hu hi rfl (Ya [W1 d]) rfl (by first | rfl | repeat' (first | rfl | exact Z5 _ | refine Zy ?_ ?_)) (tl hn rfl) ?_; intro i h x hi hx)
 | refine V0 (t := 56) rfl rfl rfl rfl rfl (tl hn rfl) ?_
 | ((first | refine Zg hn rfl rfl rfl ?_ | refine Zm rfl rfl ?_); first
 | refine ⟨_, Z0 d.length rfl hlm, ?_⟩)
 | refine Rk Zu hn rfl ?_
 | refine Rl ?_
 | refine Zc 30 rfl ?_
 | ((first | refine Zg hn rfl rfl rfl ?_ | refine Zm rfl rfl ?_); first
 | refine ⟨_, Zw hF rfl, ?_⟩
 | refine ⟨_, Ue rfl rfl (by omega), ?_⟩
 | refine ⟨_, Yj rfl, ?_⟩)
 | (refine Rj 30 rfl ?_; first | refine Zp rfl ?_ | refine Zz rfl ?_ | ((first | refine Zd rfl ?_ ?_ | refine Ze rfl ?_ ?_); · first | omega | rfl | assumption | (simp only [lmT]; omega)) | ((first | refine Zf rfl ?_ ?_ | refine Za rfl ?_ ?_); · first | omega | rfl | assumption | (simp only [lmT]; omega)) | refine Ri (Zt hm rfl rfl ?_) | exact Ri (Zj hm rfl rfl rfl (nbT rfl) rfl rfl))
 | refine Z1 rfl (tl hn rfl) ?_
 | refine Yc rfl rfl rfl rfl (nbT rfl) ?_
 | refine Z6 (tl hn rfl) ?_
 | refine Z3 rfl rfl rfl rfl (nbT rfl) ?_
 | ((first | refine Zg hn rfl rfl rfl ?_ | refine Zm rfl rfl ?_); first
 | refine ⟨_, Zx rfl rfl (by omega), ?_⟩
 | refine ⟨_, Zb rfl rfl (by omega) (by assumption), ?_⟩
 | refine ⟨_, Z4 rfl rfl (by omega), ?_⟩
 | refine ⟨_, Zv rfl rfl rfl, ?_⟩
 | refine ⟨_, Z7 rfl rfl (by omega), ?_⟩
 | refine ⟨_, Zr rfl rfl rfl rfl rfl rfl, ?_⟩)
 | ((first | refine Zi rfl rfl rfl ?_ ?_ | refine Zh rfl rfl rfl ?_ ?_ | refine Zk rfl rfl rfl ?_ ?_ | refine Zl rfl rfl rfl ?_ ?_ | refine Zo rfl rfl rfl ?_ ?_ | refine Zn rfl rfl rfl ?_ ?_ | refine Zq rfl rfl rfl ?_ ?_ | refine Zs rfl rfl rfl ?_ ?_) <;> intro h <;> try (exfalso; first | omega | contradiction | (simp only [lmT] at h; omega))))
  all_goals (
    refine Z8 (e := 5) (sz := 1) 2 4 (by decide) rfl rfl ?_
    refine Z8 (e := 9) (sz := 1) 2 5 (by decide) rfl rfl ?_
    refine Z8 (e := 3) (sz := 1) 2 6 (by decide) rfl rfl ?_)
  all_goals first
    | exact Rj 30 rfl (Ri (W6 (r := ⟨a ++ Wj d.length, 4, 0, false, [], [], [], [x]⟩) (x := 5) (y := 6) (z := 7) (w := 4) hm rfl rfl rfl hi rfl rfl rfl rfl rfl rfl (by decide) (by decide) (ruleD4 ha hx)))
set_option maxHeartbeats 8000000 in
theorem l4Make5_d (b : List UInt8) (hb : b.length ≤ 1048576) (d : Des) (hd : d.length ≤ 24) (r0 : Rul) (h0 : d[0]? = some r0) (hk0 : r0.kind = 1) : Drw Try.prog 123 117 b [W1 d, .int 5] (P4 (Vu d 5)) := by
  have hlm : (d.map Ws).length = d.length := lmT ..
  have hF := Y5 (d.length : Int) (by constructor <;> omega)
  have hlen := Wu (d.length : Int) (by omega) (by omega)
  have hfs : (⟨(Lib.itoa (d.length : Int)).toArray⟩ : ByteArray).size ≤ 20 := by rw [W8]; exact hlen
  refine Yu Try.func117 rfl _ Try.ntmps117 (by simp) fun C g u i h hn hm hu hi => ?_
  repeat' (first
 | (refine Vm (Uj b hb Wm (by decide) (by decide)) rfl hu hi rfl (Ya [U1 Wm]) rfl (by first | rfl | repeat' (first | rfl | exact Z5 _ | refine Zy ?_ ?_)) (tl hn rfl) ?_; intro i h a hi ha; have hsz := X9 a ha)
 | (refine Yv (Jw b hb d hd r0 h0 hk0) rfl hu hi rfl (Ya [W1 d]) rfl (by first | rfl | repeat' (first | rfl | exact Z5 _ | refine Zy ?_ ?_)) (tl hn rfl) ?_; intro i h x hi hx)
 | (refine Yv (Yt b hb (d.length : Int) (by omega)) rfl hu hi rfl (Ya [.int (d.length : Int)]) rfl (by first | rfl | repeat' (first | rfl | exact Z5 _ | refine Zy ?_ ?_)) (tl hn rfl) ?_; intro i h y hi hy; have hyd : InD d y := ⟨fun e => hy.1 (by omega), fun e => hy.2 (by omega)⟩)
 | refine V0 (t := 66) rfl rfl rfl rfl rfl (tl hn rfl) ?_
 | ((first | refine Zg hn rfl rfl rfl ?_ | refine Zm rfl rfl ?_); first
 | refine ⟨_, Z0 d.length rfl hlm, ?_⟩)
 | refine Rk Zu hn rfl ?_
 | refine Rl ?_
 | refine Zc 30 rfl ?_
 | ((first | refine Zg hn rfl rfl rfl ?_ | refine Zm rfl rfl ?_); first
 | refine ⟨_, Zw hF rfl, ?_⟩
 | refine ⟨_, Ue rfl rfl (by omega), ?_⟩
 | refine ⟨_, Yj rfl, ?_⟩)
 | (refine Rj 30 rfl ?_; first | refine Zp rfl ?_ | refine Zz rfl ?_ | ((first | refine Zd rfl ?_ ?_ | refine Ze rfl ?_ ?_); · first | omega | rfl | assumption | (simp only [lmT]; omega)) | ((first | refine Zf rfl ?_ ?_ | refine Za rfl ?_ ?_); · first | omega | rfl | assumption | (simp only [lmT]; omega)) | refine Ri (Zt hm rfl rfl ?_) | exact Ri (Zj hm rfl rfl rfl (nbT rfl) rfl rfl))
 | refine Z1 rfl (tl hn rfl) ?_
 | refine Yc rfl rfl rfl rfl (nbT rfl) ?_
 | refine Z6 (tl hn rfl) ?_
 | refine Z3 rfl rfl rfl rfl (nbT rfl) ?_
 | ((first | refine Zg hn rfl rfl rfl ?_ | refine Zm rfl rfl ?_); first
 | refine ⟨_, Zx rfl rfl (by omega), ?_⟩
 | refine ⟨_, Zb rfl rfl (by omega) (by assumption), ?_⟩
 | refine ⟨_, Z4 rfl rfl (by omega), ?_⟩
 | refine ⟨_, Zv rfl rfl rfl, ?_⟩
 | refine ⟨_, Z7 rfl rfl (by omega), ?_⟩
 | refine ⟨_, Zr rfl rfl rfl rfl rfl rfl, ?_⟩)
 | ((first | refine Zi rfl rfl rfl ?_ ?_ | refine Zh rfl rfl rfl ?_ ?_ | refine Zk rfl rfl rfl ?_ ?_ | refine Zl rfl rfl rfl ?_ ?_ | refine Zo rfl rfl rfl ?_ ?_ | refine Zn rfl rfl rfl ?_ ?_ | refine Zq rfl rfl rfl ?_ ?_ | refine Zs rfl rfl rfl ?_ ?_) <;> intro h <;> try (exfalso; first | omega | contradiction | (simp only [lmT] at h; omega))))
  all_goals (
    refine Z8 (e := 5) (sz := 1) 2 4 (by decide) rfl rfl ?_
    refine Z8 (e := 9) (sz := 1) 2 5 (by decide) rfl rfl ?_
    refine Z8 (e := 3) (sz := 1) 2 6 (by decide) rfl rfl ?_)
  all_goals first
    | exact Rj 30 rfl (Ri (W6 (r := ⟨a ++ Wj d.length, 5, 0, false, [], [], [], [x, y]⟩) (x := 5) (y := 6) (z := 7) (w := 4) hm rfl rfl rfl hi rfl rfl rfl rfl rfl rfl (by decide) (by decide) (ruleD5 ha hx hyd)))
set_option maxHeartbeats 8000000 in
theorem l4Make8_d (b : List UInt8) (hb : b.length ≤ 1048576) (d : Des) (hd : d.length ≤ 24) : Drw Try.prog 123 117 b [W1 d, .int 8] (P4 (Vu d 8)) := by
  have hlm : (d.map Ws).length = d.length := lmT ..
  have hF := Y5 (d.length : Int) (by constructor <;> omega)
  have hlen := Wu (d.length : Int) (by omega) (by omega)
  have hfs : (⟨(Lib.itoa (d.length : Int)).toArray⟩ : ByteArray).size ≤ 20 := by rw [W8]; exact hlen
  refine Yu Try.func117 rfl _ Try.ntmps117 (by simp) fun C g u i h hn hm hu hi => ?_
  repeat' (first
 | (refine Vm (Uj b hb Wm (by decide) (by decide)) rfl hu hi rfl (Ya [U1 Wm]) rfl (by first | rfl | repeat' (first | rfl | exact Z5 _ | refine Zy ?_ ?_)) (tl hn rfl) ?_; intro i h a hi ha; have hsz := X9 a ha)
 | (refine Yv (Yt b hb (d.length : Int) (by omega)) rfl hu hi rfl (Ya [.int (d.length : Int)]) rfl (by first | rfl | repeat' (first | rfl | exact Z5 _ | refine Zy ?_ ?_)) (tl hn rfl) ?_; intro i h y hi hy; have hyd : InD d y := ⟨fun e => hy.1 (by omega), fun e => hy.2 (by omega)⟩)
 | refine V0 (t := 136) rfl rfl rfl rfl rfl (tl hn rfl) ?_
 | ((first | refine Zg hn rfl rfl rfl ?_ | refine Zm rfl rfl ?_); first
 | refine ⟨_, Z0 d.length rfl hlm, ?_⟩)
 | refine Rk Zu hn rfl ?_
 | refine Rl ?_
 | refine Zc 30 rfl ?_
 | ((first | refine Zg hn rfl rfl rfl ?_ | refine Zm rfl rfl ?_); first
 | refine ⟨_, Zw hF rfl, ?_⟩
 | refine ⟨_, Ue rfl rfl (by omega), ?_⟩
 | refine ⟨_, Yj rfl, ?_⟩)
 | (refine Rj 30 rfl ?_; first | refine Zp rfl ?_ | refine Zz rfl ?_ | ((first | refine Zd rfl ?_ ?_ | refine Ze rfl ?_ ?_); · first | omega | rfl | assumption | (simp only [lmT]; omega)) | ((first | refine Zf rfl ?_ ?_ | refine Za rfl ?_ ?_); · first | omega | rfl | assumption | (simp only [lmT]; omega)) | refine Ri (Zt hm rfl rfl ?_) | exact Ri (Zj hm rfl rfl rfl (nbT rfl) rfl rfl))
 | refine Z1 rfl (tl hn rfl) ?_
 | refine Yc rfl rfl rfl rfl (nbT rfl) ?_
 | refine Z6 (tl hn rfl) ?_
 | refine Z3 rfl rfl rfl rfl (nbT rfl) ?_
 | ((first | refine Zg hn rfl rfl rfl ?_ | refine Zm rfl rfl ?_); first
 | refine ⟨_, Zx rfl rfl (by omega), ?_⟩
 | refine ⟨_, Zb rfl rfl (by omega) (by assumption), ?_⟩
 | refine ⟨_, Z4 rfl rfl (by omega), ?_⟩
 | refine ⟨_, Zv rfl rfl rfl, ?_⟩
 | refine ⟨_, Z7 rfl rfl (by omega), ?_⟩
 | refine ⟨_, Zr rfl rfl rfl rfl rfl rfl, ?_⟩)
 | ((first | refine Zi rfl rfl rfl ?_ ?_ | refine Zh rfl rfl rfl ?_ ?_ | refine Zk rfl rfl rfl ?_ ?_ | refine Zl rfl rfl rfl ?_ ?_ | refine Zo rfl rfl rfl ?_ ?_ | refine Zn rfl rfl rfl ?_ ?_ | refine Zq rfl rfl rfl ?_ ?_ | refine Zs rfl rfl rfl ?_ ?_) <;> intro h <;> try (exfalso; first | omega | contradiction | (simp only [lmT] at h; omega))))
  all_goals (
    refine Z8 (e := 5) (sz := 1) 2 4 (by decide) rfl rfl ?_
    refine Z8 (e := 9) (sz := 1) 2 5 (by decide) rfl rfl ?_
    refine Z8 (e := 3) (sz := 1) 2 6 (by decide) rfl rfl ?_)
  all_goals first
    | exact Rj 30 rfl (Ri (W6 (r := ⟨a ++ Wj d.length, 8, 0, false, [], [], [], [y]⟩) (x := 5) (y := 6) (z := 7) (w := 4) hm rfl rfl rfl hi rfl rfl rfl rfl rfl rfl (by decide) (by decide) (ruleD8 ha hyd)))
set_option maxHeartbeats 8000000 in
theorem l4Make9_d (b : List UInt8) (hb : b.length ≤ 1048576) (d : Des) (hd : d.length ≤ 24) : Drw Try.prog 123 117 b [W1 d, .int 9] (P4 (Vu d 9)) := by
  have hlm : (d.map Ws).length = d.length := lmT ..
  have hF := Y5 (d.length : Int) (by constructor <;> omega)
  have hlen := Wu (d.length : Int) (by omega) (by omega)
  have hfs : (⟨(Lib.itoa (d.length : Int)).toArray⟩ : ByteArray).size ≤ 20 := by rw [W8]; exact hlen
  refine Yu Try.func117 rfl _ Try.ntmps117 (by simp) fun C g u i h hn hm hu hi => ?_
  repeat' (first
 | (refine Vm (Uj b hb Wm (by decide) (by decide)) rfl hu hi rfl (Ya [U1 Wm]) rfl (by first | rfl | repeat' (first | rfl | exact Z5 _ | refine Zy ?_ ?_)) (tl hn rfl) ?_; intro i h a hi ha; have hsz := X9 a ha)
 | (refine Yv (Yt b hb (d.length : Int) (by omega)) rfl hu hi rfl (Ya [.int (d.length : Int)]) rfl (by first | rfl | repeat' (first | rfl | exact Z5 _ | refine Zy ?_ ?_)) (tl hn rfl) ?_; intro i h y hi hy; have hyd : InD d y := ⟨fun e => hy.1 (by omega), fun e => hy.2 (by omega)⟩)
 | refine V0 (t := 136) rfl rfl rfl rfl rfl (tl hn rfl) ?_
 | ((first | refine Zg hn rfl rfl rfl ?_ | refine Zm rfl rfl ?_); first
 | refine ⟨_, Z0 d.length rfl hlm, ?_⟩)
 | refine Rk Zu hn rfl ?_
 | refine Rl ?_
 | refine Zc 30 rfl ?_
 | ((first | refine Zg hn rfl rfl rfl ?_ | refine Zm rfl rfl ?_); first
 | refine ⟨_, Zw hF rfl, ?_⟩
 | refine ⟨_, Ue rfl rfl (by omega), ?_⟩
 | refine ⟨_, Yj rfl, ?_⟩)
 | (refine Rj 30 rfl ?_; first | refine Zp rfl ?_ | refine Zz rfl ?_ | ((first | refine Zd rfl ?_ ?_ | refine Ze rfl ?_ ?_); · first | omega | rfl | assumption | (simp only [lmT]; omega)) | ((first | refine Zf rfl ?_ ?_ | refine Za rfl ?_ ?_); · first | omega | rfl | assumption | (simp only [lmT]; omega)) | refine Ri (Zt hm rfl rfl ?_) | exact Ri (Zj hm rfl rfl rfl (nbT rfl) rfl rfl))
 | refine Z1 rfl (tl hn rfl) ?_
 | refine Yc rfl rfl rfl rfl (nbT rfl) ?_
 | refine Z6 (tl hn rfl) ?_
 | refine Z3 rfl rfl rfl rfl (nbT rfl) ?_
 | ((first | refine Zg hn rfl rfl rfl ?_ | refine Zm rfl rfl ?_); first
 | refine ⟨_, Zx rfl rfl (by omega), ?_⟩
 | refine ⟨_, Zb rfl rfl (by omega) (by assumption), ?_⟩
 | refine ⟨_, Z4 rfl rfl (by omega), ?_⟩
 | refine ⟨_, Zv rfl rfl rfl, ?_⟩
 | refine ⟨_, Z7 rfl rfl (by omega), ?_⟩
 | refine ⟨_, Zr rfl rfl rfl rfl rfl rfl, ?_⟩)
 | ((first | refine Zi rfl rfl rfl ?_ ?_ | refine Zh rfl rfl rfl ?_ ?_ | refine Zk rfl rfl rfl ?_ ?_ | refine Zl rfl rfl rfl ?_ ?_ | refine Zo rfl rfl rfl ?_ ?_ | refine Zn rfl rfl rfl ?_ ?_ | refine Zq rfl rfl rfl ?_ ?_ | refine Zs rfl rfl rfl ?_ ?_) <;> intro h <;> try (exfalso; first | omega | contradiction | (simp only [lmT] at h; omega))))
  all_goals (
    refine Z8 (e := 5) (sz := 1) 2 4 (by decide) rfl rfl ?_
    refine Z8 (e := 9) (sz := 1) 2 5 (by decide) rfl rfl ?_
    refine Z8 (e := 3) (sz := 1) 2 6 (by decide) rfl rfl ?_)
  all_goals first
    | exact Rj 30 rfl (Ri (W6 (r := ⟨a ++ Wj d.length, 9, 0, false, [], [], [], [y]⟩) (x := 5) (y := 6) (z := 7) (w := 4) hm rfl rfl rfl hi rfl rfl rfl rfl rfl rfl (by decide) (by decide) (ruleD9 ha hyd)))
set_option maxHeartbeats 8000000 in
theorem Pj (b : List UInt8) (hb : b.length ≤ 1048576) (d : Des) (hd : d.length ≤ 24) : Drw Try.prog 123 117 b [W1 d, .int 10] (P4 (Vu d 10)) := by
  have hlm : (d.map Ws).length = d.length := lmT ..
  have hF := Y5 (d.length : Int) (by constructor <;> omega)
  have hlen := Wu (d.length : Int) (by omega) (by omega)
  have hfs : (⟨(Lib.itoa (d.length : Int)).toArray⟩ : ByteArray).size ≤ 20 := by rw [W8]; exact hlen
  refine Yu Try.func117 rfl _ Try.ntmps117 (by simp) fun C g u i h hn hm hu hi => ?_
  repeat' (first
 | (refine Vm (Uj b hb Wm (by decide) (by decide)) rfl hu hi rfl (Ya [U1 Wm]) rfl (by first | rfl | repeat' (first | rfl | exact Z5 _ | refine Zy ?_ ?_)) (tl hn rfl) ?_; intro i h a hi ha; have hsz := X9 a ha)
 | (refine Yv (Bi b hb [0, 10, 59, 255] (by decide) (by decide)) rfl hu hi rfl (Ya [Xc [0, 10, 59, 255]]) rfl (by first | rfl | repeat' (first | rfl | exact Z5 _ | refine Zy ?_ ?_)) (tl hn rfl) ?_; intro i h y hi hy)
 | refine V0 (t := 144) rfl rfl rfl rfl rfl (tl hn rfl) ?_
 | ((first | refine Zg hn rfl rfl rfl ?_ | refine Zm rfl rfl ?_); first
 | refine ⟨_, Z0 d.length rfl hlm, ?_⟩)
 | refine Rk Zu hn rfl ?_
 | refine Rl ?_
 | refine Zc 30 rfl ?_
 | ((first | refine Zg hn rfl rfl rfl ?_ | refine Zm rfl rfl ?_); first
 | refine ⟨_, Zw hF rfl, ?_⟩
 | refine ⟨_, Ue rfl rfl (by omega), ?_⟩
 | refine ⟨_, Yj rfl, ?_⟩
 | refine ⟨_, U2 rfl, ?_⟩)
 | (refine Rj 30 rfl ?_; first | refine Zp rfl ?_ | refine Zz rfl ?_ | ((first | refine Zd rfl ?_ ?_ | refine Ze rfl ?_ ?_); · first | omega | rfl | assumption | (simp only [lmT]; omega)) | ((first | refine Zf rfl ?_ ?_ | refine Za rfl ?_ ?_); · first | omega | rfl | assumption | (simp only [lmT]; omega)) | refine Ri (Zt hm rfl rfl ?_) | exact Ri (Zj hm rfl rfl rfl (nbT rfl) rfl rfl))
 | refine Z1 rfl (tl hn rfl) ?_
 | refine Yc rfl rfl rfl rfl (nbT rfl) ?_
 | refine Z6 (tl hn rfl) ?_
 | refine Z3 rfl rfl rfl rfl (nbT rfl) ?_
 | ((first | refine Zg hn rfl rfl rfl ?_ | refine Zm rfl rfl ?_); first
 | refine ⟨_, Zx rfl rfl (by omega), ?_⟩
 | refine ⟨_, Zb rfl rfl (by omega) (by assumption), ?_⟩
 | refine ⟨_, Z4 rfl rfl (by omega), ?_⟩
 | refine ⟨_, Zv rfl rfl rfl, ?_⟩
 | refine ⟨_, Z7 rfl rfl (by omega), ?_⟩
 | refine ⟨_, Zr rfl rfl rfl rfl rfl rfl, ?_⟩)
 | ((first | refine Zi rfl rfl rfl ?_ ?_ | refine Zh rfl rfl rfl ?_ ?_ | refine Zk rfl rfl rfl ?_ ?_ | refine Zl rfl rfl rfl ?_ ?_ | refine Zo rfl rfl rfl ?_ ?_ | refine Zn rfl rfl rfl ?_ ?_ | refine Zq rfl rfl rfl ?_ ?_ | refine Zs rfl rfl rfl ?_ ?_) <;> intro h <;> try (exfalso; first | omega | contradiction | (simp only [lmT] at h; omega))))
  all_goals (
    refine Z8 (e := 9) (sz := 1) 2 5 (by decide) rfl rfl ?_
    refine Z8 (e := 3) (sz := 1) 2 6 (by decide) rfl rfl ?_
    refine Z8 (e := 3) (sz := 1) 2 7 (by decide) rfl rfl ?_)
  all_goals first
    | exact Rj 30 rfl (Ri (W6 (r := ⟨a ++ Wj d.length, 10, 0, false, [u8i y], [], [], []⟩) (x := 4) (y := 5) (z := 6) (w := 7) hm rfl rfl rfl hi rfl rfl rfl rfl rfl rfl (by decide) (by decide) (ruleD10 ha hy)))
set_option maxHeartbeats 8000000 in
theorem l4Make6_d (b : List UInt8) (hb : b.length ≤ 1048576) (d : Des) (hd : d.length ≤ 24) : Drw Try.prog 123 117 b [W1 d, .int 6] (P4 (Vu d 6)) := by
  have hlm : (d.map Ws).length = d.length := lmT ..
  have hF := Y5 (d.length : Int) (by constructor <;> omega)
  have hlen := Wu (d.length : Int) (by omega) (by omega)
  have hfs : (⟨(Lib.itoa (d.length : Int)).toArray⟩ : ByteArray).size ≤ 20 := by rw [W8]; exact hlen
  refine Yu Try.func117 rfl _ Try.ntmps117 (by simp) fun C g u i h hn hm hu hi => ?_
  repeat' (first
 | (refine Vm (Uj b hb Wm (by decide) (by decide)) rfl hu hi rfl (Ya [U1 Wm]) rfl (by first | rfl | repeat' (first | rfl | exact Z5 _ | refine Zy ?_ ?_)) (tl hn rfl) ?_; intro i h a hi ha; have hsz := X9 a ha)
 | (refine Yv (Yt b hb _ (by omega)) rfl hu hi rfl (Ya [.int _]) rfl (by first | rfl | repeat' (first | rfl | exact Z5 _ | refine Zy ?_ ?_)) (tl hn rfl) ?_; intro i h x hi hx; obtain ⟨hxa, hxb⟩ := hx.2 (by omega))
 | ((first | refine Zg hn rfl rfl rfl ?_ | refine Zm rfl rfl ?_); first
 | refine ⟨_, Z0 d.length rfl hlm, ?_⟩)
 | refine Rk Zu hn rfl ?_
 | refine Rl ?_
 | refine Zc 30 rfl ?_
 | ((first | refine Zg hn rfl rfl rfl ?_ | refine Zm rfl rfl ?_); first
 | refine ⟨_, Zw hF rfl, ?_⟩
 | refine ⟨_, Ue rfl rfl (by omega), ?_⟩
 | refine ⟨_, Yj rfl, ?_⟩)
 | (refine Rj 30 rfl ?_; first | refine Zp rfl ?_ | refine Zz rfl ?_ | ((first | refine Zd rfl ?_ ?_ | refine Ze rfl ?_ ?_); · first | omega | rfl | assumption | (simp only [lmT]; omega)) | ((first | refine Zf rfl ?_ ?_ | refine Za rfl ?_ ?_); · first | omega | rfl | assumption | (simp only [lmT]; omega)) | refine Ri (Zt hm rfl rfl ?_) | exact Ri (Zj hm rfl rfl rfl (nbT rfl) rfl rfl))
 | refine Z1 rfl (tl hn rfl) ?_
 | refine Yc rfl rfl rfl rfl (nbT rfl) ?_
 | refine Z6 (tl hn rfl) ?_
 | refine Z3 rfl rfl rfl rfl (nbT rfl) ?_
 | ((first | refine Zg hn rfl rfl rfl ?_ | refine Zm rfl rfl ?_); first
 | refine ⟨_, Zx rfl rfl (by omega), ?_⟩
 | refine ⟨_, Zb rfl rfl (by omega) (by assumption), ?_⟩
 | refine ⟨_, Z4 rfl rfl (by omega), ?_⟩
 | refine ⟨_, Zv rfl rfl rfl, ?_⟩
 | refine ⟨_, Z7 rfl rfl (by omega), ?_⟩
 | refine ⟨_, Zr rfl rfl rfl rfl rfl rfl, ?_⟩)
 | ((first | refine Zi rfl rfl rfl ?_ ?_ | refine Zh rfl rfl rfl ?_ ?_ | refine Zk rfl rfl rfl ?_ ?_ | refine Zl rfl rfl rfl ?_ ?_ | refine Zo rfl rfl rfl ?_ ?_ | refine Zn rfl rfl rfl ?_ ?_ | refine Zq rfl rfl rfl ?_ ?_ | refine Zs rfl rfl rfl ?_ ?_) <;> intro h <;> try (exfalso; first | omega | contradiction | (simp only [lmT] at h; omega))))
  obtain ⟨c, hc⟩ : ∃ c : Nat, 1 + x = c := ⟨(1 + x).toNat, by omega⟩
  rw [hc]
  refine Z8 (e := 9) (sz := 1) 3 5 (by decide) rfl rfl ?_
  refine Z8 (e := 3) (sz := 1) 3 7 (by decide) rfl rfl ?_
  refine Wq 30 rfl (fun m E z => ∃ (l : List ByteArray) (ks : List Int) (i h : Int), l.length + m = c ∧ ks.length = l.length ∧ (∀ (j : Nat) x, l[j]? = some x → ∃ a ∈ B4, x = a ++ Wj ((c : Int) - j)) ∧ (∀ z ∈ ks, InD d z) ∧ Xv b i ∧ E = [(0, .pin 0 0 g), (6, .obj 2 0), (7, .int d.length), (8, .obj 3 0), (9, .int m)] ∧
    z = [Yq 123 u i h, ⟨38, 0, [.ro (X4 d)]⟩, ⟨52, 0, [.str ⟨#[]⟩, .int 0, .int 0, .bool false, .nil, .nil, .nil, .nil]⟩, ⟨52, 0, [.str (a ++ Wj d.length), .int 6, .int 0, .bool false, .nil, .own 4, .nil, .own 5]⟩, ⟨9, 1, (l.map RV.str).map .ro⟩, ⟨3, 1, (ks.map RV.int).map .ro⟩]) c [(0, .pin 0 0 g), (6, .obj 2 0), (7, .int d.length), (8, .obj 3 0), (9, .int c)] ⟨rfl, rfl, rfl, rfl, rfl, trivial⟩ ⟨[], [], i, h, by simp, rfl, by simp, by simp, hi, rfl, rfl⟩ fun m E z ⟨l, ks, i, h, hlc, hkl, hl, hks, hi, hE, hz⟩ ih => ?_
  subst hE; subst hz
  have hll : (l.map RV.str).length = l.length := lmT ..
  have hkk : (ks.map RV.int).length = ks.length := lmT ..
  have hF2 := Y5 (m : Int) (by constructor <;> omega)
  have hlen2 := Wu (m : Int) (by omega) (by omega)
  have hfs2 : (⟨(Lib.itoa (m : Int)).toArray⟩ : ByteArray).size ≤ 20 := by rw [W8]; exact hlen2
  by_cases hm0 : 0 < m
  · repeat' (first
 | refine Xf (id := 19) 30 [0, 1, 2, 3, 5] [4, 6, 7, 8, 9, 10, 11] Ym rfl rfl (by kernel_rfl) (by kernel_rfl) (by kernel_rfl) ?_
 | refine Xf (id := 20) 30 [0, 1, 2, 3] [4, 5, 6, 7, 8] Ym rfl rfl (by kernel_rfl) (by kernel_rfl) (by kernel_rfl) ?_
 | (refine Io (Uj b hb B4 (by decide) (by decide)) rfl hu hi (fun _ => Ya [U1 B4]) rfl (by first | rfl | repeat' (first | rfl | exact Z5 _ | refine Zy ?_ ?_)) (tl hn rfl) ?_; intro i h q hi hq; have hsz2 := Px q hq)
 | (refine Ur (Yt b hb (d.length : Int) (by omega)) rfl hu hi (fun _ => Ya [.int (d.length : Int)]) rfl (by first | rfl | repeat' (first | rfl | exact Z5 _ | refine Zy ?_ ?_)) (tl hn rfl) ?_; intro i h y hi hy; have hyd : InD d y := ⟨fun e => hy.1 (by omega), fun e => hy.2 (by omega)⟩)
 | (refine RunsL.junk 3 5 rfl ?_; refine Yr (t := 86) (n := l.length) rfl rfl rfl rfl rfl rfl (by rw [hll, Nat.mul_one]) (FreeI.at_ ⟨by simp [Yq, AV.onlys, AV.only], by simp [AV.onlys, AV.only], by simp [AV.onlys, AV.only], by simp [AV.onlys, AV.only], Yi _ _, Yi _ _, trivial⟩) (by simp; omega) (by simp; omega) (tl hn rfl) ?_)
 | (refine RunsL.junk 3 7 rfl ?_; refine Yr (t := 94) (n := ks.length) rfl rfl rfl rfl rfl rfl (by rw [hkk, Nat.mul_one]) (FreeI.at_ ⟨by simp [Yq, AV.onlys, AV.only], by simp [AV.onlys, AV.only], by simp [AV.onlys, AV.only], by simp [AV.onlys, AV.only], Yi _ _, Yi _ _, trivial⟩) (by simp; omega) (by simp; omega) (tl hn rfl) ?_)
 | refine RunsH.pur (fun _ _ => Y3 Zu rfl) rfl (tl hn rfl) rfl ?_
 | refine RunsH.pur (fun _ _ => Zw hF2 rfl) rfl (tl hn rfl) rfl ?_
 | refine RunsH.pur (fun _ _ => Ue rfl rfl (by omega)) rfl (tl hn rfl) rfl ?_
 | refine RunsH.pur (fun _ _ => Zr rfl rfl rfl rfl rfl rfl) rfl (tl hn rfl) rfl ?_
 | refine RunsH.pur (fun _ _ => Zx rfl rfl (by omega)) rfl (tl hn rfl) rfl ?_
 | refine RunsH.pur (fun _ _ => Z4 rfl rfl (by omega)) rfl (tl hn rfl) rfl ?_
 | refine RunsH.pur (fun _ _ => Zr rfl rfl rfl rfl rfl rfl) rfl (tl hn rfl) rfl ?_
 | refine RunsH.nil ?_
 | refine RunsP.pur (Y3 Zu rfl) rfl rfl (tl hn rfl) (by first | rfl | repeat' (first | rfl | exact Z5 _ | refine Zy ?_ ?_)) ?_
 | refine RunsP.pur (Zw hF2 rfl) rfl rfl (tl hn rfl) (by first | rfl | repeat' (first | rfl | exact Z5 _ | refine Zy ?_ ?_)) ?_
 | refine RunsP.pur (Ue rfl rfl (by omega)) rfl rfl (tl hn rfl) (by first | rfl | repeat' (first | rfl | exact Z5 _ | refine Zy ?_ ?_)) ?_
 | refine RunsP.pur (Zr rfl rfl rfl rfl rfl rfl) rfl rfl (tl hn rfl) (by first | rfl | repeat' (first | rfl | exact Z5 _ | refine Zy ?_ ?_)) ?_
 | refine RunsP.pur (Zx rfl rfl (by omega)) rfl rfl (tl hn rfl) (by first | rfl | repeat' (first | rfl | exact Z5 _ | refine Zy ?_ ?_)) ?_
 | refine RunsP.pur (Z4 rfl rfl (by omega)) rfl rfl (tl hn rfl) (by first | rfl | repeat' (first | rfl | exact Z5 _ | refine Zy ?_ ?_)) ?_
 | refine RunsP.pur (Zr rfl rfl rfl rfl rfl rfl) rfl rfl (tl hn rfl) (by first | rfl | repeat' (first | rfl | exact Z5 _ | refine Zy ?_ ?_)) ?_
 | refine Rk Zu hn rfl ?_
 | refine Rl ?_
 | refine Zc 30 rfl ?_
 | refine Xr 9 rfl (nbT rfl) (by kernel_rfl) (by kernel_rfl) ?_
 | refine Xr 6 rfl (nbT rfl) (by kernel_rfl) (by kernel_rfl) ?_
 | ((first | refine Zg hn rfl rfl rfl ?_ | refine Zm rfl rfl ?_); first
 | refine ⟨_, Zw hF2 rfl, ?_⟩
 | refine ⟨_, Ue rfl rfl (by omega), ?_⟩
 | refine ⟨_, Zr rfl rfl rfl rfl rfl rfl, ?_⟩)
 | (refine Rj 30 rfl ?_; first | refine Zp rfl ?_ | refine Zz rfl ?_ | ((first | refine Zd rfl ?_ ?_ | refine Ze rfl ?_ ?_); · first | omega | rfl | assumption | (simp only [lmT]; omega)) | ((first | refine Zf rfl ?_ ?_ | refine Za rfl ?_ ?_); · first | omega | rfl | assumption | (simp only [lmT]; omega)) | refine Ri (Zt hm rfl rfl ?_) | exact Ri (Zj hm rfl rfl rfl (nbT rfl) rfl rfl))
 | refine Z1 rfl (tl hn rfl) ?_
 | refine Yc rfl rfl rfl rfl (nbT rfl) ?_
 | refine Z6 (tl hn rfl) ?_
 | refine Z3 rfl rfl rfl rfl (nbT rfl) ?_
 | ((first | refine Zg hn rfl rfl rfl ?_ | refine Zm rfl rfl ?_); first
 | refine ⟨_, Zx rfl rfl (by omega), ?_⟩
 | refine ⟨_, Zb rfl rfl (by omega) (by assumption), ?_⟩
 | refine ⟨_, Z4 rfl rfl (by omega), ?_⟩
 | refine ⟨_, Zv rfl rfl rfl, ?_⟩
 | refine ⟨_, Z7 rfl rfl (by omega), ?_⟩
 | refine ⟨_, Zr rfl rfl rfl rfl rfl rfl, ?_⟩)
 | ((first | refine Zi rfl rfl rfl ?_ ?_ | refine Zh rfl rfl rfl ?_ ?_ | refine Zk rfl rfl rfl ?_ ?_ | refine Zl rfl rfl rfl ?_ ?_ | refine Zo rfl rfl rfl ?_ ?_ | refine Zn rfl rfl rfl ?_ ?_ | refine Zq rfl rfl rfl ?_ ?_ | refine Zs rfl rfl rfl ?_ ?_) <;> intro h <;> try (exfalso; first | omega | contradiction | (simp only [lmT] at h; omega))))
    refine ih (m - 1) _ _ _ (by omega) ⟨l ++ [q ++ ⟨(Lib.itoa (m : Int)).toArray⟩], ks ++ [y], i, h, by simp; omega, by simp [hkl], fun j z hz => ?_, fun z hz => ?_, hi, rfl, ?_⟩ ⟨rfl, rfl, rfl, rfl, ?_, trivial⟩
    · rw [List.getElem?_append] at hz
      split at hz
      · exact hl j z hz
      · rename_i hj
        have hj' : j - l.length = 0 := by
          have := (P8.1 hz).1
          simp at this; omega
        rw [hj'] at hz
        simp at hz
        subst hz
        exact ⟨q, hq, by unfold Wj; congr 3; congr 1; omega⟩
    · rcases List.mem_append.1 hz with h1 | h1
      · exact hks z h1
      · simp at h1; subst h1; exact hyd
    · simp
    · show AV.int _ = AV.int _
      congr 1; omega
  · have em : m = 0 := by omega
    repeat' (first
 | refine Rk Zu hn rfl ?_
 | refine Rl ?_
 | refine Zc 30 rfl ?_
 | (refine Rj 30 rfl ?_; first | refine Zp rfl ?_ | refine Zz rfl ?_ | ((first | refine Zd rfl ?_ ?_ | refine Ze rfl ?_ ?_); · first | omega | rfl | assumption | (simp only [lmT]; omega)) | ((first | refine Zf rfl ?_ ?_ | refine Za rfl ?_ ?_); · first | omega | rfl | assumption | (simp only [lmT]; omega)) | refine Ri (Zt hm rfl rfl ?_) | exact Ri (Zj hm rfl rfl rfl (nbT rfl) rfl rfl))
 | refine Z1 rfl (tl hn rfl) ?_
 | refine Yc rfl rfl rfl rfl (nbT rfl) ?_
 | refine Z6 (tl hn rfl) ?_
 | refine Z3 rfl rfl rfl rfl (nbT rfl) ?_
 | ((first | refine Zg hn rfl rfl rfl ?_ | refine Zm rfl rfl ?_); first
 | refine ⟨_, Zx rfl rfl (by omega), ?_⟩
 | refine ⟨_, Zb rfl rfl (by omega) (by assumption), ?_⟩
 | refine ⟨_, Z4 rfl rfl (by omega), ?_⟩
 | refine ⟨_, Zv rfl rfl rfl, ?_⟩
 | refine ⟨_, Z7 rfl rfl (by omega), ?_⟩
 | refine ⟨_, Zr rfl rfl rfl rfl rfl rfl, ?_⟩)
 | ((first | refine Zi rfl rfl rfl ?_ ?_ | refine Zh rfl rfl rfl ?_ ?_ | refine Zk rfl rfl rfl ?_ ?_ | refine Zl rfl rfl rfl ?_ ?_ | refine Zo rfl rfl rfl ?_ ?_ | refine Zn rfl rfl rfl ?_ ?_ | refine Zq rfl rfl rfl ?_ ?_ | refine Zs rfl rfl rfl ?_ ?_) <;> intro h <;> try (exfalso; first | omega | contradiction | (simp only [lmT] at h; omega))))
    refine Z8 (e := 5) (sz := 1) 2 4 (by decide) rfl rfl ?_
    refine Z8 (e := 3) (sz := 1) 2 6 (by decide) rfl rfl ?_
    exact Rj 30 rfl (Ri (W6 (r := ⟨a ++ Wj d.length, 6, 0, false, [], l, [], ks⟩) (x := 6) (y := 4) (z := 7) (w := 5) hm rfl rfl rfl hi rfl rfl rfl rfl rfl rfl (by decide) (by decide) (ruleD6 ha (by omega) (by rw [show (l.length : Int) = c by omega]; exact hl) hkl hks)))
set_option maxHeartbeats 8000000 in
theorem l4Make7_d (b : List UInt8) (hb : b.length ≤ 1048576) (d : Des) (hd : d.length ≤ 24) (r0 : Rul) (h0 : d[0]? = some r0) (hk0 : r0.kind = 1) : Drw Try.prog 123 117 b [W1 d, .int 7] (P4 (Vu d 7)) := by
  have hlm : (d.map Ws).length = d.length := lmT ..
  have hF := Y5 (d.length : Int) (by constructor <;> omega)
  have hlen := Wu (d.length : Int) (by omega) (by omega)
  have hfs : (⟨(Lib.itoa (d.length : Int)).toArray⟩ : ByteArray).size ≤ 20 := by rw [W8]; exact hlen
  refine Yu Try.func117 rfl _ Try.ntmps117 (by simp) fun C g u i h hn hm hu hi => ?_
  repeat' (first
 | (refine Vm (Uj b hb Wm (by decide) (by decide)) rfl hu hi rfl (Ya [U1 Wm]) rfl (by first | rfl | repeat' (first | rfl | exact Z5 _ | refine Zy ?_ ?_)) (tl hn rfl) ?_; intro i h a hi ha; have hsz := X9 a ha)
 | (refine Yv (Jw b hb d hd r0 h0 hk0) rfl hu hi rfl (Ya [W1 d]) rfl (by first | rfl | repeat' (first | rfl | exact Z5 _ | refine Zy ?_ ?_)) (tl hn rfl) ?_; intro i h x0 hi hx0)
 | refine V0 (t := 101) rfl rfl rfl rfl rfl (tl hn rfl) ?_
 | (refine Yv (Yt b hb _ (by omega)) rfl hu hi rfl (Ya [.int _]) rfl (by first | rfl | repeat' (first | rfl | exact Z5 _ | refine Zy ?_ ?_)) (tl hn rfl) ?_; intro i h x hi hx; obtain ⟨hxa, hxb⟩ := hx.2 (by omega))
 | ((first | refine Zg hn rfl rfl rfl ?_ | refine Zm rfl rfl ?_); first
 | refine ⟨_, Z0 d.length rfl hlm, ?_⟩)
 | refine Rk Zu hn rfl ?_
 | refine Rl ?_
 | refine Zc 30 rfl ?_
 | ((first | refine Zg hn rfl rfl rfl ?_ | refine Zm rfl rfl ?_); first
 | refine ⟨_, Zw hF rfl, ?_⟩
 | refine ⟨_, Ue rfl rfl (by omega), ?_⟩
 | refine ⟨_, Yj rfl, ?_⟩)
 | (refine Rj 30 rfl ?_; first | refine Zp rfl ?_ | refine Zz rfl ?_ | ((first | refine Zd rfl ?_ ?_ | refine Ze rfl ?_ ?_); · first | omega | rfl | assumption | (simp only [lmT]; omega)) | ((first | refine Zf rfl ?_ ?_ | refine Za rfl ?_ ?_); · first | omega | rfl | assumption | (simp only [lmT]; omega)) | refine Ri (Zt hm rfl rfl ?_) | exact Ri (Zj hm rfl rfl rfl (nbT rfl) rfl rfl))
 | refine Z1 rfl (tl hn rfl) ?_
 | refine Yc rfl rfl rfl rfl (nbT rfl) ?_
 | refine Z6 (tl hn rfl) ?_
 | refine Z3 rfl rfl rfl rfl (nbT rfl) ?_
 | ((first | refine Zg hn rfl rfl rfl ?_ | refine Zm rfl rfl ?_); first
 | refine ⟨_, Zx rfl rfl (by omega), ?_⟩
 | refine ⟨_, Zb rfl rfl (by omega) (by assumption), ?_⟩
 | refine ⟨_, Z4 rfl rfl (by omega), ?_⟩
 | refine ⟨_, Zv rfl rfl rfl, ?_⟩
 | refine ⟨_, Z7 rfl rfl (by omega), ?_⟩
 | refine ⟨_, Zr rfl rfl rfl rfl rfl rfl, ?_⟩)
 | ((first | refine Zi rfl rfl rfl ?_ ?_ | refine Zh rfl rfl rfl ?_ ?_ | refine Zk rfl rfl rfl ?_ ?_ | refine Zl rfl rfl rfl ?_ ?_ | refine Zo rfl rfl rfl ?_ ?_ | refine Zn rfl rfl rfl ?_ ?_ | refine Zq rfl rfl rfl ?_ ?_ | refine Zs rfl rfl rfl ?_ ?_) <;> intro h <;> try (exfalso; first | omega | contradiction | (simp only [lmT] at h; omega))))
  obtain ⟨c, hc⟩ : ∃ c : Nat, 1 + x = c := ⟨(1 + x).toNat, by omega⟩
  rw [hc]
  refine Z8 (e := 3) (sz := 1) 3 6 (by decide) rfl rfl ?_
  refine Wq 30 rfl (fun m E z => ∃ (ts ks : List Int) (i h : Int), ts.length + m = c ∧ ks.length = ts.length ∧ (∀ (j : Nat) z, ts[j]? = some z → 4 * (j : Int) ≤ z ∧ z ≤ 4 * j + 3) ∧ (∀ z ∈ ks, InD d z) ∧ Xv b i ∧ E = [(0, .pin 0 0 g), (6, .obj 2 0), (7, .int d.length), (8, .obj 3 0), (10, .int m)] ∧
    z = [Yq 123 u i h, ⟨38, 0, [.ro (X4 d)]⟩, ⟨52, 0, [.str ⟨#[]⟩, .int 0, .int 0, .bool false, .nil, .nil, .nil, .nil]⟩, ⟨52, 0, [.str (a ++ Wj d.length), .int 7, .int 0, .bool false, .nil, .nil, .own 5, .own 4]⟩, ⟨3, 1, ((x0 :: ks).map RV.int).map .ro⟩, ⟨3, 1, (ts.map RV.int).map .ro⟩]) c [(0, .pin 0 0 g), (6, .obj 2 0), (7, .int d.length), (8, .obj 3 0), (10, .int c)] ⟨rfl, rfl, rfl, rfl, rfl, trivial⟩ ⟨[], [], i, h, by simp, rfl, by simp, by simp, hi, rfl, rfl⟩ fun m E z ⟨ts, ks, i, h, hlc, hkl, ht, hks, hi, hE, hz⟩ ih => ?_
  subst hE; subst hz
  have htt : (ts.map RV.int).length = ts.length := lmT ..
  have hta : ((ts.map RV.int).map AV.ro).length = ts.length := by simp
  have hkk : ((x0 :: ks).map RV.int).length = ks.length + 1 := by simp
  by_cases hm0 : 0 < m
  · repeat' (first
 | refine Xf (id := 26) 30 [0, 1, 2, 3, 4, 5, 6] [7, 8, 9, 10, 11, 12] Ym rfl rfl (by kernel_rfl) (by kernel_rfl) (by kernel_rfl) ?_
 | refine Xf (id := 27) 30 [0, 1, 2, 3] [4, 5, 6, 7, 8] Ym rfl rfl (by kernel_rfl) (by kernel_rfl) (by kernel_rfl) ?_
 | (refine Ur (t := 117) (Yt b hb 4 (by omega)) rfl hu hi (fun _ => Ya [.int 4]) rfl (by first | rfl | repeat' (first | rfl | exact Z5 _ | refine Zy ?_ ?_)) (tl hn rfl) ?_; intro i h q hi hq; obtain ⟨hqa, hqb⟩ := hq.2 (by omega))
 | (refine Ur (t := 126) (Yt b hb (d.length : Int) (by omega)) rfl hu hi (fun _ => Ya [.int (d.length : Int)]) rfl (by first | rfl | repeat' (first | rfl | exact Z5 _ | refine Zy ?_ ?_)) (tl hn rfl) ?_; intro i h y hi hy; have hyd : InD d y := ⟨fun e => hy.1 (by omega), fun e => hy.2 (by omega)⟩)
 | refine RunsH.pur (fun _ _ => Y3 Zu rfl) rfl (tl hn rfl) rfl ?_
 | refine RunsH.pur (fun _ _ => Yp (n := ts.length) rfl rfl (by rw [hta, Nat.mul_one])) rfl (tl hn rfl) rfl ?_
 | refine RunsH.pur (fun _ _ => Z7 rfl rfl (by omega)) rfl (tl hn rfl) rfl ?_
 | refine RunsH.pur (fun _ _ => Zx rfl rfl (by omega)) rfl (tl hn rfl) rfl ?_
 | refine RunsH.pur (fun _ _ => Zr rfl rfl rfl rfl rfl rfl) rfl (tl hn rfl) rfl ?_
 | refine RunsH.pur (fun _ _ => Zx rfl rfl (by omega)) rfl (tl hn rfl) rfl ?_
 | refine RunsH.pur (fun _ _ => Z4 rfl rfl (by omega)) rfl (tl hn rfl) rfl ?_
 | refine RunsH.pur (fun _ _ => Z7 rfl rfl (by omega)) rfl (tl hn rfl) rfl ?_
 | refine RunsH.pur (fun _ _ => Zr rfl rfl rfl rfl rfl rfl) rfl (tl hn rfl) rfl ?_
 | refine RunsH.nil ?_
 | refine RunsP.pur (Y3 Zu rfl) rfl rfl (tl hn rfl) (by first | rfl | repeat' (first | rfl | exact Z5 _ | refine Zy ?_ ?_)) ?_
 | refine RunsP.pur (Yp (n := ts.length) rfl rfl (by rw [hta, Nat.mul_one])) rfl rfl (tl hn rfl) (by first | rfl | repeat' (first | rfl | exact Z5 _ | refine Zy ?_ ?_)) ?_
 | refine RunsP.pur (Z7 rfl rfl (by omega)) rfl rfl (tl hn rfl) (by first | rfl | repeat' (first | rfl | exact Z5 _ | refine Zy ?_ ?_)) ?_
 | refine RunsP.pur (Zx rfl rfl (by omega)) rfl rfl (tl hn rfl) (by first | rfl | repeat' (first | rfl | exact Z5 _ | refine Zy ?_ ?_)) ?_
 | refine RunsP.pur (Zr rfl rfl rfl rfl rfl rfl) rfl rfl (tl hn rfl) (by first | rfl | repeat' (first | rfl | exact Z5 _ | refine Zy ?_ ?_)) ?_
 | refine RunsP.pur (Zx rfl rfl (by omega)) rfl rfl (tl hn rfl) (by first | rfl | repeat' (first | rfl | exact Z5 _ | refine Zy ?_ ?_)) ?_
 | refine RunsP.pur (Z4 rfl rfl (by omega)) rfl rfl (tl hn rfl) (by first | rfl | repeat' (first | rfl | exact Z5 _ | refine Zy ?_ ?_)) ?_
 | refine RunsP.pur (Z7 rfl rfl (by omega)) rfl rfl (tl hn rfl) (by first | rfl | repeat' (first | rfl | exact Z5 _ | refine Zy ?_ ?_)) ?_
 | refine RunsP.pur (Zr rfl rfl rfl rfl rfl rfl) rfl rfl (tl hn rfl) (by first | rfl | repeat' (first | rfl | exact Z5 _ | refine Zy ?_ ?_)) ?_
 | refine Rk Zu hn rfl ?_
 | refine Rl ?_
 | refine Zc 30 rfl ?_
 | refine Xr 10 rfl (nbT rfl) (by kernel_rfl) (by kernel_rfl) ?_
 | refine Xr 6 rfl (nbT rfl) (by kernel_rfl) (by kernel_rfl) ?_
 | (refine RunsL.junk 3 6 rfl ?_; refine Yr (t := 120) (n := ts.length) rfl rfl rfl rfl rfl rfl (by rw [htt, Nat.mul_one]) (FreeI.at_ ⟨by simp [Yq, AV.onlys, AV.only], by simp [AV.onlys, AV.only], by simp [AV.onlys, AV.only], by simp [AV.onlys, AV.only], Yi _ _, Yi _ _, trivial⟩) (by simp; omega) (by simp; omega) (tl hn rfl) ?_)
 | (refine RunsL.junk 3 7 rfl ?_; refine Yr (t := 128) (n := ks.length + 1) rfl rfl rfl rfl rfl rfl (by rw [hkk, Nat.mul_one]) (FreeI.at_ ⟨by simp [Yq, AV.onlys, AV.only], by simp [AV.onlys, AV.only], by simp [AV.onlys, AV.only], by simp [AV.onlys, AV.only], Yi _ _, Yi _ _, trivial⟩) (by simp; omega) (by simp; omega) (tl hn rfl) ?_)
 | ((first | refine Zg hn rfl rfl rfl ?_ | refine Zm rfl rfl ?_); first
 | refine ⟨_, Yp (n := ts.length) rfl rfl (by rw [hta, Nat.mul_one]), ?_⟩
 | refine ⟨_, Z7 rfl rfl (by omega), ?_⟩
 | refine ⟨_, Zx rfl rfl (by omega), ?_⟩
 | refine ⟨_, Zr rfl rfl rfl rfl rfl rfl, ?_⟩)
 | (refine Rj 30 rfl ?_; first | refine Zp rfl ?_ | refine Zz rfl ?_ | ((first | refine Zd rfl ?_ ?_ | refine Ze rfl ?_ ?_); · first | omega | rfl | assumption | (simp only [lmT]; omega)) | ((first | refine Zf rfl ?_ ?_ | refine Za rfl ?_ ?_); · first | omega | rfl | assumption | (simp only [lmT]; omega)) | refine Ri (Zt hm rfl rfl ?_) | exact Ri (Zj hm rfl rfl rfl (nbT rfl) rfl rfl))
 | refine Z1 rfl (tl hn rfl) ?_
 | refine Yc rfl rfl rfl rfl (nbT rfl) ?_
 | refine Z6 (tl hn rfl) ?_
 | refine Z3 rfl rfl rfl rfl (nbT rfl) ?_
 | ((first | refine Zg hn rfl rfl rfl ?_ | refine Zm rfl rfl ?_); first
 | refine ⟨_, Zx rfl rfl (by omega), ?_⟩
 | refine ⟨_, Zb rfl rfl (by omega) (by assumption), ?_⟩
 | refine ⟨_, Z4 rfl rfl (by omega), ?_⟩
 | refine ⟨_, Zv rfl rfl rfl, ?_⟩
 | refine ⟨_, Z7 rfl rfl (by omega), ?_⟩
 | refine ⟨_, Zr rfl rfl rfl rfl rfl rfl, ?_⟩)
 | ((first | refine Zi rfl rfl rfl ?_ ?_ | refine Zh rfl rfl rfl ?_ ?_ | refine Zk rfl rfl rfl ?_ ?_ | refine Zl rfl rfl rfl ?_ ?_ | refine Zo rfl rfl rfl ?_ ?_ | refine Zn rfl rfl rfl ?_ ?_ | refine Zq rfl rfl rfl ?_ ?_ | refine Zs rfl rfl rfl ?_ ?_) <;> intro h <;> try (exfalso; first | omega | contradiction | (simp only [lmT] at h; omega))))
    refine ih (m - 1) _ _ _ (by omega) ⟨ts ++ [4 * (ts.length : Int) + q], ks ++ [y], i, h, by simp; omega, by simp [hkl], fun j z hz => ?_, fun z hz => ?_, hi, rfl, ?_⟩ ⟨rfl, rfl, rfl, rfl, ?_, trivial⟩
    · rw [List.getElem?_append] at hz
      split at hz
      · exact ht j z hz
      · rename_i hj
        have hj' : j - ts.length = 0 := by
          have := (P8.1 hz).1
          simp at this; omega
        rw [hj'] at hz
        simp at hz
        subst hz
        omega
    · rcases List.mem_append.1 hz with h1 | h1
      · exact hks z h1
      · simp at h1; subst h1; exact hyd
    · simp
    · show AV.int _ = AV.int _
      congr 1; omega
  · have em : m = 0 := by omega
    repeat' (first
 | refine Rk Zu hn rfl ?_
 | refine Rl ?_
 | refine Zc 30 rfl ?_
 | (refine Rj 30 rfl ?_; first | refine Zp rfl ?_ | refine Zz rfl ?_ | ((first | refine Zd rfl ?_ ?_ | refine Ze rfl ?_ ?_); · first | omega | rfl | assumption | (simp only [lmT]; omega)) | ((first | refine Zf rfl ?_ ?_ | refine Za rfl ?_ ?_); · first | omega | rfl | assumption | (simp only [lmT]; omega)) | refine Ri (Zt hm rfl rfl ?_) | exact Ri (Zj hm rfl rfl rfl (nbT rfl) rfl rfl))
 | refine Z1 rfl (tl hn rfl) ?_
 | refine Yc rfl rfl rfl rfl (nbT rfl) ?_
 | refine Z6 (tl hn rfl) ?_
 | refine Z3 rfl rfl rfl rfl (nbT rfl) ?_
 | ((first | refine Zg hn rfl rfl rfl ?_ | refine Zm rfl rfl ?_); first
 | refine ⟨_, Zx rfl rfl (by omega), ?_⟩
 | refine ⟨_, Zb rfl rfl (by omega) (by assumption), ?_⟩
 | refine ⟨_, Z4 rfl rfl (by omega), ?_⟩
 | refine ⟨_, Zv rfl rfl rfl, ?_⟩
 | refine ⟨_, Z7 rfl rfl (by omega), ?_⟩
 | refine ⟨_, Zr rfl rfl rfl rfl rfl rfl, ?_⟩)
 | ((first | refine Zi rfl rfl rfl ?_ ?_ | refine Zh rfl rfl rfl ?_ ?_ | refine Zk rfl rfl rfl ?_ ?_ | refine Zl rfl rfl rfl ?_ ?_ | refine Zo rfl rfl rfl ?_ ?_ | refine Zn rfl rfl rfl ?_ ?_ | refine Zq rfl rfl rfl ?_ ?_ | refine Zs rfl rfl rfl ?_ ?_) <;> intro h <;> try (exfalso; first | omega | contradiction | (simp only [lmT] at h; omega))))
    refine Z8 (e := 5) (sz := 1) 2 4 (by decide) rfl rfl ?_
    refine Z8 (e := 9) (sz := 1) 2 5 (by decide) rfl rfl ?_
    exact Rj 30 rfl (Ri (W6 (r := ⟨a ++ Wj d.length, 7, 0, false, [], [], ts, x0 :: ks⟩) (x := 6) (y := 7) (z := 5) (w := 4) hm rfl rfl rfl hi rfl rfl rfl rfl rfl rfl (by decide) (by decide) (ruleD7 ha (by omega) ht hx0 hkl hks)))
structure DrawD (d : Des) : Prop where
  pos : 1 ≤ d.length
  most : d.length ≤ 6
  first : ∃ r0, d[0]? = some r0 ∧ r0.kind = 1
  rule : ∀ (j : Nat) r, d[j]? = some r → ∃ k, 1 ≤ k ∧ k ≤ 10 ∧ Vu (d.take j) k r
theorem I9 (b : List UInt8) (hb : b.length ≤ 1048576) (d : Des) (hd : d.length ≤ 24) (k : Int) (hk : 1 ≤ k ∧ k ≤ 10) (hi : k = 1 ∨ ∃ r0, d[0]? = some r0 ∧ r0.kind = 1) : Drw Try.prog 123 117 b [W1 d, .int k] (P4 (Vu d k)) := by
  by_cases h1 : k = 1
  · subst h1; exact l4Make1_d b hb d hd
  obtain ⟨r0, h0, hk0⟩ := hi.resolve_left h1
  have : k = 2 ∨ k = 3 ∨ k = 4 ∨ k = 5 ∨ k = 6 ∨ k = 7 ∨ k = 8 ∨ k = 9 ∨ k = 10 := by omega
  rcases this with rfl | rfl | rfl | rfl | rfl | rfl | rfl | rfl | rfl
  · exact l4Make2_d b hb d hd
  · exact l4Make3_d b hb d hd
  · exact l4Make4_d b hb d hd r0 h0 hk0
  · exact l4Make5_d b hb d hd r0 h0 hk0
  · exact l4Make6_d b hb d hd
  · exact l4Make7_d b hb d hd r0 h0 hk0
  · exact l4Make8_d b hb d hd
  · exact l4Make9_d b hb d hd
  · exact Pj b hb d hd
theorem DrawD.app {d : Des} {k : Int} {r : Rul} (h : DrawD d) (hl : d.length < 6) (hk : 1 ≤ k ∧ k ≤ 10) (hr : Vu d k r) : DrawD (d ++ [r]) := by
  obtain ⟨r0, e0, k0⟩ := h.first
  refine ⟨by simp, by simp; omega, ⟨r0, ?_, k0⟩, fun j x hx => ?_⟩
  · rw [Rg (by have := h.pos; omega)]; exact e0
  · rcases Nat.lt_or_ge j d.length with hj | hj
    · rw [Rg hj] at hx
      rw [List.take_append_of_le_length (by omega)]
      exact h.rule j x hx
    · have hjl := (P8.1 hx).1
      simp only [Ra, Rf] at hjl
      have ej : j = d.length := by omega
      subst ej
      simp at hx; subst hx
      rw [List.take_left']
      · exact ⟨k, hk.1, hk.2, hr⟩
      · rfl
theorem DrawD.one {r : Rul} (hr : Vu [] 1 r) : DrawD [r] := by
  refine ⟨by simp, by simp, ⟨r, rfl, hr.hkind⟩, fun j x hx => ?_⟩
  cases j with
  | zero => simp at hx; subst hx; exact ⟨1, by decide, by decide, hr⟩
  | succ j => simp at hx
set_option maxRecDepth 100000 in
instance tb_des : TB Try.prog 38 [(0, 1)] [.slice none 0 0] := ⟨_, _, _, rfl, rfl, rfl, rfl, by kernel_rfl, by decide⟩
def desRR (d : Des) : RR := .agg [.row 52 8 (d.map Ws).flatten]
def QDes (p : Des → Prop) (rr : RR) : Prop := ∃ d, rr = desRR d ∧ p d
theorem qdes_ok {p : Des → Prop} : ∀ rr, QDes p rr → ∃ r, Seals rr r ∧ ∃ d, r = W1 d ∧ p d := by
  rintro _ ⟨d, rfl, hd⟩
  refine ⟨W1 d, ?_, d, rfl, hd⟩
  unfold desRR W1 X4
  simp only [Seals, X3]
  exact ⟨_, rfl, _, _, rfl, ⟨_, rfl, rfl, fun x hx => by obtain ⟨r, _, rfl⟩ := List.mem_map.1 hx; rfl⟩, rfl⟩
theorem ruls_len (d : Des) : (d.map Ws).flatten.length = d.length * 8 := by rw [Vg (sz := 8) fun x hx => by obtain ⟨r, _, rfl⟩ := List.mem_map.1 hx; rfl, lmT]
set_option maxHeartbeats 8000000 in
theorem Ti (b : List UInt8) (hb : b.length ≤ 1048576) : Drw Try.prog 123 65 b [] (QDes DrawD) := by
  refine Yu Try.func65 rfl _ Try.ntmps65 (by simp) fun C g u i h hn hm hu hi => ?_
  have rl : ∀ d : Des, ∀ x ∈ d.map Ws, x.length = 8 := fun d x hx => by obtain ⟨r, _, rfl⟩ := List.mem_map.1 hx; rfl
  repeat' (first
 | refine Z8 (e := 52) (sz := 8) 2 0 (by decide) rfl rfl ?_
 | refine Xf (id := 2) 30 [0, 1, 2, 3] [4, 5, 6, 7, 8] Ym rfl rfl (by kernel_rfl) (by kernel_rfl) (by kernel_rfl) ?_
 | (refine Qx (t := 10) (I9 b hb [] (by simp) 1 (by omega) (.inl rfl)) qrul_ok rfl hu hi (fun _ => .cons (LendsP.agg (.cons (LendsP.own (i := 3) (o := ⟨52, 8, _⟩) (els := List.map Ws []) (by decide) rfl rfl (rl [])) .nil)) (.cons .ro .nil)) rfl (by first | rfl | repeat' (first | rfl | exact Z5 _ | refine Zy ?_ ?_)) (tl hn rfl) ?_; rintro i h _ hi ⟨r, rfl, hr⟩)
 | (refine Yv (Yt b hb _ (by omega)) rfl hu hi rfl (Ya [.int _]) rfl (by first | rfl | repeat' (first | rfl | exact Z5 _ | refine Zy ?_ ?_)) (tl hn rfl) ?_; intro i h x hi hx; obtain ⟨hxa, hxb⟩ := hx.2 (by omega))
 | refine RunsH.pur (fun _ _ => Y3 Zu rfl) rfl (tl hn rfl) rfl ?_
 | refine RunsH.pur (fun _ _ => Yj rfl) rfl (tl hn rfl) rfl ?_
 | refine RunsH.pur (fun _ _ => Zr rfl rfl rfl rfl rfl rfl) rfl (tl hn rfl) rfl ?_
 | refine RunsH.pur (fun _ _ => Zx rfl rfl (by omega)) rfl (tl hn rfl) rfl ?_
 | refine RunsH.pur (fun _ _ => Z4 rfl rfl (by omega)) rfl (tl hn rfl) rfl ?_
 | refine RunsH.pur (fun _ _ => Zr rfl rfl rfl rfl rfl rfl) rfl (tl hn rfl) rfl ?_
 | refine RunsH.nil ?_
 | refine RunsP.pur (Y3 Zu rfl) rfl rfl (tl hn rfl) (by first | rfl | repeat' (first | rfl | exact Z5 _ | refine Zy ?_ ?_)) ?_
 | refine RunsP.pur (Yj rfl) rfl rfl (tl hn rfl) (by first | rfl | repeat' (first | rfl | exact Z5 _ | refine Zy ?_ ?_)) ?_
 | refine RunsP.pur (Zr rfl rfl rfl rfl rfl rfl) rfl rfl (tl hn rfl) (by first | rfl | repeat' (first | rfl | exact Z5 _ | refine Zy ?_ ?_)) ?_
 | refine RunsP.pur (Zx rfl rfl (by omega)) rfl rfl (tl hn rfl) (by first | rfl | repeat' (first | rfl | exact Z5 _ | refine Zy ?_ ?_)) ?_
 | refine RunsP.pur (Z4 rfl rfl (by omega)) rfl rfl (tl hn rfl) (by first | rfl | repeat' (first | rfl | exact Z5 _ | refine Zy ?_ ?_)) ?_
 | refine RunsP.pur (Zr rfl rfl rfl rfl rfl rfl) rfl rfl (tl hn rfl) (by first | rfl | repeat' (first | rfl | exact Z5 _ | refine Zy ?_ ?_)) ?_
 | refine Rk Zu hn rfl ?_
 | refine Rl ?_
 | refine Zc 30 rfl ?_
 | refine Xr 6 rfl (nbT rfl) (by kernel_rfl) (by kernel_rfl) ?_
 | (refine RunsL.junk 2 0 rfl ?_; refine Yr (t := 12) (n := 0) (rs := []) rfl rfl rfl rfl rfl rfl rfl (FreeI.at_ ⟨by simp [Yq, AV.onlys, AV.only], by simp [AV.onlys, AV.only], ⟨trivial, trivial⟩, by simp [AV.onlys], trivial⟩) (by simp) (by simp) (tl hn rfl) ?_)
 | ((first | refine Zg hn rfl rfl rfl ?_ | refine Zm rfl rfl ?_); first
 | refine ⟨_, Yj rfl, ?_⟩
 | refine ⟨_, Zr rfl rfl rfl rfl rfl rfl, ?_⟩)
 | (refine Rj 30 rfl ?_; first | ((first | refine Zd rfl ?_ ?_ | refine Ze rfl ?_ ?_); · first | omega | rfl | assumption | (simp only [lmT]; omega)) | ((first | refine Zf rfl ?_ ?_ | refine Za rfl ?_ ?_); · first | omega | rfl | assumption | (simp only [lmT]; omega)) | refine Ri (Zt hm rfl rfl ?_) | exact Ri (Zj hm rfl rfl rfl (nbT rfl) rfl rfl))
 | refine Yc rfl rfl rfl rfl (nbT rfl) ?_
 | refine Z6 (tl hn rfl) ?_
 | refine Z3 rfl rfl rfl rfl (nbT rfl) ?_
 | ((first | refine Zg hn rfl rfl rfl ?_ | refine Zm rfl rfl ?_); first
 | refine ⟨_, Zx rfl rfl (by omega), ?_⟩
 | refine ⟨_, Zb rfl rfl (by omega) (by assumption), ?_⟩
 | refine ⟨_, Z4 rfl rfl (by omega), ?_⟩
 | refine ⟨_, Zv rfl rfl rfl, ?_⟩
 | refine ⟨_, Z7 rfl rfl (by omega), ?_⟩
 | refine ⟨_, Zr rfl rfl rfl rfl rfl rfl, ?_⟩))
  obtain ⟨c, hc⟩ : ∃ c : Nat, x = c := ⟨x.toNat, by omega⟩
  subst hc
  have hD0 := DrawD.one hr
  refine Wq 30 rfl (fun m E z => ∃ (d : Des) (i h : Int), d.length + m ≤ 6 ∧ DrawD d ∧ Xv b i ∧ E = [(0, .pin 0 0 g), (2, .obj 1 0), (3, .obj 2 0), (4, .int m)] ∧
    z = [Yq 123 u i h, ⟨38, 0, [.nil]⟩, ⟨38, 0, [.own 3]⟩, ⟨52, 8, (d.map Ws).flatten.map .ro⟩]) c [(0, .pin 0 0 g), (2, .obj 1 0), (3, .obj 2 0), (4, .int c)] ⟨rfl, rfl, rfl, rfl, trivial⟩ ⟨[r], i, h, by simp; omega, hD0, hi, rfl, rfl⟩ fun m E z ⟨d, i, h, hlc, hD, hi, hE, hz⟩ ih => ?_
  subst hE; subst hz
  have hfl := ruls_len d
  by_cases hm0 : 0 < m
  · repeat' (first
 | refine Xf (id := 6) 30 [0, 1, 2, 3, 4] [5, 6, 7, 8, 9, 10, 11] Ym rfl rfl (by kernel_rfl) (by kernel_rfl) (by kernel_rfl) ?_
 | (refine Ur (t := 25) (Yt b hb 10 (by omega)) rfl hu hi (fun _ => Ya [.int 10]) rfl (by first | rfl | repeat' (first | rfl | exact Z5 _ | refine Zy ?_ ?_)) (tl hn rfl) ?_; intro i h q hi hq; obtain ⟨hqa, hqb⟩ := hq.2 (by omega))
 | (refine Qx (t := 27) (I9 b hb d (by omega) (1 + q) (by omega) (.inr hD.first)) qrul_ok rfl hu hi (fun _ => .cons (LendsP.agg (.cons (LendsP.own (i := 3) (o := ⟨52, 8, _⟩) (els := List.map Ws d) (by decide) rfl rfl (rl d)) .nil)) (.cons .ro .nil)) rfl (by first | rfl | repeat' (first | rfl | exact Z5 _ | refine Zy ?_ ?_)) (tl hn rfl) ?_; rintro i h _ hi ⟨r, rfl, hr⟩)
 | refine RunsH.pur (fun _ _ => Y3 Zu rfl) rfl (tl hn rfl) rfl ?_
 | refine RunsH.pur (fun _ _ => Zx rfl rfl (by omega)) rfl (tl hn rfl) rfl ?_
 | refine RunsH.pur (fun _ _ => Zr rfl rfl rfl rfl rfl rfl) rfl (tl hn rfl) rfl ?_
 | refine RunsH.pur (fun _ _ => Zx rfl rfl (by omega)) rfl (tl hn rfl) rfl ?_
 | refine RunsH.pur (fun _ _ => Z4 rfl rfl (by omega)) rfl (tl hn rfl) rfl ?_
 | refine RunsH.pur (fun _ _ => Zr rfl rfl rfl rfl rfl rfl) rfl (tl hn rfl) rfl ?_
 | refine RunsH.nil ?_
 | refine RunsP.pur (Y3 Zu rfl) rfl rfl (tl hn rfl) (by first | rfl | repeat' (first | rfl | exact Z5 _ | refine Zy ?_ ?_)) ?_
 | refine RunsP.pur (Zx rfl rfl (by omega)) rfl rfl (tl hn rfl) (by first | rfl | repeat' (first | rfl | exact Z5 _ | refine Zy ?_ ?_)) ?_
 | refine RunsP.pur (Zr rfl rfl rfl rfl rfl rfl) rfl rfl (tl hn rfl) (by first | rfl | repeat' (first | rfl | exact Z5 _ | refine Zy ?_ ?_)) ?_
 | refine RunsP.pur (Zx rfl rfl (by omega)) rfl rfl (tl hn rfl) (by first | rfl | repeat' (first | rfl | exact Z5 _ | refine Zy ?_ ?_)) ?_
 | refine RunsP.pur (Z4 rfl rfl (by omega)) rfl rfl (tl hn rfl) (by first | rfl | repeat' (first | rfl | exact Z5 _ | refine Zy ?_ ?_)) ?_
 | refine RunsP.pur (Zr rfl rfl rfl rfl rfl rfl) rfl rfl (tl hn rfl) (by first | rfl | repeat' (first | rfl | exact Z5 _ | refine Zy ?_ ?_)) ?_
 | refine Rk Zu hn rfl ?_
 | refine Rl ?_
 | refine Zc 30 rfl ?_
 | refine Xr 9 rfl (nbT rfl) (by kernel_rfl) (by kernel_rfl) ?_
 | (refine RunsL.junk 2 0 rfl ?_; refine Yr (t := 29) (n := d.length) rfl rfl rfl rfl rfl rfl (by rw [hfl]) (FreeI.at_ ⟨by simp [Yq, AV.onlys, AV.only], by simp [AV.onlys, AV.only], by simp [AV.onlys, AV.only], Yi _ _, trivial⟩) (by simp; omega) (by simp; omega) (tl hn rfl) ?_)
 | ((first | refine Zg hn rfl rfl rfl ?_ | refine Zm rfl rfl ?_); first
 | refine ⟨_, Zx rfl rfl (by omega), ?_⟩
 | refine ⟨_, Zr rfl rfl rfl rfl rfl rfl, ?_⟩)
 | (refine Rj 30 rfl ?_; first | ((first | refine Zd rfl ?_ ?_ | refine Ze rfl ?_ ?_); · first | omega | rfl | assumption | (simp only [lmT]; omega)) | ((first | refine Zf rfl ?_ ?_ | refine Za rfl ?_ ?_); · first | omega | rfl | assumption | (simp only [lmT]; omega)) | refine Ri (Zt hm rfl rfl ?_) | exact Ri (Zj hm rfl rfl rfl (nbT rfl) rfl rfl))
 | refine Yc rfl rfl rfl rfl (nbT rfl) ?_
 | refine Z6 (tl hn rfl) ?_
 | refine Z3 rfl rfl rfl rfl (nbT rfl) ?_
 | ((first | refine Zg hn rfl rfl rfl ?_ | refine Zm rfl rfl ?_); first
 | refine ⟨_, Zx rfl rfl (by omega), ?_⟩
 | refine ⟨_, Zb rfl rfl (by omega) (by assumption), ?_⟩
 | refine ⟨_, Z4 rfl rfl (by omega), ?_⟩
 | refine ⟨_, Zv rfl rfl rfl, ?_⟩
 | refine ⟨_, Z7 rfl rfl (by omega), ?_⟩
 | refine ⟨_, Zr rfl rfl rfl rfl rfl rfl, ?_⟩))
    refine ih (m - 1) _ _ _ (by omega) ⟨d ++ [r], i, h, by simp; omega, hD.app (by omega) (by omega) hr, hi, rfl, ?_⟩ ⟨rfl, rfl, rfl, ?_, trivial⟩
    · simp; rfl
    · show AV.int _ = AV.int _
      congr 1; omega
  · repeat' (first
 | refine Rk Zu hn rfl ?_
 | refine Rl ?_
 | refine Zc 30 rfl ?_
 | (refine Rj 30 rfl ?_; first | ((first | refine Zd rfl ?_ ?_ | refine Ze rfl ?_ ?_); · first | omega | rfl | assumption | (simp only [lmT]; omega)) | ((first | refine Zf rfl ?_ ?_ | refine Za rfl ?_ ?_); · first | omega | rfl | assumption | (simp only [lmT]; omega)) | refine Ri (Zt hm rfl rfl ?_) | exact Ri (Zj hm rfl rfl rfl (nbT rfl) rfl rfl))
 | refine Yc rfl rfl rfl rfl (nbT rfl) ?_
 | refine Z6 (tl hn rfl) ?_
 | refine Z3 rfl rfl rfl rfl (nbT rfl) ?_
 | ((first | refine Zg hn rfl rfl rfl ?_ | refine Zm rfl rfl ?_); first
 | refine ⟨_, Zx rfl rfl (by omega), ?_⟩
 | refine ⟨_, Zb rfl rfl (by omega) (by assumption), ?_⟩
 | refine ⟨_, Z4 rfl rfl (by omega), ?_⟩
 | refine ⟨_, Zv rfl rfl rfl, ?_⟩
 | refine ⟨_, Z7 rfl rfl (by omega), ?_⟩
 | refine ⟨_, Zr rfl rfl rfl rfl rfl rfl, ?_⟩))
    exact Rj 30 rfl (Ri (Dp hm rfl rfl rfl hi (.agg [.own 3]) (by
      simp only [Hb]
      exact ⟨1, 0, _, rfl, rfl, .inr ⟨1, by infer_instance, Nat.le_refl _, rfl⟩⟩) (desRR d) [3] (by
      simp only [desRR, Qq, Vk]
      exact ⟨_, rfl, _, _, [3], [], rfl, rfl, ⟨3, rfl, rfl, rfl⟩, rfl, rfl⟩) (by decide) (by decide) ⟨d, rfl, hD⟩))
theorem Lh {n : Nat} (h : n < 10) : Wj (n : Int) = ⟨#[UInt8.ofNat (48 + n)]⟩ := by
  unfold Wj Lib.itoa
  rw [if_neg (by omega), Int.toNat_natCast, Lib.decDigits_one h]
theorem ba_inv {s : ByteArray} {k : Nat} {c : UInt8} (h : s[k]? = some c) : s.data.toList[k]? = some c := by
  rw [Array.getElem?_toList]
  have hk : k < s.size := by
    rcases Nat.lt_or_ge k s.size with h' | h'
    · exact h'
    · rw [getElem?_neg s k (by omega)] at h; cases h
  rw [getElem?_pos s k hk] at h
  injection h with h
  rw [Array.getElem?_eq_getElem (show k < s.data.size from hk)]
  exact congrArg some h
theorem Ou (a : ByteArray) (x : UInt8) : (a ++ (⟨#[x]⟩ : ByteArray)).data.toList = a.data.toList ++ [x] := by simp
theorem N8 (a : ByteArray) (x : UInt8) : (a ++ (⟨#[x]⟩ : ByteArray)).size = a.size + 1 := by rw [ByteArray.size_append]; rfl
theorem ba_len (s : ByteArray) : s.data.toList.length = s.size := by rw [Array.length_toList]; rfl
def Low (a : ByteArray) : Prop := 1 ≤ a.size ∧ a.size ≤ 4 ∧ ∀ x ∈ a.data.toList, 97 ≤ x.toNat ∧ x.toNat ≤ 122
theorem baseA_low : ∀ a ∈ Wm, Low a := by
  intro x hx
  simp only [Wm, List.mem_cons, List.not_mem_nil, or_false] at hx
  rcases hx with rfl | rfl | rfl | rfl | rfl <;> exact ⟨by decide, by decide, by decide⟩
theorem G6 : ∀ a ∈ B4, Low a := by
  intro x hx
  simp only [B4, List.mem_cons, List.not_mem_nil, or_false] at hx
  rcases hx with rfl | rfl | rfl <;> exact ⟨by decide, by decide, by decide⟩
theorem nm_cat {a : ByteArray} (h : Low a) {n : Nat} (hn : n < 10) : IsNm (a ++ Wj (n : Int)) := by
  rw [Lh hn]
  refine ⟨by rw [N8]; omega, by rw [N8]; have := h.2.1; omega, fun i c hc => ?_⟩
  have h1 := ba_inv hc
  rw [Ou] at h1
  have hal := ba_len a
  rcases Nat.lt_or_ge i a.size with hi | hi
  · rw [Rg (by omega)] at h1
    have := h.2.2 c (Re h1)
    exact .inl this
  · have hil := (P8.1 h1).1
    simp only [Ra, Rf] at hil
    have ei : i = a.data.toList.length := by omega
    subst ei
    rw [Rh (Nat.le_refl _), Nat.sub_self] at h1
    have h1' : UInt8.ofNat (48 + n) = c := by simpa only [List.getElem?_cons_zero, Option.some.injEq] using h1
    subst h1'
    have := h.1
    refine .inr ⟨?_, ?_, by omega⟩ <;> (rw [UInt8.toNat_ofNat']; omega)
theorem cat_inj {a a' : ByteArray} {n n' : Nat} (hn : n < 10) (hn' : n' < 10) (h : a ++ Wj (n : Int) = a' ++ Wj (n' : Int)) : n = n' := by
  rw [Lh hn, Lh hn'] at h
  have h1 := congrArg (fun s : ByteArray => s.data.toList.getLast?) h
  simp only [Ou, List.getLast?_append, List.getLast?_singleton, Option.some_or, Option.some.injEq] at h1
  have h2 := congrArg UInt8.toNat h1
  rw [UInt8.toNat_ofNat', UInt8.toNat_ofNat'] at h2
  omega
theorem ncat_le {a : ByteArray} (h : Low a) {n : Nat} (hn : n < 10) : (a ++ Wj (n : Int)).size ≤ 5 := by
  rw [Lh hn, N8]; have := h.2.1; omega
theorem IsInt.up {d : Des} {j : Nat} {x : Int} (h : IsInt (d.take j) x) : IsInt d x ∧ x < j := by
  obtain ⟨h1, h2, r, h3, h4⟩ := h
  rw [List.length_take] at h2
  have hj : x.toNat < j := by omega
  rw [List.getElem?_take_of_lt hj] at h3
  exact ⟨⟨h1, by omega, r, h3, h4⟩, by omega⟩
structure IsInt' (d : Des) (x : Int) : Prop where
  int : IsInt d x
  lim : 255 ≤ lim d x
theorem DrawD.int {d : Des} (h : DrawD d) {x : Int} (hx : IsInt d x) : 255 ≤ lim d x := by
  obtain ⟨h1, h2, r, h3, h4⟩ := hx
  obtain ⟨k, k1, k2, hr⟩ := h.rule _ r h3
  have ek : k = 1 := by rw [← hr.hkind]; exact h4
  have hs := hr.hsize.1 ek
  rw [H1 h3 ⟨h1, h4, hs.1, by omega⟩]
  have := @N1 r.size
  omega
section
variable {d : Des} (h : DrawD d) {j : Nat} {r : Rul} (hj : d[j]? = some r)
include h hj
theorem DrawD.kinds : ∃ k, 1 ≤ k ∧ k ≤ 10 ∧ Vu (d.take j) k r ∧ r.kind = k ∧ (d.take j).length = j ∧ j < d.length := by
  obtain ⟨k, k1, k2, hr⟩ := h.rule j r hj
  have hjl := (P8.1 hj).1
  exact ⟨k, k1, k2, hr, hr.hkind, by rw [List.length_take]; omega, hjl⟩
theorem DrawD.kid : ∀ z ∈ r.kids, 0 ≤ z ∧ z < j := by
  obtain ⟨k, k1, k2, hr, hk, hl, hjl⟩ := h.kinds hj
  have hInt : ∀ x, IsInt (d.take j) x → 0 ≤ x ∧ x < j := fun x hx => ⟨hx.1, hx.up.2⟩
  have hpos : 2 ≤ k → 0 < j := fun h2 => by
    rcases Nat.eq_zero_or_pos j with e | e
    · subst e
      obtain ⟨r0, e0, k0⟩ := h.first
      rw [e0] at hj; injection hj with hj; subst hj
      omega
    · exact e
  have hIn : 2 ≤ k → ∀ x, InD (d.take j) x → 0 ≤ x ∧ x < j := fun h2 x hx => by
    have := hx.2 (by rw [hl]; exact hpos h2)
    rw [hl] at this; exact this
  intro z hz
  obtain ⟨g4, g5, g6, g7, g8, g1⟩ := hr.hkids
  have hc : k = 1 ∨ k = 2 ∨ k = 3 ∨ k = 4 ∨ k = 5 ∨ k = 6 ∨ k = 7 ∨ k = 8 ∨ k = 9 ∨ k = 10 := by omega
  rcases hc with e | e | e | e | e | e | e | e | e | e
  · rw [g1 (.inl e)] at hz; simp at hz
  · rw [g1 (.inr (.inl e))] at hz; simp at hz
  · rw [g1 (.inr (.inr (.inl e)))] at hz; simp at hz
  · obtain ⟨x, h1, e1⟩ := g4 e
    rw [e1] at hz; simp at hz; subst hz; exact hInt _ h1
  · obtain ⟨x, y, h1, h2, e1⟩ := g5 e
    rw [e1] at hz; simp at hz
    rcases hz with rfl | rfl
    · exact hInt _ h1
    · exact hIn (by omega) _ h2
  · exact hIn (by omega) _ ((g6 e).2 z hz)
  · obtain ⟨x, l, h1, _, h2, e1⟩ := g7 e
    rw [e1] at hz
    rcases List.mem_cons.1 hz with rfl | hz
    · exact hInt _ h1
    · exact hIn (by omega) _ (h2 z hz)
  · obtain ⟨y, h2, e1⟩ := g8 (.inl e)
    rw [e1] at hz; simp at hz; subst hz; exact hIn (by omega) _ h2
  · obtain ⟨y, h2, e1⟩ := g8 (.inr e)
    rw [e1] at hz; simp at hz; subst hz; exact hIn (by omega) _ h2
  · rw [g1 (.inr (.inr (.inr e)))] at hz; simp at hz
theorem DrawD.name : ∃ a, Low a ∧ r.name = a ++ Wj (j : Int) := by
  obtain ⟨k, k1, k2, hr, hk, hl, hjl⟩ := h.kinds hj
  obtain ⟨a, ha, e⟩ := hr.hname
  rw [hl] at e
  exact ⟨a, baseA_low a ha, e⟩
theorem DrawD.kindOk : Va d r := by
  obtain ⟨k, k1, k2, hr, hk, hl, hjl⟩ := h.kinds hj
  have hlit : r.little = false ∨ r.kind = 1 := by
    cases e : r.little
    · exact .inl rfl
    · exact .inr (hk.trans (hr.hlittle e).1)
  have hbytes : k ≠ 2 → k ≠ 10 → r.bytes.length = 0 := fun a b => by rw [hr.hbytes.2.2 a b]; rfl
  have hnames : k ≠ 6 → r.names.length = 0 := fun a => by rw [hr.hnames.2 a]; rfl
  have htags : k ≠ 7 → r.tags.length = 0 := fun a => by rw [hr.htags.2 a]; rfl
  have hsize : k ≠ 1 → k ≠ 3 → r.size = 0 := hr.hsize.2.2
  obtain ⟨g4, g5, g6, g7, g8, g1⟩ := hr.hkids
  have hc : k = 1 ∨ k = 2 ∨ k = 3 ∨ k = 4 ∨ k = 5 ∨ k = 6 ∨ k = 7 ∨ k = 8 ∨ k = 9 ∨ k = 10 := by omega
  rcases hc with e | e | e | e | e | e | e | e | e | e
  · refine .inl ⟨by omega, ⟨⟨.inl rfl, .inr (hbytes (by omega) (by omega)), .inr (hnames (by omega)), .inr (htags (by omega)), .inr ?_⟩, hlit⟩, ?_, ?_⟩
    · rw [g1 (.inl e)]; rfl
    · have := hr.hsize.1 e; unfold InR; omega
    · cases e' : r.little
      · exact .inl rfl
      · exact .inr (hr.hlittle e').2
  · refine .inr (.inl ⟨by omega, ⟨⟨.inr (hsize (by omega) (by omega)), .inl rfl, .inr (hnames (by omega)), .inr (htags (by omega)), .inr ?_⟩, hlit⟩, ?_⟩)
    · rw [g1 (.inr (.inl e))]; rfl
    · have := hr.hbytes.1 e; unfold InR; omega
  · refine .inr (.inr (.inl ⟨by omega, ⟨⟨.inl rfl, .inr (hbytes (by omega) (by omega)), .inr (hnames (by omega)), .inr (htags (by omega)), .inr ?_⟩, hlit⟩, ?_⟩))
    · rw [g1 (.inr (.inr (.inl e)))]; rfl
    · have := hr.hsize.2.1 e; unfold InR; omega
  · obtain ⟨x, h1, e1⟩ := g4 e
    have := h.int h1.up.1
    refine .inr (.inr (.inr (.inl ⟨by omega, ⟨⟨.inr (hsize (by omega) (by omega)), .inr (hbytes (by omega) (by omega)), .inr (hnames (by omega)), .inr (htags (by omega)), .inr ?_⟩, hlit⟩, ?_⟩)))
    · rw [e1]; rfl
    · rw [e1]; show 0 < lim d x; omega
  · obtain ⟨x, y, h1, h2, e1⟩ := g5 e
    have := h.int h1.up.1
    refine .inr (.inr (.inr (.inr (.inl ⟨by omega, ⟨⟨.inr (hsize (by omega) (by omega)), .inr (hbytes (by omega) (by omega)), .inr (hnames (by omega)), .inr (htags (by omega)), .inr ?_⟩, hlit⟩, ?_⟩))))
    · rw [e1]; rfl
    · rw [e1]; show 0 < lim d x; omega
  · obtain ⟨n1, n2, n3⟩ := hr.hnames.1 e
    refine .inr (.inr (.inr (.inr (.inr (.inl ⟨by omega, ⟨⟨.inr (hsize (by omega) (by omega)), .inr (hbytes (by omega) (by omega)), .inl rfl, .inr (htags (by omega)), .inr ?_⟩, hlit⟩, n1, by omega, fun i x hx => ?_⟩)))))
    · rw [(g6 e).1]
    · have hil := (P8.1 hx).1
      obtain ⟨a, ha, rfl⟩ := n3 i x hx
      have e1 : ((r.names.length : Int) - i) = ((r.names.length - i : Nat) : Int) := by omega
      rw [e1]
      refine ⟨nm_cat (G6 a ha) (by omega), fun hm => ?_⟩
      obtain ⟨m, hm', hm⟩ := List.mem_take_iff_getElem.1 hm
      obtain ⟨a', ha', e2⟩ := n3 m _ (P9 (by omega))
      rw [hm, show ((r.names.length : Int) - m) = ((r.names.length - m : Nat) : Int) by omega] at e2
      have := cat_inj (by omega) (by omega) e2
      omega
  · obtain ⟨t1, t2, t3⟩ := hr.htags.1 e
    obtain ⟨x, l, h1, h2, h3, e1⟩ := g7 e
    have hlim := h.int h1.up.1
    refine .inr (.inr (.inr (.inr (.inr (.inr (.inl ⟨by omega, ⟨⟨.inr (hsize (by omega) (by omega)), .inr (hbytes (by omega) (by omega)), .inr (hnames (by omega)), .inl rfl, .inl (by decide)⟩, hlit⟩, ?_, t1, by omega, fun i z hz => ?_⟩))))))
    · rw [e1, Rb, h2]
    · have hil := (P8.1 hz).1
      have := t3 i z hz
      refine ⟨by omega, ?_, fun y hi hy => ?_⟩
      · rw [e1]; show z ≤ lim d x; omega
      · have := t3 (i - 1) y hy
        omega
  · obtain ⟨y, h2, e1⟩ := g8 (.inl e)
    refine .inr (.inr (.inr (.inr (.inr (.inr (.inr (.inl ⟨.inl (by omega), ⟨⟨.inr (hsize (by omega) (by omega)), .inr (hbytes (by omega) (by omega)), .inr (hnames (by omega)), .inr (htags (by omega)), .inr ?_⟩, hlit⟩⟩)))))))
    rw [e1]; rfl
  · obtain ⟨y, h2, e1⟩ := g8 (.inr e)
    refine .inr (.inr (.inr (.inr (.inr (.inr (.inr (.inl ⟨.inr (by omega), ⟨⟨.inr (hsize (by omega) (by omega)), .inr (hbytes (by omega) (by omega)), .inr (hnames (by omega)), .inr (htags (by omega)), .inr ?_⟩, hlit⟩⟩)))))))
    rw [e1]; rfl
  · obtain ⟨x, hx, eb⟩ := hr.hbytes.2.1 e
    refine .inr (.inr (.inr (.inr (.inr (.inr (.inr (.inr ⟨by omega, ⟨⟨.inr (hsize (by omega) (by omega)), .inl rfl, .inr (hnames (by omega)), .inr (htags (by omega)), .inr ?_⟩, hlit⟩, ?_, ?_⟩)))))))
    · rw [g1 (.inr (.inr (.inr e)))]; rfl
    · rw [eb]; rfl
    · rw [eb]
      simp only [List.mem_cons, List.not_mem_nil, or_false] at hx
      rcases hx with rfl | rfl | rfl | rfl <;> decide
end
theorem DrawD.good {d : Des} (h : DrawD d) : Ut d := by
  refine ⟨h.pos, by have := h.most; omega, fun j hj => ?_⟩
  obtain ⟨r, hr⟩ : ∃ r, d[j]? = some r := ⟨_, P9 hj⟩
  have hm := h.most
  refine (Ex (by omega) (by simpa using hr)).2 ?_
  rw [Int.toNat_natCast]
  obtain ⟨a, ha, en⟩ := h.name hr
  refine ⟨fun k x hk hx e => ?_, fun k z hz => h.kid hr z (Re hz), by rw [en]; exact nm_cat ha (by omega), h.kindOk hr⟩
  obtain ⟨a', ha', en'⟩ := h.name hx
  rw [en, en'] at e
  have := cat_inj (by omega) (by omega) e
  omega
theorem Kw {α : Type} (f : α → Nat) (c : Nat) : ∀ l : List α, (∀ x ∈ l, f x ≤ c) → (l.map f).sum ≤ l.length * c
  | [], _ => by simp
  | x :: l, h => by
    have h1 := h x (by simp)
    have h2 := Kw f c l fun y hy => h y (by simp [hy])
    rw [List.map_cons, List.sum_cons, Rb, Nat.succ_mul]; omega
section
variable {d : Des} (h : DrawD d) {j : Nat} {r : Rul} (hj : d[j]? = some r)
include h hj
theorem DrawD.lens : r.name.size ≤ 5 ∧ r.bytes.length ≤ 3 ∧ r.names.length ≤ 3 ∧ (∀ s ∈ r.names, s.size ≤ 5) ∧ r.tags.length ≤ 3 ∧ r.kids.length ≤ 4 ∧ (∀ z ∈ r.tags, 0 ≤ z ∧ z ≤ 12) ∧ 0 ≤ r.size ∧ r.size ≤ 4 := by
  obtain ⟨k, k1, k2, hr, hk, hl, hjl⟩ := h.kinds hj
  have hm := h.most
  obtain ⟨a, ha, en⟩ := h.name hj
  have hnm : r.names.length ≤ 3 ∧ ∀ s ∈ r.names, s.size ≤ 5 := by
    by_cases e : k = 6
    · obtain ⟨n1, n2, n3⟩ := hr.hnames.1 e
      refine ⟨n2, fun s hs => ?_⟩
      obtain ⟨i, hi⟩ := List.mem_iff_getElem?.1 hs
      have hil := (P8.1 hi).1
      obtain ⟨b, hb, rfl⟩ := n3 i s hi
      rw [show ((r.names.length : Int) - i) = ((r.names.length - i : Nat) : Int) by omega]
      exact ncat_le (G6 b hb) (by omega)
    · rw [hr.hnames.2 e]; simp
  have htg : r.tags.length ≤ 3 ∧ ∀ z ∈ r.tags, 0 ≤ z ∧ z ≤ 12 := by
    by_cases e : k = 7
    · obtain ⟨n1, n2, n3⟩ := hr.htags.1 e
      refine ⟨n2, fun s hs => ?_⟩
      obtain ⟨i, hi⟩ := List.mem_iff_getElem?.1 hs
      have hil := (P8.1 hi).1
      have := n3 i s hi
      omega
    · rw [hr.htags.2 e]; simp
  have hbs : r.bytes.length ≤ 3 := by
    by_cases e : k = 2
    · exact (hr.hbytes.1 e).2
    · by_cases e' : k = 10
      · obtain ⟨x, _, eb⟩ := hr.hbytes.2.1 e'
        rw [eb]; simp
      · rw [hr.hbytes.2.2 e e']; simp
  have hkd : r.kids.length ≤ 4 := by
    obtain ⟨g4, g5, g6, g7, g8, g1⟩ := hr.hkids
    have hc : k = 1 ∨ k = 2 ∨ k = 3 ∨ k = 4 ∨ k = 5 ∨ k = 6 ∨ k = 7 ∨ k = 8 ∨ k = 9 ∨ k = 10 := by omega
    rcases hc with e | e | e | e | e | e | e | e | e | e
    · rw [g1 (.inl e)]; simp
    · rw [g1 (.inr (.inl e))]; simp
    · rw [g1 (.inr (.inr (.inl e)))]; simp
    · obtain ⟨x, _, e1⟩ := g4 e; rw [e1]; simp
    · obtain ⟨x, y, _, _, e1⟩ := g5 e; rw [e1]; simp
    · rw [(g6 e).1]; omega
    · obtain ⟨x, l, _, h2, _, e1⟩ := g7 e; rw [e1, Rb, h2]; omega
    · obtain ⟨y, _, e1⟩ := g8 (.inl e); rw [e1]; simp
    · obtain ⟨y, _, e1⟩ := g8 (.inr e); rw [e1]; simp
    · rw [g1 (.inr (.inr (.inr e)))]; simp
  have hsz : 0 ≤ r.size ∧ r.size ≤ 4 := by
    by_cases e : k = 1
    · have := hr.hsize.1 e; omega
    · by_cases e' : k = 3
      · have := hr.hsize.2.1 e'; omega
      · have := hr.hsize.2.2 e e'; omega
  exact ⟨by rw [en]; exact ncat_le ha (by omega), hbs, hnm.1, hnm.2, htg.1, hkd, htg.2, hsz.1, hsz.2⟩
theorem DrawD.ruleOk : r.Ok := by
  obtain ⟨l1, l2, l3, l4, l5, l6, l7, l8, l9⟩ := h.lens hj
  obtain ⟨k, k1, k2, hr, hk, hl, hjl⟩ := h.kinds hj
  have hm := h.most
  have hkd := h.kid hj
  have mx : maxLen = 4611686018427387904 ∨ 10 ≤ maxLen := .inr (by decide)
  refine ⟨by unfold I64; omega, by unfold I64; omega, fun z hz => by have := l7 z hz; unfold I64; omega, fun z hz => by have := hkd z hz; unfold I64; omega, ?_⟩
  have hx : 10 ≤ maxLen := by decide
  exact ⟨by omega, by omega, by omega, fun s hs => by have := l4 s hs; omega, by omega, by omega, trivial⟩
theorem DrawD.ruleTotal : r.total ≤ 40 := by
  obtain ⟨l1, l2, l3, l4, l5, l6, l7, l8, l9⟩ := h.lens hj
  have := Kw ByteArray.size 5 r.names l4
  unfold Rul.total
  omega
end
theorem DrawD.desOk {d : Des} (h : DrawD d) : P5 d :=
  ⟨fun r hr => by
    obtain ⟨j, hj⟩ := List.mem_iff_getElem?.1 hr
    exact h.ruleOk hj, by have := h.most; have hx : 10 ≤ maxLen := by decide
                          omega⟩
theorem DrawD.total {d : Des} (h : DrawD d) : W0 d ≤ 1000 := by
  have := Kw Rul.total 40 d fun r hr => by
    obtain ⟨j, hj⟩ := List.mem_iff_getElem?.1 hr
    exact h.ruleTotal hj
  have := h.most
  unfold W0
  omega
end Go.Proofs.Ytnecoghfhcimeaa
