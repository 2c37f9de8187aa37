/- Gathered texts. -/
import Derived.Test.YtignpklaefibaaaGat0
import Derived.Test.YtignpklaefibaaaGat1
import Derived.Test.YtignpklaefibaaaGat2
import Derived.Test.YtignpklaefibaaaGat3
import Derived.Test.YtignpklaefibaaaGat4
import Derived.Laws.Tables
/- Marks on programs. -/
namespace Go.Proofs.Ytignpklaefibaaa
set_option linter.unusedSimpArgs false
set_option linter.unusedVariables false
open Go.RowKit
open AV (Mem Keeps)
def prgO (p : Prg) : OV := .agg [inssO p.code, intsO p.entries]
theorem seal_prg (p : Prg) : OV.Seal (prgO p) (prgR p) := by
  simp only [prgO, prgR, OV.Seal]
  exact ⟨_, rfl, by simp only [OV.Seals]; exact ⟨_, _, rfl, seal_inss _, _, _, rfl, seal_ints _, rfl⟩⟩
theorem prg_val {w : World} {p : Prg} {u : Value} {bs : List Nat} (h : OV.rel w (prgO p) u bs) : ∃ A n c A' n' c', u = .agg #[.slice A n c, .slice A' n' c'] := by
  simp only [prgO, OV.rel, OV.rels] at h
  obtain ⟨us, rfl, v, _, b1, _, e1, rfl, h1, v', _, b2, _, rfl, rfl, h2, rfl, rfl⟩ := h
  obtain ⟨us⟩ := us
  simp only at e1
  subst e1
  obtain ⟨A, n, c, rfl⟩ := row_slice (show OV.rel w (inssO p.code) v b1 from h1)
  obtain ⟨A', n', c', rfl⟩ := row_slice (show OV.rel w (intsO p.entries) v' b2 from h2)
  exact ⟨A, n, c, A', n', c', rfl⟩
theorem prg_open {w : World} {p : Prg} {A : Option Addr} {n c : Nat} {A' : Option Addr} {n' c' : Nat} {bs : List Nat} (h : OV.rel w (prgO p) (.agg #[.slice A n c, .slice A' n' c']) bs) : ∃ b1 b2, bs = b1 ++ b2 ∧ OV.rel w (inssO p.code) (.slice A n c) b1 ∧ OV.rel w (intsO p.entries) (.slice A' n' c') b2 := by
  simp only [prgO, OV.rel, OV.rels] at h
  obtain ⟨us, e0, v, _, b1, _, e1, rfl, h1, v', _, b2, _, rfl, rfl, h2, rfl, rfl⟩ := h
  injection e0 with e0
  subst e0
  simp only [List.cons.injEq, and_true] at e1
  obtain ⟨rfl, rfl⟩ := e1
  exact ⟨b1, b2, by simp, h1, h2⟩
theorem prg_shut {w : World} {p : Prg} {A : Option Addr} {n c : Nat} {A' : Option Addr} {n' c' : Nat} {b1 b2 : List Nat} (h1 : OV.rel w (inssO p.code) (.slice A n c) b1) (h2 : OV.rel w (intsO p.entries) (.slice A' n' c') b2) : OV.rel w (prgO p) (.agg #[.slice A n c, .slice A' n' c']) (b1 ++ b2) := by
  simp only [prgO, OV.rel, OV.rels]
  exact ⟨_, rfl, _, _, b1, b2, rfl, rfl, h1, _, _, b2, [], rfl, by simp, h2, rfl, rfl⟩
def prgM (p : Prg) (k : Int) : Prg := ⟨insSeq k p.code.length, seqI (k + 3 * (p.code.length : Int)) p.entries.length⟩
set_option maxHeartbeats 4000000 in
theorem markProgram_mk (p : Prg) (k : Int) (h0 : 0 ≤ k) (hk : k ≤ 1099511627776) (h1 : p.code.length ≤ 4194304) (h2 : p.entries.length ≤ 4194304) : MK Try.prog 37 (prgO p) k (k + 3 * (p.code.length : Int) + (p.entries.length : Int)) (prgO (prgM p k)) := by
  intro w u bs h hnd hlt
  obtain ⟨A, n, c, A', n', c', rfl⟩ := prg_val h
  obtain ⟨b1, b2, rfl, g1, g2⟩ := prg_open h
  rw [List.nodup_append] at hnd
  obtain ⟨n1, n2, n3⟩ := hnd
  refine mark_enter (X := fun w' => OV.rel w' (prgO (prgM p k)) (.agg #[.slice A n c, .slice A' n' c']) (b1 ++ b2)) Try.func37 rfl _ Try.ntmps37 (by simp) hlt ?_
  generalize hC0 : (⟨w, fun b => b ∉ b1 ++ b2, fun _ => False, _⟩ : Ctx) = C0
  have hn : C0.n = 14 := by rw [← hC0]
  have hm0 : ∀ b, ¬ C0.mu b := by rw [← hC0]; exact fun _ h => h
  have G1 : Gh C0 (inssO p.code) (.slice A n c) b1 := by rw [← hC0]; exact ⟨g1, fun b hb => ⟨hlt b (by simp [hb]), fun h => h, fun h => h (by simp [hb])⟩⟩
  have G2 : Gh C0 (intsO p.entries) (.slice A' n' c') b2 := by rw [← hC0]; exact ⟨g2, fun b hb => ⟨hlt b (by simp [hb]), fun h => h, fun h => h (by simp [hb])⟩⟩
  repeat' (first
    | refine RunsL.step tabOk hn rfl ?_
    | refine RunsL.nil ?_
    | refine Runs.toRegion 30 rfl ?_
    | (refine Runs.ctls 30 rfl ?_; first | refine Runs.cond_t rfl ?_ | refine Runs.cond_f rfl ?_ | ((first | refine Runs.cond_yes rfl ?_ ?_ | refine Runs.cond_nno rfl ?_ ?_); · first | omega | rfl | assumption | (simp only [List.length_map]; omega)) | ((first | refine Runs.cond_no rfl ?_ ?_ | refine Runs.cond_nyes rfl ?_ ?_); · first | omega | rfl | assumption | (simp only [List.length_map]; omega)) | refine Runs.cond_dec rfl (fun h => ?_) (fun h => ?_) | refine Runs.cond_ndec rfl (fun h => ?_) (fun h => ?_) | refine Runs.cond_nb rfl (fun h => ?_) (fun h => ?_) | refine Runs.cond_b rfl (fun h => ?_) (fun h => ?_) | refine Runs.ret (ends_ro hm rfl rfl ?_) | exact Runs.ret (ends_cellR hm rfl rfl rfl (Nat.le_of_ble_eq_true rfl) rfl rfl))
    | refine op_box rfl (tl hn rfl) ?_
    | refine op_storeF rfl rfl rfl rfl (Nat.le_of_ble_eq_true rfl) ?_
    | refine op_alloc (tl hn rfl) ?_
    | refine op_storeN rfl rfl rfl rfl (Nat.le_of_ble_eq_true rfl) ?_
    | (refine RunsL.pe hn rfl rfl rfl ?_; first
      | refine ⟨_, pu_add rfl rfl (by omega), ?_⟩
      | refine ⟨_, pu_indexAddr_map rfl rfl (by omega) (by assumption), ?_⟩
      | refine ⟨_, pu_sub rfl rfl (by omega), ?_⟩
      | refine ⟨_, pu_pick_b rfl rfl rfl, ?_⟩
      | refine ⟨_, pu_mul rfl rfl (by omega), ?_⟩
      | refine ⟨_, pu_build rfl rfl rfl rfl rfl rfl, ?_⟩))
  refine op_callK (markInstructionS_mk p.code k h0 (by omega) h1) G1 n1 rfl (tl hn rfl) fun C1 x1 G1 => ?_
  have hn := x1.n.trans hn
  have G2 := G2.next x1 fun b hb hm => n3 b hm b hb rfl
  repeat' (first
    | refine RunsL.step tabOk hn rfl ?_
    | refine RunsL.nil ?_
    | refine Runs.toRegion 30 rfl ?_
    | (refine Runs.ctls 30 rfl ?_; first | refine Runs.cond_t rfl ?_ | refine Runs.cond_f rfl ?_ | ((first | refine Runs.cond_yes rfl ?_ ?_ | refine Runs.cond_nno rfl ?_ ?_); · first | omega | rfl | assumption | (simp only [List.length_map]; omega)) | ((first | refine Runs.cond_no rfl ?_ ?_ | refine Runs.cond_nyes rfl ?_ ?_); · first | omega | rfl | assumption | (simp only [List.length_map]; omega)) | refine Runs.cond_dec rfl (fun h => ?_) (fun h => ?_) | refine Runs.cond_ndec rfl (fun h => ?_) (fun h => ?_) | refine Runs.cond_nb rfl (fun h => ?_) (fun h => ?_) | refine Runs.cond_b rfl (fun h => ?_) (fun h => ?_) | refine Runs.ret (ends_ro hm rfl rfl ?_) | exact Runs.ret (ends_cellR hm rfl rfl rfl (Nat.le_of_ble_eq_true rfl) rfl rfl))
    | refine op_box rfl (tl hn rfl) ?_
    | refine op_storeF rfl rfl rfl rfl (Nat.le_of_ble_eq_true rfl) ?_
    | refine op_alloc (tl hn rfl) ?_
    | refine op_storeN rfl rfl rfl rfl (Nat.le_of_ble_eq_true rfl) ?_
    | (refine RunsL.pe hn rfl rfl rfl ?_; first
      | refine ⟨_, pu_add rfl rfl (by omega), ?_⟩
      | refine ⟨_, pu_indexAddr_map rfl rfl (by omega) (by assumption), ?_⟩
      | refine ⟨_, pu_sub rfl rfl (by omega), ?_⟩
      | refine ⟨_, pu_pick_b rfl rfl rfl, ?_⟩
      | refine ⟨_, pu_mul rfl rfl (by omega), ?_⟩
      | refine ⟨_, pu_build rfl rfl rfl rfl rfl rfl, ?_⟩))
  refine op_callK (markIntS_mk p.entries _ (by omega) (by omega) h2) G2 n2 rfl (tl hn rfl) fun C2 x2 G2 => ?_
  have hn := x2.n.trans hn
  have G1 := G1.next x2 fun b hb hm => n3 b hb b hm rfl
  repeat' (first
    | refine RunsL.step tabOk hn rfl ?_
    | refine RunsL.nil ?_
    | refine Runs.toRegion 30 rfl ?_
    | (refine Runs.ctls 30 rfl ?_; first | refine Runs.cond_t rfl ?_ | refine Runs.cond_f rfl ?_ | ((first | refine Runs.cond_yes rfl ?_ ?_ | refine Runs.cond_nno rfl ?_ ?_); · first | omega | rfl | assumption | (simp only [List.length_map]; omega)) | ((first | refine Runs.cond_no rfl ?_ ?_ | refine Runs.cond_nyes rfl ?_ ?_); · first | omega | rfl | assumption | (simp only [List.length_map]; omega)) | refine Runs.cond_dec rfl (fun h => ?_) (fun h => ?_) | refine Runs.cond_ndec rfl (fun h => ?_) (fun h => ?_) | refine Runs.cond_nb rfl (fun h => ?_) (fun h => ?_) | refine Runs.cond_b rfl (fun h => ?_) (fun h => ?_) | refine Runs.ret (ends_ro hm rfl rfl ?_) | exact Runs.ret (ends_cellR hm rfl rfl rfl (Nat.le_of_ble_eq_true rfl) rfl rfl))
    | refine op_box rfl (tl hn rfl) ?_
    | refine op_storeF rfl rfl rfl rfl (Nat.le_of_ble_eq_true rfl) ?_
    | refine op_alloc (tl hn rfl) ?_
    | refine op_storeN rfl rfl rfl rfl (Nat.le_of_ble_eq_true rfl) ?_
    | (refine RunsL.pe hn rfl rfl rfl ?_; first
      | refine ⟨_, pu_add rfl rfl (by omega), ?_⟩
      | refine ⟨_, pu_indexAddr_map rfl rfl (by omega) (by assumption), ?_⟩
      | refine ⟨_, pu_sub rfl rfl (by omega), ?_⟩
      | refine ⟨_, pu_pick_b rfl rfl rfl, ?_⟩
      | refine ⟨_, pu_mul rfl rfl (by omega), ?_⟩
      | refine ⟨_, pu_build rfl rfl rfl rfl rfl rfl, ?_⟩))
  refine Runs.ctls 30 rfl (Runs.ret (endsM (x1.trans x2) hm0 rfl rfl fun φ w hG => ?_))
  exact OV.rel_keep _ _ _ (prg_shut (p := prgM p k) (by simpa [prgM] using G1.rel) (by simpa [prgM] using G2.rel)) fun b hb => hG.frm.block b (by
    rcases List.mem_append.1 hb with hb | hb
    · exact (G1.fix b hb).1
    · exact (G2.fix b hb).1) (by
    rcases List.mem_append.1 hb with hb | hb
    · exact (G1.fix b hb).2.1
    · exact (G2.fix b hb).2.1)
theorem heldProgram_ac (p : Prg) (k : Int) (h0 : 0 ≤ k) (hk : k ≤ 1099511627776) (h1 : p.code.length ≤ 4194304) (h2 : p.entries.length ≤ 4194304) : ACv Try.prog 38 [prgR (prgM p k), .int k] (.int (k + 3 * (p.code.length : Int) + (p.entries.length : Int))) := by
  have a1 := heldInstructionS_ac p.code.length k h0 (by omega) h1
  have a2 := heldIntS_ac p.entries.length (k + 3 * (p.code.length : Int)) (by omega) (by omega) h2
  refine ac_enter Try.func38 rfl _ Try.ntmps38 (by simp) fun C hn hm => ?_
  repeat' (first
    | refine RunsL.step tabOk hn rfl ?_
    | refine RunsL.nil ?_
    | refine Runs.toRegion 30 rfl ?_
    | (refine RunsL.pe hn rfl rfl rfl ?_; first
      | refine ⟨_, pu_callR a1 rfl, ?_⟩
      | refine ⟨_, pu_callR a2 rfl, ?_⟩)
    | (refine Runs.ctls 30 rfl ?_; first | refine Runs.cond_t rfl ?_ | refine Runs.cond_f rfl ?_ | ((first | refine Runs.cond_yes rfl ?_ ?_ | refine Runs.cond_nno rfl ?_ ?_); · first | omega | rfl | assumption | (simp only [List.length_map]; omega)) | ((first | refine Runs.cond_no rfl ?_ ?_ | refine Runs.cond_nyes rfl ?_ ?_); · first | omega | rfl | assumption | (simp only [List.length_map]; omega)) | refine Runs.cond_dec rfl (fun h => ?_) (fun h => ?_) | refine Runs.cond_ndec rfl (fun h => ?_) (fun h => ?_) | refine Runs.cond_nb rfl (fun h => ?_) (fun h => ?_) | refine Runs.cond_b rfl (fun h => ?_) (fun h => ?_) | refine Runs.ret (ends_ro hm rfl rfl ?_) | exact Runs.ret (ends_cellR hm rfl rfl rfl (Nat.le_of_ble_eq_true rfl) rfl rfl))
    | refine op_box rfl (tl hn rfl) ?_
    | refine op_storeF rfl rfl rfl rfl (Nat.le_of_ble_eq_true rfl) ?_
    | refine op_alloc (tl hn rfl) ?_
    | refine op_storeN rfl rfl rfl rfl (Nat.le_of_ble_eq_true rfl) ?_
    | (refine RunsL.pe hn rfl rfl rfl ?_; first
      | refine ⟨_, pu_add rfl rfl (by omega), ?_⟩
      | refine ⟨_, pu_indexAddr_map rfl rfl (by omega) (by assumption), ?_⟩
      | refine ⟨_, pu_sub rfl rfl (by omega), ?_⟩
      | refine ⟨_, pu_pick_b rfl rfl rfl, ?_⟩
      | refine ⟨_, pu_mul rfl rfl (by omega), ?_⟩
      | refine ⟨_, pu_build rfl rfl rfl rfl rfl rfl, ?_⟩))
  all_goals first
    | exact rr_int rfl
    | (exfalso; omega)
theorem eqPrgM_ac (p : Prg) (h1 : p.code.length ≤ maxLen) (h2 : p.entries.length ≤ maxLen) : ACv Try.prog 36 [prgR p, prgR p] (.bool true) := by
  refine ac_enter Try.func36 rfl _ Try.ntmps36 (by simp) fun C hn hm => ?_
  repeat' (first
    | refine RunsL.step tabOk hn rfl ?_
    | refine RunsL.nil ?_
    | refine Runs.toRegion 30 rfl ?_
    | (refine RunsL.pe hn rfl rfl rfl ?_; first
      | refine ⟨_, pu_callR (eqInssM_ac p.code (by omega)) rfl, ?_⟩
      | refine ⟨_, pu_callR (eqInts_ac p.entries (by omega)) rfl, ?_⟩)
    | (refine Runs.ctls 30 rfl ?_; first | refine Runs.cond_t rfl ?_ | refine Runs.cond_f rfl ?_ | ((first | refine Runs.cond_yes rfl ?_ ?_ | refine Runs.cond_nno rfl ?_ ?_); · first | omega | rfl | assumption | (simp only [List.length_map]; omega)) | ((first | refine Runs.cond_no rfl ?_ ?_ | refine Runs.cond_nyes rfl ?_ ?_); · first | omega | rfl | assumption | (simp only [List.length_map]; omega)) | refine Runs.cond_dec rfl (fun h => ?_) (fun h => ?_) | refine Runs.cond_ndec rfl (fun h => ?_) (fun h => ?_) | refine Runs.cond_nb rfl (fun h => ?_) (fun h => ?_) | refine Runs.cond_b rfl (fun h => ?_) (fun h => ?_) | refine Runs.ret (ends_ro hm rfl rfl ?_) | exact Runs.ret (ends_cellR hm rfl rfl rfl (Nat.le_of_ble_eq_true rfl) rfl rfl))
    | refine op_box rfl (tl hn rfl) ?_
    | refine op_storeF rfl rfl rfl rfl (Nat.le_of_ble_eq_true rfl) ?_
    | refine op_alloc (tl hn rfl) ?_
    | refine op_storeN rfl rfl rfl rfl (Nat.le_of_ble_eq_true rfl) ?_
    | (refine RunsL.pe hn rfl rfl rfl ?_; first
      | refine ⟨_, pu_add rfl rfl (by omega), ?_⟩
      | refine ⟨_, pu_indexAddr_map rfl rfl (by omega) (by assumption), ?_⟩
      | refine ⟨_, pu_sub rfl rfl (by omega), ?_⟩
      | refine ⟨_, pu_pick_b rfl rfl rfl, ?_⟩
      | refine ⟨_, pu_mul rfl rfl (by omega), ?_⟩
      | refine ⟨_, pu_build rfl rfl rfl rfl rfl rfl, ?_⟩))
  exact rr_bool rfl
end Go.Proofs.Ytignpklaefibaaa
/- Functions that are handed objects of their caller's and write into them. Over any program. -/
namespace Go.Proofs.Ytignpklaefibaaa
set_option linter.unusedSimpArgs false
set_option linter.unusedVariables false
open Go.RowKit
open AV (Mem Keeps)
/-! ### What a cell speaks of is forgotten. -/
theorem good_junk {C : Ctx} {w : World} {φ : Nat → Option Nat} {σ : List Ob} (hG : Good C ⟨w, φ, σ, C.ok⟩) {j p : Nat} {o : Ob} (ho : σ[j]? = some o) :
    Good C ⟨w, φ, σ.set j ⟨o.t, o.sz, o.cs.set p .junk⟩, C.ok⟩ ∧ Keeps (fun _ => True) ⟨w, φ, σ, C.ok⟩ ⟨w, φ, σ.set j ⟨o.t, o.sz, o.cs.set p .junk⟩, C.ok⟩ := by
  have hj := (List.getElem?_eq_some_iff.1 ho).1
  have hK : Keeps (fun _ => True) ⟨w, φ, σ, C.ok⟩ ⟨w, φ, σ.set j ⟨o.t, o.sz, o.cs.set p .junk⟩, C.ok⟩ := by
    refine ⟨⟨Nat.le_refl _, fun b _ hb => ⟨⟨hb.1, fun i hi => hb.2 i (by simpa using hi)⟩, rfl⟩⟩, fun i _ hi => ⟨by simpa using hi, rfl⟩, fun i ob _ hi => ?_, fun i g us t _ _ _ hh => ⟨us, hh, rfl⟩⟩
    by_cases e : i = j
    · subst e
      have : ob = o := Option.some.inj (hi.symm.trans ho)
      subst this
      exact ⟨ob.cs.set p .junk, by simp [hj], by simp⟩
    · exact ⟨ob.cs, by simp only [List.getElem?_set_ne (Ne.symm e)]; exact hi, rfl⟩
  refine ⟨⟨rfl, fun a b g ha hb => hG.inj a b g (by simpa using ha) (by simpa using hb), fun i ob hi => ?_, fun i g hi => hG.mine i g (by simpa using hi), hG.frm⟩, hK⟩
  by_cases e : i = j
  · subst e
    simp only [List.getElem?_set_self hj, Option.some.injEq] at hi
    subst hi
    have h := hG.ob i o ho
    show ObRel _ _ (φ i)
    simp only at h
    cases hφ : φ i with
    | none =>
      rw [hφ] at h
      simp only [ObRel] at h ⊢
      simp [h]
    | some g =>
      rw [hφ] at h
      obtain ⟨us, h1, h2, h3⟩ := h
      refine ⟨us, h1, by simpa using h2, fun k v hk => ?_⟩
      simp only [List.getElem?_set] at hk
      split at hk
      · rename_i hpk
        subst hpk
        split at hk
        · rename_i hlt
          injection hk with hk; subst hk
          obtain ⟨u, e1, e2, _⟩ := h3 p _ (List.getElem?_eq_getElem hlt)
          exact ⟨u, e1, e2, by simp [AV.rel]⟩
        · cases hk
      · obtain ⟨u, e1, e2, e3⟩ := h3 k v hk
        exact ⟨u, e1, e2, AV.rel_keeps hK _ _ (AV.only_true _) e3⟩
  · rw [List.getElem?_set_ne (Ne.symm e)] at hi
    exact (hG.ob i ob hi).keeps hK fun _ _ => rfl
section
variable {P : Program} {C : Ctx} {ops : Array Oper} {rest : List Oper} {k : List Item} {R : Act → World → Prop} {env : Env} {σ : List Ob} {t : Nat} {ty : TypeId} {pos : String} {after : Array Edge}
theorem RunsL.junk {l : List Oper} (j p : Nat) {o : Ob} (ho : σ[j]? = some o) (hk : RunsL P C ops l k R ⟨env, σ.set j ⟨o.t, o.sz, o.cs.set p .junk⟩⟩) : RunsL P C ops l k R ⟨env, σ⟩ :=
  ⟨fun a w ⟨h1, h2, φ, h3, h4⟩ => by
    obtain ⟨g1, g2⟩ := good_junk (p := p) h3 ho
    exact hk.run a w ⟨h1, h2, φ, g1, h4.keeps g2⟩⟩
/-- A row of the frame's own is cut at its end. -/
theorem op_cut {tt e : TypeId} {z : Value} {sz bytes i n : Nat} {o : Ob} {x y : Operand} {kd : IntKind} {q : Int} [hs : SL P tt e z sz bytes] (hx : ev env x = .own i) (hy : ev env y = .ro (.c (.int kd q))) (ho : σ[i]? = some o) (hsz : o.sz = sz) (hl : o.cs.length = n * sz) (h0 : 0 ≤ q) (hq : q ≤ n) (hn : 0 < n)
    (hfree : FreeI i (σ.set i ⟨o.t, o.sz, []⟩)) (hro : ∀ (j : Nat) v, o.cs[j]? = some v → v.only fun k => k ≠ i) (ht : t < C.n)
    (hk : RunsL P C ops rest k R ⟨(t, .own i) :: killEnv i env, σ.set i ⟨o.t, o.sz, o.cs.take (q.toNat * o.sz)⟩⟩) :
    RunsL P C ops (⟨some t, .slice tt x none (some y) none, ty, pos, after, none⟩ :: rest) k R ⟨env, σ⟩ := by
  refine ⟨fun a w ⟨h1, h2, φ, hG, hH⟩ => ?_⟩
  have hil := (List.getElem?_eq_some_iff.1 ho).1
  have h := ev_rel hH x
  rw [hx] at h
  simp only [AV.rel] at h
  obtain ⟨ob, n', r1, r2, r3, r4⟩ := h
  rw [ho] at r1; injection r1 with r1; subst r1
  rw [hsz] at r2 r3
  have hn' : n' = n := Nat.eq_of_mul_eq_mul_right r3 (r2.symm.trans hl)
  subst hn'
  rcases r4 with ⟨_, e0, _⟩ | ⟨g, cap, us, hφ, eu, hh, c1, c2, c3⟩
  · omega
  have hle : q.toNat * sz ≤ n' * sz := Nat.mul_le_mul_right _ (by omega)
  have hK : Keeps (fun k => k ≠ i) ⟨w, φ, σ, C.ok⟩ ⟨w, φ, σ.set i ⟨o.t, o.sz, o.cs.take (q.toNat * o.sz)⟩, C.ok⟩ :=
    ⟨⟨Nat.le_refl _, fun b _ hb => ⟨⟨hb.1, fun j hj => hb.2 j (by simpa using hj)⟩, rfl⟩⟩, fun j _ hj => ⟨by simpa using hj, rfl⟩, fun j ob hji hj => ⟨ob.cs, by simp only [List.getElem?_set_ne (Ne.symm hji)]; exact hj, rfl⟩, fun j g us t _ _ _ hh => ⟨us, hh, rfl⟩⟩
  have hG' : Good C ⟨w, φ, σ.set i ⟨o.t, o.sz, o.cs.take (q.toNat * o.sz)⟩, C.ok⟩ := by
    refine ⟨rfl, fun a b g ha hb => hG.inj a b g (by simpa using ha) (by simpa using hb), fun j ob hj => ?_, fun j g hj => hG.mine j g (by simpa using hj), hG.frm⟩
    by_cases e : j = i
    · subst e
      simp only [List.getElem?_set_self hil, Option.some.injEq] at hj
      subst hj
      have hob := hG.ob j o ho
      show ObRel _ _ (φ j)
      rw [hφ]
      rw [show (⟨w, φ, σ, C.ok⟩ : Mem).φ j = some g from hφ] at hob
      obtain ⟨us', q1, q2, q3⟩ := hob
      refine ⟨us', q1, by rw [List.length_take]; omega, fun m v hm => ?_⟩
      rw [List.getElem?_take] at hm
      split at hm
      · obtain ⟨u, e1, e2, e3⟩ := q3 m v hm
        exact ⟨u, e1, e2, AV.rel_keeps hK _ _ (hro m v hm) e3⟩
      · cases hm
    · rw [List.getElem?_set_ne (Ne.symm e)] at hj
      have h := hG.ob j ob hj
      have hfj := hfree.at_ j ob (by rw [List.getElem?_set_ne (Ne.symm e)]; exact hj)
      show ObRel _ _ (φ j)
      simp only at h
      cases hφj : φ j with
      | none => rw [hφj] at h; exact h
      | some g' =>
        rw [hφj] at h
        obtain ⟨us', q1, q2, q3⟩ := h
        refine ⟨us', q1, q2, fun m v hm => ?_⟩
        obtain ⟨u, e1, e2, e3⟩ := q3 m v hm
        exact ⟨u, e1, e2, AV.rel_keeps hK _ _ (onlys_mem hfj m v hm) e3⟩
  refine wpList_plain rfl fun K hK' => ?_
  have hyv := ev_c (m := ⟨w, φ, σ, C.ok⟩) (ev_rel hH y) hy
  have hrun : (execOp a.eval (⟨some t, .slice tt x none (some y) none, ty, pos, after, none⟩ : Oper)).run P w = .ok (.value (sliced (some ⟨g, 0, none⟩) 0 q.toNat cap sz)) w := by
    simp only [execOp, Option.map_some, Option.map_none, hyv, eu, Sem.run_bind, run_sliceAt_slice w tt _ _ _ _ SL.under, run_slice_h w tt (some ⟨g, 0, none⟩) n' cap SL.under kd q h0 (by omega), SL.size, Result.andThen_ok]
    rfl
  unfold Oper.wp
  rw [hrun]
  simp only [Oper.upon]
  refine hK' _ _ (hk.run _ _ ⟨h1, by simp [Act.put, h2], φ, hG', Holds.put (fun s => ?_) (by rw [h2]; exact ht) ?_⟩)
  · rw [look_killEnv]
    exact AV.rel_keeps hK _ _ (AV.kill_only i _) (AV.kill_rel i _ _ (hH s))
  · have e : sliced (some ⟨g, 0, none⟩) 0 q.toNat cap sz = .slice (some ⟨g, 0, none⟩) q.toNat cap := by
      unfold sliced
      by_cases h : 0 < cap - 0
      · simp [Addr.add_lit, h]
      · omega
    rw [e]
    simp only [AV.rel]
    refine ⟨_, q.toNat, List.getElem?_set_self hil, by simp only [List.length_take, hsz]; omega, by rw [hsz]; exact r3, .inr ⟨g, cap, us, hφ, rfl, hh, by omega, c2, by rw [hsz]; rw [hsz] at c3; exact c3⟩⟩
end
/-! ### Contracts. -/
def startEnvA : Nat → List AV → Env
  | _, [] => []
  | t, r :: rs => (t, r) :: startEnvA (t + 1) rs
theorem startA_look : ∀ (rs : List AV) (t k : Nat), look (startEnvA t rs) k = if t ≤ k then (rs[k - t]?).getD .junk else .junk
  | [], t, k => by simp [startEnvA, look]
  | r :: rs, t, k => by
    rw [startEnvA, look_put, startA_look rs (t + 1) k]
    by_cases h : t = k
    · subst h; simp
    · rw [if_neg h]
      by_cases h2 : t + 1 ≤ k
      · have e : k - t = (k - (t + 1)) + 1 := by omega
        rw [if_pos h2, if_pos (by omega : t ≤ k), e, List.getElem?_cons_succ]
      · rw [if_neg h2]
        split
        · omega
        · rfl
/-- Handed the objects σ, of which it moves none of st, and these arguments, the function leaves them as σ' and returns v. -/
def AM (P : Program) (f : FuncId) (σ : List Ob) (st : List Nat) (args : List AV) (σ' : List Ob) (v : AV) : Prop :=
  ∀ (w : World) (φ : Nat → Option Nat) (ok : Nat → Prop) (us : Array Value), Good ⟨w, ok, mine φ σ.length, 0⟩ ⟨w, φ, σ, ok⟩ → AV.rels ⟨w, φ, σ, ok⟩ args us.toList →
    Calls P f us w fun e w' => ∃ u φ', e = .returned u ∧ Good ⟨w, ok, mine φ σ.length, 0⟩ ⟨w', φ', σ', ok⟩ ∧ AV.rel ⟨w', φ', σ', ok⟩ v u ∧ ∀ i ∈ st, φ' i = φ i
/-- A pointer at an object that stays where it is. -/
def pinA (gs : Nat → Nat) : AV → AV
  | .obj i off => .pin i off (gs i)
  | v => v
def EndsA (P : Program) (C : Ctx) (fn : Func) (gs : Nat → Nat) (st : List Nat) (σ' : List Ob) (v : AV) (a : Act) (w : World) : Prop :=
  a.defers = [] ∧ ∃ u, (results fn a.tmps).run P w = .ok u w ∧ ∃ φ', Good C ⟨w, φ', σ', C.ok⟩ ∧ AV.rel ⟨w, φ', σ', C.ok⟩ v u ∧ ∀ i ∈ st, φ' i = some (gs i)
theorem good_n {w : World} {ok mu : Nat → Prop} {n n' : Nat} {m : Mem} (h : Good ⟨w, ok, mu, n⟩ m) : Good ⟨w, ok, mu, n'⟩ m :=
  ⟨h.ok0, h.inj, h.ob, h.mine, ⟨h.frm.os, h.frm.tape, h.frm.output, h.frm.size, h.frm.block, h.frm.new⟩⟩
theorem am_enter {P : Program} {f : FuncId} {fn : Func} {c : Code} {σ σ' : List Ob} {st : List Nat} {args : List AV} {v : AV} (hf : P.funcs[f]? = some fn) (hb : fn.body = some c) (n : Nat) (hn : fn.ntmps = n) (hl : args.length ≤ n)
    (hst : ∀ i ∈ st, ∃ off, AV.obj i off ∈ args)
    (h : ∀ (C : Ctx) (gs : Nat → Nat), C.n = n → Runs P C [.code c] (EndsA P C fn gs st σ' v) ⟨startEnvA 0 (args.map (pinA gs)), σ⟩) : AM P f σ st args σ' v := by
  intro w φ ok us hG hu
  have hlen := AV.rels_len args _ hu
  refine calls_of_fin hf hb ?_
  let gs : Nat → Nat := fun i => (φ i).getD 0
  have hs : Sim ⟨w, ok, mine φ σ.length, n⟩ ⟨startEnvA 0 (args.map (pinA gs)), σ⟩ { tmps := us ++ Array.replicate (fn.ntmps - us.size) undef, defers := [] } w := by
    refine ⟨rfl, by simp at hlen ⊢; omega, φ, good_n hG, fun t => ?_⟩
    rw [startA_look]
    simp only [Nat.zero_le, if_true, Nat.sub_zero, List.getElem?_map]
    cases hr : args[t]? with
    | none => simp [AV.rel]
    | some r =>
      obtain ⟨u, e1, e2⟩ := AV.rels_at args _ hu t r hr
      have ht : t < us.size := by have := (List.getElem?_eq_some_iff.1 e1).1; simpa using this
      have : (us ++ Array.replicate (fn.ntmps - us.size) undef).getD t undef = u := by
        rw [Array.getD_eq_getD_getElem?, Array.getElem?_append_left ht]
        have : us[t]? = some u := by simpa using e1
        simp [this]
      simp only [Option.map_some, Option.getD_some]
      rw [this]
      cases r <;> simp only [pinA] <;> try exact e2
      case obj i off =>
        simp only [AV.rel] at e2 ⊢
        obtain ⟨k1, g, k2, k3⟩ := e2
        have : gs i = g := by simp only [gs, k2, Option.getD_some]
        rw [this]
        exact ⟨k1, k2, k3⟩
  have hr := (h ⟨w, ok, mine φ σ.length, n⟩ gs rfl).run _ w hs
  intro b cs
  obtain ⟨a', w', todo, ⟨hd, u, hv, φ', h1, h2, h3⟩, hstep⟩ := hr b cs
  refine ⟨a', w', todo, ⟨hd, u, hv, u, φ', rfl, good_n h1, h2, fun i hi => ?_⟩, hstep⟩
  obtain ⟨off, ho⟩ := hst i hi
  obtain ⟨j, hj⟩ := List.mem_iff_getElem?.1 ho
  obtain ⟨u', _, e2⟩ := AV.rels_at args _ hu j _ hj
  simp only [AV.rel] at e2
  obtain ⟨_, g, k2, _⟩ := e2
  rw [h3 i hi]
  simp only [gs, k2, Option.getD_some]
section
variable {P : Program} {C : Ctx} {fn : Func} {S : St} {gs : Nat → Nat} {st : List Nat} {σ' : List Ob} {v : AV}
theorem pins {φ : Nat → Option Nat} {w : World} {a : Act} (hH : Holds ⟨w, φ, S.σ, C.ok⟩ S.env a) (h : ∀ i ∈ st, ∃ t off, look S.env t = .pin i off (gs i)) : ∀ i ∈ st, φ i = some (gs i) := fun i hi => by
  obtain ⟨t, off, ht⟩ := h i hi
  have := hH t
  rw [ht] at this
  simp only [AV.rel] at this
  exact this.2.1
/-- It ends with nothing. -/
theorem endsA0 (hst : ∀ i ∈ st, ∃ t off, look S.env t = .pin i off (gs i)) (hr : fn.results = #[]) (hσ : S.σ = σ') : ∀ a w, Sim C S a w → EndsA P C fn gs st σ' (.tup []) a w := by
  rintro a w ⟨h1, h2, φ, hG, hH⟩
  subst hσ
  exact ⟨h1, .tuple #[], by rw [results_eq, hr]; simp, φ, hG, by simp [AV.rel, AV.rels], pins hH hst⟩
theorem endsA1 {x : ResultVar} (hst : ∀ i ∈ st, ∃ t off, look S.env t = .pin i off (gs i)) (hr : fn.results = #[x]) (hx : ResV P S x v) (hσ : S.σ = σ') : ∀ a w, Sim C S a w → EndsA P C fn gs st σ' v a w := by
  rintro a w ⟨h1, h2, φ, hG, hH⟩
  subst hσ
  obtain ⟨u, k1, k2⟩ := resV_run (P := P) hG hH x v hx
  exact ⟨h1, u, by rw [results_eq, hr]; simp [k1], φ, hG, k2, pins hH hst⟩
theorem endsA2 {x y : ResultVar} {vx vy : AV} (hst : ∀ i ∈ st, ∃ t off, look S.env t = .pin i off (gs i)) (hr : fn.results = #[x, y]) (hx : ResV P S x vx) (hy : ResV P S y vy) (hσ : S.σ = σ') : ∀ a w, Sim C S a w → EndsA P C fn gs st σ' (.tup [vx, vy]) a w := by
  rintro a w ⟨h1, h2, φ, hG, hH⟩
  subst hσ
  obtain ⟨u, k1, k2⟩ := resV_run (P := P) hG hH x vx hx
  obtain ⟨u', k1', k2'⟩ := resV_run (P := P) hG hH y vy hy
  exact ⟨h1, .tuple #[u, u'], by rw [results_eq, hr]; simp [k1, k1'], φ, hG, by simp only [AV.rel]; exact ⟨_, rfl, by simp only [AV.rels]; exact ⟨u, [u'], rfl, k2, u', [], rfl, k2', rfl⟩⟩, pins hH hst⟩
end
/-! ### The call. -/
mutual
/-- The objects get other numbers. -/
def AV.ren (r : Nat → Nat) : AV → AV
  | .ro v => .ro v
  | .junk => .junk
  | .obj i off => .obj (r i) off
  | .pin i off g => .pin (r i) off g
  | .own i => .own (r i)
  | .agg cs => .agg (AV.rens r cs)
  | .tup vs => .tup (AV.rens r vs)
  | .fn f a b => .fn f (AV.rens r a) (AV.rens r b)
def AV.rens (r : Nat → Nat) : List AV → List AV
  | [] => []
  | x :: xs => AV.ren r x :: AV.rens r xs
end
def Ob.ren (r : Nat → Nat) (o : Ob) : Ob := ⟨o.t, o.sz, AV.rens r o.cs⟩
theorem rens_len (r : Nat → Nat) : ∀ l : List AV, (AV.rens r l).length = l.length
  | [] => rfl
  | x :: xs => by simp [AV.rens, rens_len r xs]
theorem rens_at (r : Nat → Nat) : ∀ (l : List AV) (j : Nat), (AV.rens r l)[j]? = (l[j]?).map (AV.ren r)
  | [], j => by simp [AV.rens]
  | x :: xs, 0 => by simp [AV.rens]
  | x :: xs, j + 1 => by simp [AV.rens, rens_at r xs j]
mutual
/-- Forgets what speaks of lent objects, but for pointers at those that stay. -/
def AV.rid (lent st : Nat → Bool) : AV → AV
  | .ro v => .ro v
  | .junk => .junk
  | .obj i off => match lent i, st i with
    | true, false => .junk
    | _, _ => .obj i off
  | .pin i off g => match lent i, st i with
    | true, false => .junk
    | _, _ => .pin i off g
  | .own i => match lent i with
    | true => .junk
    | false => .own i
  | .agg cs => .agg (AV.rids lent st cs)
  | .tup vs => .tup (AV.rids lent st vs)
  | .fn f a b => .fn f (AV.rids lent st a) (AV.rids lent st b)
def AV.rids (lent st : Nat → Bool) : List AV → List AV
  | [] => []
  | x :: xs => AV.rid lent st x :: AV.rids lent st xs
end
def ridEnv (lent st : Nat → Bool) : Env → Env
  | [] => []
  | (t, v) :: e => (t, v.rid lent st) :: ridEnv lent st e
theorem look_ridEnv (lent st : Nat → Bool) : ∀ (e : Env) (t : Nat), look (ridEnv lent st e) t = (look e t).rid lent st
  | [], t => by simp [ridEnv, look, AV.rid]
  | (s, v) :: e, t => by
    rw [ridEnv, look_put, look_put]
    split
    · rfl
    · exact look_ridEnv lent st e t
section
variable {m m' : Mem} {r : Nat → Nat} {lent st : Nat → Bool}
mutual
/-- The same values in a memory whose objects have other numbers. -/
theorem rel_unren {n : Nat} (hw : m'.w = m.w) (hok : ∀ b, m.ok b → m'.ok b) (hφ : ∀ i, i < n → m'.φ i = m.φ (r i)) (hn : m'.σ.length = n) (hσ : ∀ (i : Nat) o, i < n → m.σ[r i]? = some o → ∃ cs, m'.σ[i]? = some ⟨o.t, o.sz, cs⟩ ∧ cs.length = o.cs.length) :
    ∀ (v : AV) (u : Value), v.only (fun i => i < n) → AV.rel m (v.ren r) u → AV.rel m' v u
  | .ro v, u, _, h => by
    simp only [AV.ren, AV.rel] at h ⊢
    exact RV.rel_mono ⟨by rw [hw]; exact Nat.le_refl _, fun b _ hb => ⟨hok b hb, by rw [hw]⟩⟩ v u h
  | .junk, u, _, _ => by simp [AV.rel]
  | .obj i off, u, ho, h => by
    simp only [AV.ren, AV.rel, AV.only] at h ho ⊢
    obtain ⟨_, g, h2, h3⟩ := h
    exact ⟨by omega, g, (hφ i ho).trans h2, h3⟩
  | .pin i off g, u, ho, h => by
    simp only [AV.ren, AV.rel, AV.only] at h ho ⊢
    obtain ⟨_, h2, h3⟩ := h
    exact ⟨by omega, (hφ i ho).trans h2, h3⟩
  | .own i, u, ho, h => by
    simp only [AV.ren, AV.rel, AV.only] at h ho ⊢
    obtain ⟨ob, k, h1, h2, h3, h4⟩ := h
    obtain ⟨cs, e1, e2⟩ := hσ i ob ho h1
    refine ⟨_, k, e1, by simp only; rw [e2]; exact h2, h3, ?_⟩
    rcases h4 with ⟨q1, q2, q3⟩ | ⟨g, cap, us, q1, q2, q3, q4⟩
    · exact .inl ⟨q1, q2, (hφ i ho).trans q3⟩
    · exact .inr ⟨g, cap, us, (hφ i ho).trans q1, q2, by rw [hw]; exact q3, q4⟩
  | .agg cs, u, ho, h => by
    simp only [AV.ren, AV.rel, AV.only] at h ho ⊢
    obtain ⟨us, e, h1⟩ := h
    exact ⟨us, e, rels_unren hw hok hφ hn hσ cs _ ho h1⟩
  | .tup cs, u, ho, h => by
    simp only [AV.ren, AV.rel, AV.only] at h ho ⊢
    obtain ⟨us, e, h1⟩ := h
    exact ⟨us, e, rels_unren hw hok hφ hn hσ cs _ ho h1⟩
  | .fn f a b, u, ho, h => by
    simp only [AV.ren, AV.rel, AV.only] at h ho ⊢
    obtain ⟨us, vs, e, h1, h2⟩ := h
    exact ⟨us, vs, e, rels_unren hw hok hφ hn hσ a _ ho.1 h1, rels_unren hw hok hφ hn hσ b _ ho.2 h2⟩
theorem rels_unren {n : Nat} (hw : m'.w = m.w) (hok : ∀ b, m.ok b → m'.ok b) (hφ : ∀ i, i < n → m'.φ i = m.φ (r i)) (hn : m'.σ.length = n) (hσ : ∀ (i : Nat) o, i < n → m.σ[r i]? = some o → ∃ cs, m'.σ[i]? = some ⟨o.t, o.sz, cs⟩ ∧ cs.length = o.cs.length) :
    ∀ (vs : List AV) (us : List Value), AV.onlys (fun i => i < n) vs → AV.rels m (AV.rens r vs) us → AV.rels m' vs us
  | [], us, _, h => by simpa [AV.rens, AV.rels] using h
  | x :: xs, us, ho, h => by
    simp only [AV.rens, AV.rels, AV.onlys] at h ho ⊢
    obtain ⟨u, us', e, h1, h2⟩ := h
    exact ⟨u, us', e, rel_unren hw hok hφ hn hσ x u ho.1 h1, rels_unren hw hok hφ hn hσ xs us' ho.2 h2⟩
end
mutual
theorem rel_ren {n : Nat} (hw : m'.w = m.w) (hok : ∀ b, m.ok b → m'.ok b) (hφ : ∀ i, i < n → m'.φ (r i) = m.φ i) (hr : ∀ i, i < n → r i < m'.σ.length) (hn : m.σ.length = n) (hσ : ∀ (i : Nat) o, m.σ[i]? = some o → ∃ cs, m'.σ[r i]? = some ⟨o.t, o.sz, cs⟩ ∧ cs.length = o.cs.length) :
    ∀ (v : AV) (u : Value), AV.rel m v u → AV.rel m' (v.ren r) u
  | .ro v, u, h => by
    simp only [AV.ren, AV.rel] at h ⊢
    exact RV.rel_mono ⟨by rw [hw]; exact Nat.le_refl _, fun b _ hb => ⟨hok b hb, by rw [hw]⟩⟩ v u h
  | .junk, u, _ => by simp [AV.rel, AV.ren]
  | .obj i off, u, h => by
    simp only [AV.ren, AV.rel] at h ⊢
    obtain ⟨h1, g, h2, h3⟩ := h
    exact ⟨hr i (by omega), g, (hφ i (by omega)).trans h2, h3⟩
  | .pin i off g, u, h => by
    simp only [AV.ren, AV.rel] at h ⊢
    obtain ⟨h1, h2, h3⟩ := h
    exact ⟨hr i (by omega), (hφ i (by omega)).trans h2, h3⟩
  | .own i, u, h => by
    simp only [AV.ren, AV.rel] at h ⊢
    obtain ⟨ob, k, h1, h2, h3, h4⟩ := h
    obtain ⟨cs, e1, e2⟩ := hσ i ob h1
    have hi : i < n := by have := (List.getElem?_eq_some_iff.1 h1).1; omega
    refine ⟨_, k, e1, by simp only; rw [e2]; exact h2, h3, ?_⟩
    rcases h4 with ⟨q1, q2, q3⟩ | ⟨g, cap, us, q1, q2, q3, q4⟩
    · exact .inl ⟨q1, q2, (hφ i hi).trans q3⟩
    · exact .inr ⟨g, cap, us, (hφ i hi).trans q1, q2, by rw [hw]; exact q3, q4⟩
  | .agg cs, u, h => by
    simp only [AV.ren, AV.rel] at h ⊢
    obtain ⟨us, e, h1⟩ := h
    exact ⟨us, e, rels_ren hw hok hφ hr hn hσ cs _ h1⟩
  | .tup cs, u, h => by
    simp only [AV.ren, AV.rel] at h ⊢
    obtain ⟨us, e, h1⟩ := h
    exact ⟨us, e, rels_ren hw hok hφ hr hn hσ cs _ h1⟩
  | .fn f a b, u, h => by
    simp only [AV.ren, AV.rel] at h ⊢
    obtain ⟨us, vs, e, h1, h2⟩ := h
    exact ⟨us, vs, e, rels_ren hw hok hφ hr hn hσ a _ h1, rels_ren hw hok hφ hr hn hσ b _ h2⟩
theorem rels_ren {n : Nat} (hw : m'.w = m.w) (hok : ∀ b, m.ok b → m'.ok b) (hφ : ∀ i, i < n → m'.φ (r i) = m.φ i) (hr : ∀ i, i < n → r i < m'.σ.length) (hn : m.σ.length = n) (hσ : ∀ (i : Nat) o, m.σ[i]? = some o → ∃ cs, m'.σ[r i]? = some ⟨o.t, o.sz, cs⟩ ∧ cs.length = o.cs.length) :
    ∀ (vs : List AV) (us : List Value), AV.rels m vs us → AV.rels m' (AV.rens r vs) us
  | [], us, h => by simpa [AV.rens, AV.rels] using h
  | x :: xs, us, h => by
    simp only [AV.rens, AV.rels] at h ⊢
    obtain ⟨u, us', e, h1, h2⟩ := h
    exact ⟨u, us', e, rel_ren hw hok hφ hr hn hσ x u h1, rels_ren hw hok hφ hr hn hσ xs us' h2⟩
end
mutual
theorem rel_rid (hro : RV.Kept m.w m.ok m'.w m'.ok) (hlen : m'.σ.length = m.σ.length) (hφ : ∀ i, i < m.σ.length → lent i = false ∨ st i = true → m'.φ i = m.φ i) (hσ : ∀ i, lent i = false → m'.σ[i]? = m.σ[i]?) (hb : ∀ i g, i < m.σ.length → lent i = false → m.φ i = some g → m'.w.heap[g]? = m.w.heap[g]?) :
    ∀ (v : AV) (u : Value), AV.rel m v u → AV.rel m' (v.rid lent st) u
  | .ro v, u, h => by
    simp only [AV.rid, AV.rel] at h ⊢
    exact RV.rel_mono hro v u h
  | .junk, u, _ => by simp [AV.rel, AV.rid]
  | .obj i off, u, h => by
    have key : lent i = false ∨ st i = true → AV.rel m' (.obj i off) u := fun hk => by
      simp only [AV.rel] at h ⊢
      obtain ⟨h1, g, h2, h3⟩ := h
      exact ⟨by omega, g, (hφ i h1 hk).trans h2, h3⟩
    unfold AV.rid
    cases h1 : lent i <;> cases h2 : st i <;> first | exact key (.inl h1) | exact key (.inr h2) | simp [AV.rel]
  | .pin i off g, u, h => by
    have key : lent i = false ∨ st i = true → AV.rel m' (.pin i off g) u := fun hk => by
      simp only [AV.rel] at h ⊢
      obtain ⟨h1, h2, h3⟩ := h
      exact ⟨by omega, (hφ i h1 hk).trans h2, h3⟩
    unfold AV.rid
    cases h1 : lent i <;> cases h2 : st i <;> first | exact key (.inl h1) | exact key (.inr h2) | simp [AV.rel]
  | .own i, u, h => by
    have key : lent i = false → AV.rel m' (.own i) u := fun hk => by
      simp only [AV.rel] at h ⊢
      obtain ⟨ob, k, h1, h2, h3, h4⟩ := h
      have hi := (List.getElem?_eq_some_iff.1 h1).1
      refine ⟨ob, k, (hσ i hk).trans h1, h2, h3, ?_⟩
      rcases h4 with ⟨q1, q2, q3⟩ | ⟨g, cap, us, q1, q2, q3, q4⟩
      · exact .inl ⟨q1, q2, (hφ i hi (.inl hk)).trans q3⟩
      · exact .inr ⟨g, cap, us, (hφ i hi (.inl hk)).trans q1, q2, (hb i g hi hk q1).trans q3, q4⟩
    unfold AV.rid
    cases h1 : lent i <;> first | exact key h1 | simp [AV.rel]
  | .agg cs, u, h => by
    simp only [AV.rid, AV.rel] at h ⊢
    obtain ⟨us, e, h1⟩ := h
    exact ⟨us, e, rels_rid hro hlen hφ hσ hb cs _ h1⟩
  | .tup cs, u, h => by
    simp only [AV.rid, AV.rel] at h ⊢
    obtain ⟨us, e, h1⟩ := h
    exact ⟨us, e, rels_rid hro hlen hφ hσ hb cs _ h1⟩
  | .fn f a b, u, h => by
    simp only [AV.rid, AV.rel] at h ⊢
    obtain ⟨us, vs, e, h1, h2⟩ := h
    exact ⟨us, vs, e, rels_rid hro hlen hφ hσ hb a _ h1, rels_rid hro hlen hφ hσ hb b _ h2⟩
theorem rels_rid (hro : RV.Kept m.w m.ok m'.w m'.ok) (hlen : m'.σ.length = m.σ.length) (hφ : ∀ i, i < m.σ.length → lent i = false ∨ st i = true → m'.φ i = m.φ i) (hσ : ∀ i, lent i = false → m'.σ[i]? = m.σ[i]?) (hb : ∀ i g, i < m.σ.length → lent i = false → m.φ i = some g → m'.w.heap[g]? = m.w.heap[g]?) :
    ∀ (vs : List AV) (us : List Value), AV.rels m vs us → AV.rels m' (AV.rids lent st vs) us
  | [], us, h => by simpa [AV.rids, AV.rels] using h
  | x :: xs, us, h => by
    simp only [AV.rids, AV.rels] at h ⊢
    obtain ⟨u, us', e, h1, h2⟩ := h
    exact ⟨u, us', e, rel_rid hro hlen hφ hσ hb x u h1, rels_rid hro hlen hφ hσ hb xs us' h2⟩
end
end
theorem rids_at (lent st : Nat → Bool) : ∀ (l : List AV) (j : Nat), (AV.rids lent st l)[j]? = (l[j]?).map (AV.rid lent st)
  | [], j => by simp [AV.rids]
  | x :: xs, 0 => by simp [AV.rids]
  | x :: xs, j + 1 => by simp [AV.rids, rids_at lent st xs j]
/-! Which objects are lent: the list says the number of each. -/
def rof (ι : List Nat) (i : Nat) : Nat := (ι[i]?).getD 0
def lentB (ι : List Nat) (i : Nat) : Bool := ι.any fun j => Nat.beq j i
def stB' (ι st : List Nat) (i : Nat) : Bool := st.any fun j => Nat.beq (rof ι j) i
/-- The objects, those that were lent as they are now. -/
def putObs (ι : List Nat) (σ : List Ob) : List Ob → Nat → List Ob
  | [], _ => σ
  | o :: os, j => putObs ι (σ.set (rof ι j) (o.ren (rof ι))) os (j + 1)
theorem putObs_len (ι : List Nat) : ∀ (os σ : List Ob) (j : Nat), (putObs ι σ os j).length = σ.length
  | [], σ, j => rfl
  | o :: os, σ, j => by rw [putObs, putObs_len ι os]; simp
theorem putObs_off (ι : List Nat) (i : Nat) : ∀ (os σ : List Ob) (j : Nat), (∀ k, k < os.length → rof ι (j + k) ≠ i) → (putObs ι σ os j)[i]? = σ[i]?
  | [], σ, j, _ => rfl
  | o :: os, σ, j, h => by
    rw [putObs, putObs_off ι i os _ (j + 1) fun k hk => by
      have := h (k + 1) (by simp; omega)
      rwa [show j + (k + 1) = j + 1 + k by omega] at this]
    exact List.getElem?_set_ne (h 0 (by simp))
theorem putObs_at (ι : List Nat) : ∀ (os σ : List Ob) (j : Nat), (∀ a b, a < os.length → b < os.length → rof ι (j + a) = rof ι (j + b) → a = b) → ∀ (k : Nat) o, os[k]? = some o → rof ι (j + k) < σ.length → (putObs ι σ os j)[rof ι (j + k)]? = some (o.ren (rof ι))
  | [], σ, j, _, k, o, h, _ => by simp at h
  | x :: os, σ, j, hinj, k, o, h, hlt => by
    rw [putObs]
    cases k with
    | zero =>
      simp at h; subst h
      rw [putObs_off ι _ os _ (j + 1) fun k hk e => by
        have := hinj (k + 1) 0 (by simp; omega) (by simp) (by rw [show j + (k + 1) = j + 1 + k by omega]; exact e)
        omega]
      rw [Nat.add_zero] at hlt ⊢
      exact List.getElem?_set_self hlt
    | succ k =>
      simp at h
      have := putObs_at ι os (σ.set (rof ι j) (x.ren (rof ι))) (j + 1) (fun a b ha hb e => by
        have := hinj (a + 1) (b + 1) (by simp; omega) (by simp; omega) (by rw [show j + (a + 1) = j + 1 + a by omega, show j + (b + 1) = j + 1 + b by omega]; exact e)
        omega) k o h (by rw [show j + 1 + k = j + (k + 1) by omega]; simpa using hlt)
      rwa [show j + 1 + k = j + (k + 1) by omega] at this
def LentAt (ι : List Nat) (σ : List Ob) : List Ob → Nat → Prop
  | [], _ => True
  | o :: os, j => σ[rof ι j]? = some (o.ren (rof ι)) ∧ LentAt ι σ os (j + 1)
theorem LentAt.at_ {ι : List Nat} {σ : List Ob} : ∀ {os : List Ob} {j : Nat}, LentAt ι σ os j → ∀ (k : Nat) o, os[k]? = some o → σ[rof ι (j + k)]? = some (o.ren (rof ι))
  | [], j, _, k, o, h => by simp at h
  | x :: os, j, hl, k, o, h => by
    simp only [LentAt] at hl
    cases k with
    | zero => simp at h; subst h; exact hl.1
    | succ k =>
      simp at h
      have := LentAt.at_ hl.2 k o h
      rwa [show j + 1 + k = j + (k + 1) by omega] at this
/-- Objects that are not lent speak of none that is lent. -/
def FreeR (ι st : List Nat) : Nat → List Ob → Prop
  | _, [] => True
  | i, o :: os => (lentB ι i = true ∨ AV.rids (lentB ι) (stB' ι st) o.cs = o.cs) ∧ FreeR ι st (i + 1) os
theorem FreeR.at_ {ι st : List Nat} : ∀ {os : List Ob} {i : Nat}, FreeR ι st i os → ∀ (k : Nat) o, os[k]? = some o → lentB ι (i + k) = true ∨ AV.rids (lentB ι) (stB' ι st) o.cs = o.cs
  | [], i, _, k, o, h => by simp at h
  | x :: os, i, hl, k, o, h => by
    simp only [FreeR] at hl
    cases k with
    | zero => simp at h; subst h; exact hl.1
    | succ k =>
      simp at h
      have := FreeR.at_ hl.2 k o h
      rwa [show i + 1 + k = i + (k + 1) by omega] at this
theorem rids_ros (lent st : Nat → Bool) : ∀ rs : List RV, AV.rids lent st (rs.map .ro) = rs.map .ro
  | [] => rfl
  | r :: rs => by simp only [List.map_cons, AV.rids, AV.rid, rids_ros lent st rs]
structure Lent (ι st : List Nat) (σ σ0 σ1 : List Ob) : Prop where
  len : Nat.beq σ0.length ι.length = true
  len1 : Nat.beq σ1.length ι.length = true
  lt : (ι.all fun i => Nat.ble (i + 1) σ.length) = true
  inj : ι.Nodup
  at_ : LentAt ι σ σ0 0
  closed : FreeO σ0.length σ0
  stl : (st.all fun j => Nat.ble (j + 1) ι.length) = true
  free : FreeR ι st 0 σ
def unpin : AV → AV
  | .pin i off _ => .obj i off
  | v => v
theorem unpin_rel {m : Mem} {v : AV} {u : Value} (h : AV.rel m v u) : AV.rel m (unpin v) u := by
  cases v <;> simp only [unpin] <;> try exact h
  case pin i off g =>
    simp only [AV.rel] at h ⊢
    exact ⟨h.1, g, h.2.1, h.2.2⟩
def putEnv (d : Option Nat) (v : AV) (env : Env) : Env := match d with
  | some t => (t, v) :: env
  | none => env
theorem lentB_iff {ι : List Nat} {i : Nat} : lentB ι i = true ↔ ∃ j, j < ι.length ∧ rof ι j = i := by
  unfold lentB
  rw [List.any_eq_true]
  constructor
  · rintro ⟨x, hx, hb⟩
    obtain ⟨j, hj, rfl⟩ := List.getElem_of_mem hx
    exact ⟨j, hj, by simpa [rof, hj] using Nat.eq_of_beq_eq_true hb⟩
  · rintro ⟨j, hj, rfl⟩
    refine ⟨ι[j], List.getElem_mem hj, ?_⟩
    simp [rof, hj]
theorem rof_inj {ι : List Nat} (h : ι.Nodup) {a b : Nat} (ha : a < ι.length) (hb : b < ι.length) (e : rof ι a = rof ι b) : a = b := by
  simp only [rof, List.getElem?_eq_getElem ha, List.getElem?_eq_getElem hb, Option.getD_some] at e
  exact (List.getElem_inj h).1 e
section
variable {P : Program} {C : Ctx} {ops : Array Oper} {rest : List Oper} {k : List Item} {R : Act → World → Prop} {env : Env} {σ : List Ob} {t : Nat} {ty : TypeId} {pos : String} {after : Array Edge}
theorem lent_step {ι st : List Nat} {σ0 σ1 : List Ob} {w w' : World} {φ φ1 : Nat → Option Nat} (hL : Lent ι st σ σ0 σ1) (hG : Good C ⟨w, φ, σ, C.ok⟩) {ok0 : Nat → Prop} (hok0 : ok0 = fun b => C.ok b ∧ ∀ i, i < σ.length → lentB ι i = false → φ i ≠ some b)
    (hG1 : Good ⟨w, ok0, mine (fun j => φ (rof ι j)) σ0.length, 0⟩ ⟨w', φ1, σ1, ok0⟩) (hst : ∀ i ∈ st, φ1 i = φ (rof ι i)) :
    ∃ φ', Good C ⟨w', φ', putObs ι σ σ1 0, C.ok⟩ ∧ (∀ v u, AV.rel ⟨w, φ, σ, C.ok⟩ v u → AV.rel ⟨w', φ', putObs ι σ σ1 0, C.ok⟩ (v.rid (lentB ι) (stB' ι st)) u) ∧ (∀ v u, AV.rel ⟨w', φ1, σ1, ok0⟩ v u → AV.rel ⟨w', φ', putObs ι σ σ1 0, C.ok⟩ (v.ren (rof ι)) u) := by
  subst hok0
  have hl0 : σ0.length = ι.length := Nat.eq_of_beq_eq_true hL.len
  have hl1 : σ1.length = ι.length := Nat.eq_of_beq_eq_true hL.len1
  have hlt : ∀ j, j < ι.length → rof ι j < σ.length := fun j hj => by
    have := List.all_eq_true.1 hL.lt ι[j] (List.getElem_mem hj)
    have := Nat.le_of_ble_eq_true this
    simp only [rof, List.getElem?_eq_getElem hj, Option.getD_some]
    omega
  have hinj : ∀ a b, a < ι.length → b < ι.length → rof ι a = rof ι b → a = b := fun a b ha hb e => rof_inj hL.inj ha hb e
  let φ' : Nat → Option Nat := open Classical in fun i => if h : ∃ j, j < ι.length ∧ rof ι j = i then φ1 h.choose else φ i
  have e1 : ∀ j, j < ι.length → φ' (rof ι j) = φ1 j := fun j hj => by
    have hex : ∃ j', j' < ι.length ∧ rof ι j' = rof ι j := ⟨j, hj, rfl⟩
    show (if h : ∃ j', j' < ι.length ∧ rof ι j' = rof ι j then φ1 h.choose else φ (rof ι j)) = _
    rw [dif_pos hex, hinj _ _ hex.choose_spec.1 hj hex.choose_spec.2]
  have e2 : ∀ i, lentB ι i = false → φ' i = φ i := fun i hi => by
    have hex : ¬ ∃ j', j' < ι.length ∧ rof ι j' = i := fun h => by rw [lentB_iff.2 h] at hi; cases hi
    show (if h : ∃ j', j' < ι.length ∧ rof ι j' = i then φ1 h.choose else φ i) = _
    rw [dif_neg hex]
  have hlen' : (putObs ι σ σ1 0).length = σ.length := putObs_len ι σ1 σ 0
  have hat : ∀ (j : Nat) o, σ1[j]? = some o → (putObs ι σ σ1 0)[rof ι j]? = some (o.ren (rof ι)) := fun j o hj => by
    have hjl := (List.getElem?_eq_some_iff.1 hj).1
    have := putObs_at ι σ1 σ 0 (fun a b ha hb e => hinj a b (by omega) (by omega) (by simpa using e)) j o hj (by rw [Nat.zero_add]; exact hlt j (by omega))
    rwa [Nat.zero_add] at this
  have hoff : ∀ i, lentB ι i = false → (putObs ι σ σ1 0)[i]? = σ[i]? := fun i hi => putObs_off ι i σ1 σ 0 fun k hk e => by
    rw [lentB_iff.2 ⟨0 + k, by omega, e⟩] at hi; cases hi
  have hblk : ∀ b, b < w.heap.size → (∀ j, j < ι.length → φ (rof ι j) ≠ some b) → w'.heap[b]? = w.heap[b]? := fun b hb h => hG1.frm.block b hb fun ⟨i, hi, e⟩ => h i (by omega) e
  have hm1 : ∀ j g, j < ι.length → φ1 j = some g → (∃ j', j' < ι.length ∧ φ (rof ι j') = some g) ∨ w.heap.size ≤ g := fun j g hj hg => by
    rcases hG1.mine j g (by simp only; omega) hg with ⟨i, hi, e⟩ | h
    · exact .inl ⟨i, by omega, e⟩
    · exact .inr h
  have hwl : w.heap.size ≤ w'.heap.size := hG1.frm.size
  have hGlt : ∀ i g, i < σ.length → φ i = some g → g < w.heap.size := fun i g hi hg => hG.lt hi hg
  -- a block that an object has now was one's before, or is new
  have hold : ∀ i g, i < σ.length → φ' i = some g → (∃ i', i' < σ.length ∧ φ i' = some g ∧ (lentB ι i = false → i' = i) ∧ (lentB ι i = true → lentB ι i' = true)) ∨ (w.heap.size ≤ g ∧ lentB ι i = true) := fun i g hi hg => by
    cases hb : lentB ι i with
    | false =>
      rw [e2 i hb] at hg
      exact .inl ⟨i, hi, hg, fun _ => rfl, fun h => by cases h⟩
    | true =>
      obtain ⟨j, hj, rfl⟩ := lentB_iff.1 hb
      rw [e1 j hj] at hg
      rcases hm1 j g hj hg with ⟨j', hj', h⟩ | h
      · exact .inl ⟨rof ι j', hlt j' hj', h, fun h => by simp at h, fun _ => lentB_iff.2 ⟨j', hj', rfl⟩⟩
      · exact .inr ⟨h, rfl⟩
  have hok2 : ∀ b, b < w.heap.size → AV.Mem.ok ⟨w, φ, σ, C.ok⟩ b → AV.Mem.ok ⟨w', φ', putObs ι σ σ1 0, C.ok⟩ b := fun b hb ho => ⟨ho.1, fun i hi e => by
    simp only at hi e
    rw [hlen'] at hi
    rcases hold i b hi e with ⟨i', h1, h2, _⟩ | ⟨h, _⟩
    · exact ho.2 i' h1 h2
    · omega⟩
  have hkept : RV.Kept w (AV.Mem.ok ⟨w, φ, σ, C.ok⟩) w' (AV.Mem.ok ⟨w', φ', putObs ι σ σ1 0, C.ok⟩) := ⟨hwl, fun b hb ho => ⟨hok2 b hb ho, hblk b hb fun j hj e => ho.2 (rof ι j) (hlt j hj) e⟩⟩
  have hnb : ∀ i g, i < σ.length → lentB ι i = false → φ i = some g → w'.heap[g]? = w.heap[g]? := fun i g hi hb hg => hblk g (hGlt i g hi hg) fun j hj e => by
    have := hG.inj i (rof ι j) g hi (hlt j hj) hg e
    rw [this, lentB_iff.2 ⟨j, hj, rfl⟩] at hb
    cases hb
  have hrid : ∀ v u, AV.rel ⟨w, φ, σ, C.ok⟩ v u → AV.rel ⟨w', φ', putObs ι σ σ1 0, C.ok⟩ (v.rid (lentB ι) (stB' ι st)) u := rel_rid (m := ⟨w, φ, σ, C.ok⟩) (m' := ⟨w', φ', putObs ι σ σ1 0, C.ok⟩) hkept hlen' (fun i hi h => by
    show φ' i = φ i
    rcases h with h | h
    · exact e2 i h
    · unfold stB' at h
      rw [List.any_eq_true] at h
      obtain ⟨j, hj, hb⟩ := h
      have hjl := Nat.le_of_ble_eq_true (List.all_eq_true.1 hL.stl j hj)
      have := Nat.eq_of_beq_eq_true hb
      subst this
      rw [e1 j (by omega), hst j hj]) hoff hnb
  have hren : ∀ v u, AV.rel ⟨w', φ1, σ1, fun b => C.ok b ∧ ∀ i, i < σ.length → lentB ι i = false → φ i ≠ some b⟩ v u → AV.rel ⟨w', φ', putObs ι σ σ1 0, C.ok⟩ (v.ren (rof ι)) u := rel_ren (n := ι.length) rfl (fun b ho => ⟨ho.1.1, fun i hi e => by
    simp only at hi e
    rw [hlen'] at hi
    cases hb : lentB ι i with
    | false => rw [e2 i hb] at e; exact ho.1.2 i hi hb e
    | true =>
      obtain ⟨j, hj, rfl⟩ := lentB_iff.1 hb
      rw [e1 j hj] at e
      exact ho.2 j (by simp only; omega) e⟩) (fun i hi => e1 i hi) (fun i hi => by simp only [hlen']; exact hlt i hi) hl1 (fun i o hi => ⟨AV.rens (rof ι) o.cs, hat i o hi, rens_len _ _⟩)
  refine ⟨φ', ⟨rfl, fun i j g hi hj h1 h2 => ?_, fun i o hi => ?_, fun i g hi hg => ?_, ⟨hG1.frm.os.trans hG.frm.os, hG1.frm.tape.trans hG.frm.tape, hG1.frm.output.trans hG.frm.output, Nat.le_trans hG.frm.size hwl, fun b hb hm => ?_, hG.frm.new⟩⟩, hrid, hren⟩
  · simp only [hlen'] at hi hj h1 h2
    cases hbi : lentB ι i with
    | true =>
      obtain ⟨a, ha, rfl⟩ := lentB_iff.1 hbi
      cases hbj : lentB ι j with
      | true =>
        obtain ⟨b, hb, rfl⟩ := lentB_iff.1 hbj
        rw [e1 a ha] at h1
        rw [e1 b hb] at h2
        rw [hG1.inj a b g (by simp only; omega) (by simp only; omega) h1 h2]
      | false =>
        rw [e2 j hbj] at h2
        rcases hold _ g hi h1 with ⟨i', k1, k2, _, k4⟩ | ⟨h, _⟩
        · have := hG.inj i' j g k1 hj k2 h2
          rw [this] at k4
          rw [k4 hbi] at hbj; cases hbj
        · have := hGlt j g hj h2; omega
    | false =>
      rw [e2 i hbi] at h1
      rcases hold _ g hj h2 with ⟨j', k1, k2, k3, k4⟩ | ⟨h, _⟩
      · have e := hG.inj i j' g hi k1 h1 k2
        cases hbj : lentB ι j with
        | true => rw [← e] at k4; rw [k4 hbj] at hbi; cases hbi
        | false => rw [e, k3 hbj]
      · have := hGlt i g hi h1; omega
  · show ObRel _ _ (φ' i)
    have hil : i < σ.length := by have := (List.getElem?_eq_some_iff.1 hi).1; simp only [hlen'] at this; exact this
    cases hb : lentB ι i with
    | true =>
      obtain ⟨j, hj, rfl⟩ := lentB_iff.1 hb
      have hj1 : j < σ1.length := by omega
      have hx := hat j _ (List.getElem?_eq_getElem hj1)
      simp only at hi
      rw [hx] at hi; injection hi with hi; subst hi
      have h := hG1.ob j _ (List.getElem?_eq_getElem hj1)
      rw [e1 j hj]
      simp only at h
      cases hφ : φ1 j with
      | none =>
        rw [hφ] at h
        simp only [ObRel, Ob.ren] at h ⊢
        rw [h]; rfl
      | some g =>
        rw [hφ] at h
        obtain ⟨us, q1, q2, q3⟩ := h
        refine ⟨us, q1, by simp only [Ob.ren, rens_len]; exact q2, fun m v hm => ?_⟩
        simp only [Ob.ren, rens_at] at hm
        obtain ⟨v0, hv0, rfl⟩ := Option.map_eq_some_iff.1 hm
        obtain ⟨u, k1, k2, k3⟩ := q3 m v0 hv0
        exact ⟨u, k1, k2, hren v0 u k3⟩
    | false =>
      simp only [hoff i hb] at hi
      have h := hG.ob i o hi
      rw [e2 i hb]
      simp only at h
      cases hφ : φ i with
      | none => rw [hφ] at h; exact h
      | some g =>
        rw [hφ] at h
        obtain ⟨us, q1, q2, q3⟩ := h
        refine ⟨us, (hnb i g hil hb hφ).trans q1, q2, fun m v hm => ?_⟩
        obtain ⟨u, k1, k2, k3⟩ := q3 m v hm
        refine ⟨u, k1, k2, ?_⟩
        have hf := hL.free.at_ i o hi
        rw [Nat.zero_add, hb] at hf
        rcases hf with hf | hf
        · cases hf
        · have := rids_at (lentB ι) (stB' ι st) o.cs m
          rw [hf, hm] at this
          injection this with this
          rw [this]
          exact hrid v u k3
  · simp only [hlen'] at hi hg
    rcases hold i g hi hg with ⟨i', k1, k2, _⟩ | ⟨h, _⟩
    · exact hG.mine i' g k1 k2
    · exact .inr (Nat.le_trans hG.frm.size h)
  · refine (hblk b (Nat.lt_of_lt_of_le hb hG.frm.size) fun j hj e => ?_).trans (hG.frm.block b hb hm)
    rcases hG.mine (rof ι j) b (hlt j hj) e with h | h
    · exact hm h
    · omega
theorem lent_good {ι st : List Nat} {σ0 σ1 : List Ob} {w : World} {φ : Nat → Option Nat} (hL : Lent ι st σ σ0 σ1) (hG : Good C ⟨w, φ, σ, C.ok⟩) {ok0 : Nat → Prop} (hok0 : ok0 = fun b => C.ok b ∧ ∀ i, i < σ.length → lentB ι i = false → φ i ≠ some b) :
    Good ⟨w, ok0, mine (fun j => φ (rof ι j)) σ0.length, 0⟩ ⟨w, fun j => φ (rof ι j), σ0, ok0⟩ ∧ ∀ v u, v.only (fun i => i < σ0.length) → AV.rel ⟨w, φ, σ, C.ok⟩ (v.ren (rof ι)) u → AV.rel ⟨w, fun j => φ (rof ι j), σ0, ok0⟩ v u := by
  subst hok0
  have hl0 : σ0.length = ι.length := Nat.eq_of_beq_eq_true hL.len
  have hlt : ∀ j, j < ι.length → rof ι j < σ.length := fun j hj => by
    have := List.all_eq_true.1 hL.lt ι[j] (List.getElem_mem hj)
    have := Nat.le_of_ble_eq_true this
    simp only [rof, List.getElem?_eq_getElem hj, Option.getD_some]
    omega
  have hat : ∀ (j : Nat) o, σ0[j]? = some o → σ[rof ι j]? = some (o.ren (rof ι)) := fun j o hj => by
    have := hL.at_.at_ j o hj
    rwa [Nat.zero_add] at this
  have hun : ∀ v u, v.only (fun i => i < σ0.length) → AV.rel ⟨w, φ, σ, C.ok⟩ (v.ren (rof ι)) u → AV.rel ⟨w, fun j => φ (rof ι j), σ0, fun b => C.ok b ∧ ∀ i, i < σ.length → lentB ι i = false → φ i ≠ some b⟩ v u :=
    rel_unren (m := ⟨w, φ, σ, C.ok⟩) rfl (fun b ho => ⟨⟨ho.1, fun i hi _ => ho.2 i hi⟩, fun j hj => ho.2 (rof ι j) (hlt j (by simp only at hj; omega))⟩) (fun i _ => rfl) rfl (fun i o hi ho => by
      simp only at ho
      have := hat i _ (List.getElem?_eq_getElem hi)
      rw [this] at ho; injection ho with ho; subst ho
      exact ⟨σ0[i].cs, List.getElem?_eq_getElem hi, by simp only [Ob.ren, rens_len]⟩)
  refine ⟨⟨rfl, fun i j g hi hj h1 h2 => ?_, fun j o hj => ?_, fun i g hi hg => .inl ⟨i, hi, hg⟩, ⟨rfl, rfl, rfl, Nat.le_refl _, fun _ _ _ => rfl, fun b hb => ⟨hG.frm.new b (Nat.le_trans hG.frm.size hb), fun i hi _ e => by have := hG.lt (m := ⟨w, φ, σ, C.ok⟩) hi e; simp only at this hb; omega⟩⟩⟩, hun⟩
  · simp only at hi hj
    exact rof_inj hL.inj (by omega) (by omega) (hG.inj _ _ g (hlt i (by omega)) (hlt j (by omega)) h1 h2)
  · simp only at hj
    have h := hG.ob _ _ (hat j o hj)
    show ObRel _ _ (φ (rof ι j))
    simp only at h
    cases hφ : φ (rof ι j) with
    | none =>
      rw [hφ] at h
      simp only [ObRel, Ob.ren] at h ⊢
      have := rens_len (rof ι) o.cs
      rw [h] at this
      exact List.eq_nil_of_length_eq_zero (by simpa using this.symm)
    | some g =>
      rw [hφ] at h
      obtain ⟨us, q1, q2, q3⟩ := h
      simp only [Ob.ren, rens_len] at q2
      refine ⟨us, q1, q2, fun m v hm => ?_⟩
      obtain ⟨u, k1, k2, k3⟩ := q3 m (v.ren (rof ι)) (by simp only [Ob.ren, rens_at, hm]; rfl)
      exact ⟨u, k1, k2, hun v u (onlys_mem (hL.closed.at_ j o hj) m v hm) k3⟩
theorem rels_unpin {m : Mem} : ∀ (vs : List AV) (us : List Value), AV.rels m vs us → AV.rels m (vs.map unpin) us
  | [], us, h => by simpa [AV.rels] using h
  | x :: xs, us, h => by
    simp only [List.map_cons, AV.rels] at h ⊢
    obtain ⟨u, us', e, h1, h2⟩ := h
    exact ⟨u, us', e, unpin_rel h1, rels_unpin xs us' h2⟩
/-- A call that is handed objects of the frame's own. -/
theorem op_callM {f : FuncId} {fn : Func} {xs : Array Operand} {ats : Array TypeId} {σ0 σ1 : List Ob} {st : List Nat} {args : List AV} {v : AV} {d : Option Nat} [hfn : FN P f fn] (ι : List Nat) (hf : AM P f σ0 st args σ1 v)
    (ha : (xs.toList.map (ev env)).map unpin = AV.rens (rof ι) args) (hcl : AV.onlys (fun i => i < σ0.length) args) (hL : Lent ι st σ σ0 σ1) (ht : ∀ t, d = some t → t < C.n)
    (hk : RunsL P C ops rest k R ⟨putEnv d (v.ren (rof ι)) (ridEnv (lentB ι) (stB' ι st) env), putObs ι σ σ1 0⟩) :
    RunsL P C ops (⟨d, .call { callee := .value (.func f), args := xs, argTypes := ats }, ty, pos, after, none⟩ :: rest) k R ⟨env, σ⟩ := by
  refine ⟨fun a w ⟨s1, s2, φ, hG, hH⟩ => ?_⟩
  refine wpList_plain rfl fun K hK' => ?_
  have hr := rels_unpin _ _ (rels_eval (a := a) (m := ⟨w, φ, σ, C.ok⟩) xs.toList fun x hx => ev_rel hH x)
  rw [ha] at hr
  obtain ⟨hG0, hun⟩ := lent_good hL hG rfl
  have key : ∀ (vs : List AV) (us : List Value), AV.onlys (fun i => i < σ0.length) vs → AV.rels ⟨w, φ, σ, C.ok⟩ (AV.rens (rof ι) vs) us → AV.rels ⟨w, fun j => φ (rof ι j), σ0, fun b => C.ok b ∧ ∀ i, i < σ.length → lentB ι i = false → φ i ≠ some b⟩ vs us := by
    intro vs
    induction vs with
    | nil => intro us _ h; simpa [AV.rens, AV.rels] using h
    | cons x xs ih =>
      intro us ho h
      simp only [AV.rens, AV.rels, AV.onlys] at h ho ⊢
      obtain ⟨u, us', e, h1, h2⟩ := h
      exact ⟨u, us', e, hun x u ho.1 h1, ih us' ho.2 h2⟩
  unfold Oper.wp
  rw [execOp_call_go, run_call hfn]
  simp only [Oper.upon]
  refine (hf w _ _ _ hG0 (by simpa using key args _ hcl hr)).mono ?_
  rintro e w' ⟨u, φ1, rfl, hG1, hv, hst⟩
  obtain ⟨φ', g1, g2, g3⟩ := lent_step hL hG rfl hG1 hst
  cases d with
  | none => exact hK' _ _ (hk.run _ _ ⟨s1, s2, φ', g1, fun s => by rw [show look (⟨putEnv none _ _, _⟩ : St).env s = _ from look_ridEnv _ _ _ _]; exact g2 _ _ (hH s)⟩)
  | some t => exact hK' _ _ (hk.run _ _ ⟨s1, by simp [Act.put, s2], φ', g1, Holds.put (fun s => by rw [look_ridEnv]; exact g2 _ _ (hH s)) (by rw [s2]; exact ht t rfl) (g3 _ _ hv)⟩)
end
end Go.Proofs.Ytignpklaefibaaa
/- Functions that are handed the first objects of their caller's. Over any program. -/
namespace Go.Proofs.Ytignpklaefibaaa
set_option linter.unusedSimpArgs false
set_option linter.unusedVariables false
open Go.RowKit
open AV (Mem Keeps)
def ltB (n i : Nat) : Bool := Nat.ble (i + 1) n
def memB (st : List Nat) (i : Nat) : Bool := st.any fun j => Nat.beq j i
def FreeP (n : Nat) (st : List Nat) : List Ob → Prop
  | [] => True
  | o :: os => AV.rids (ltB n) (memB st) o.cs = o.cs ∧ FreeP n st os
theorem rof_range {n i : Nat} (h : i < n) : rof (List.range n) i = i := by simp [rof, h]
theorem lentB_range (n : Nat) : lentB (List.range n) = ltB n := by
  funext i
  rw [Bool.eq_iff_iff, lentB_iff]
  unfold ltB
  rw [List.length_range]
  constructor
  · rintro ⟨j, hj, e⟩
    rw [rof_range hj] at e
    subst e
    exact Nat.ble_eq_true_of_le hj
  · intro h
    have := Nat.le_of_ble_eq_true h
    exact ⟨i, this, rof_range this⟩
theorem stB_range {n : Nat} {st : List Nat} (h : (st.all fun j => Nat.ble (j + 1) n) = true) : stB' (List.range n) st = memB st := by
  funext i
  unfold stB' memB
  rw [Bool.eq_iff_iff, List.any_eq_true, List.any_eq_true]
  constructor
  · rintro ⟨j, hj, e⟩
    have := Nat.le_of_ble_eq_true (List.all_eq_true.1 h j hj)
    rw [rof_range this] at e
    exact ⟨j, hj, e⟩
  · rintro ⟨j, hj, e⟩
    have := Nat.le_of_ble_eq_true (List.all_eq_true.1 h j hj)
    exact ⟨j, hj, by rw [rof_range this]; exact e⟩
mutual
theorem ren_id {r : Nat → Nat} {n : Nat} (hr : ∀ i, i < n → r i = i) : ∀ v : AV, v.only (fun i => i < n) → v.ren r = v
  | .ro _, _ | .junk, _ => rfl
  | .obj i off, h => by simp only [AV.only] at h; simp only [AV.ren, hr i h]
  | .pin i off g, h => by simp only [AV.only] at h; simp only [AV.ren, hr i h]
  | .own i, h => by simp only [AV.only] at h; simp only [AV.ren, hr i h]
  | .agg cs, h => by simp only [AV.only] at h; simp only [AV.ren, rens_id hr cs h]
  | .tup cs, h => by simp only [AV.only] at h; simp only [AV.ren, rens_id hr cs h]
  | .fn f a b, h => by simp only [AV.only] at h; simp only [AV.ren, rens_id hr a h.1, rens_id hr b h.2]
theorem rens_id {r : Nat → Nat} {n : Nat} (hr : ∀ i, i < n → r i = i) : ∀ vs : List AV, AV.onlys (fun i => i < n) vs → AV.rens r vs = vs
  | [], _ => rfl
  | x :: xs, h => by simp only [AV.onlys] at h; simp only [AV.rens, ren_id hr x h.1, rens_id hr xs h.2]
end
theorem obren_id {r : Nat → Nat} {n : Nat} (hr : ∀ i, i < n → r i = i) {o : Ob} (h : AV.onlys (fun i => i < n) o.cs) : o.ren r = o := by
  simp only [Ob.ren, rens_id hr o.cs h]
theorem lentAt_of {ι : List Nat} {σ : List Ob} : ∀ (os : List Ob) (j : Nat), (∀ (k : Nat) o, os[k]? = some o → σ[rof ι (j + k)]? = some (o.ren (rof ι))) → LentAt ι σ os j
  | [], j, _ => trivial
  | o :: os, j, h => ⟨by simpa using h 0 o rfl, lentAt_of os (j + 1) fun k o' hk => by
      have := h (k + 1) o' (by simpa using hk)
      rwa [show j + (k + 1) = j + 1 + k by omega] at this⟩
theorem freeR_of {ι st : List Nat} : ∀ (os : List Ob) (i : Nat), (∀ (k : Nat) o, os[k]? = some o → lentB ι (i + k) = true ∨ AV.rids (lentB ι) (stB' ι st) o.cs = o.cs) → FreeR ι st i os
  | [], i, _ => trivial
  | o :: os, i, h => ⟨by simpa using h 0 o rfl, freeR_of os (i + 1) fun k o' hk => by
      have := h (k + 1) o' (by simpa using hk)
      rwa [show i + (k + 1) = i + 1 + k by omega] at this⟩
theorem FreeP.at_ {n : Nat} {st : List Nat} : ∀ {os : List Ob}, FreeP n st os → ∀ (k : Nat) o, os[k]? = some o → AV.rids (ltB n) (memB st) o.cs = o.cs
  | [], _, k, o, h => by simp at h
  | x :: os, hl, k, o, h => by
    simp only [FreeP] at hl
    cases k with
    | zero => simp at h; subst h; exact hl.1
    | succ k => simp at h; exact FreeP.at_ hl.2 k o h
section
variable {P : Program} {C : Ctx} {ops : Array Oper} {rest : List Oper} {k : List Item} {R : Act → World → Prop} {env : Env} {σ : List Ob} {t : Nat} {ty : TypeId} {pos : String} {after : Array Edge}
theorem lent_range {n : Nat} {σ0 σ1 more : List Ob} {st : List Nat} (hn0 : Nat.beq σ0.length n = true) (hn1 : Nat.beq σ1.length n = true) (h0 : FreeO n σ0) (h1 : FreeO n σ1) (hst : (st.all fun j => Nat.ble (j + 1) n) = true) (hfree : FreeP n st more) :
    Lent (List.range n) st (σ0 ++ more) σ0 σ1 ∧ putObs (List.range n) (σ0 ++ more) σ1 0 = σ1 ++ more := by
  have e0 : σ0.length = n := Nat.eq_of_beq_eq_true hn0
  have e1 : σ1.length = n := Nat.eq_of_beq_eq_true hn1
  have hr : ∀ i, i < n → rof (List.range n) i = i := fun i hi => rof_range hi
  refine ⟨⟨by rw [List.length_range]; exact hn0, by rw [List.length_range]; exact hn1, ?_, List.nodup_range, lentAt_of _ _ fun j o hj => ?_, by rw [e0]; exact h0, by rw [List.length_range]; exact hst, freeR_of _ _ fun j o hj => ?_⟩, ?_⟩
  · rw [List.all_eq_true]
    intro i hi
    rw [List.mem_range] at hi
    exact Nat.ble_eq_true_of_le (by rw [List.length_append]; omega)
  · have hjl := (List.getElem?_eq_some_iff.1 hj).1
    rw [Nat.zero_add, hr j (by omega), List.getElem?_append_left hjl, hj, obren_id hr (h0.at_ j o hj)]
  · rw [Nat.zero_add, lentB_range, stB_range hst]
    rcases Nat.lt_or_ge j n with h | h
    · exact .inl (Nat.ble_eq_true_of_le h)
    · rw [List.getElem?_append_right (by omega)] at hj
      exact .inr (hfree.at_ _ o hj)
  · refine List.ext_getElem? fun i => ?_
    rcases Nat.lt_or_ge i n with h | h
    · have hx : σ1[i]? = some _ := List.getElem?_eq_getElem (show i < σ1.length by omega)
      have := putObs_at (List.range n) σ1 (σ0 ++ more) 0 (fun a b ha hb e => by
        rw [Nat.zero_add, Nat.zero_add, hr a (by omega), hr b (by omega)] at e; exact e) i _ hx (by rw [Nat.zero_add, hr i h, List.length_append]; omega)
      rw [Nat.zero_add, hr i h, obren_id hr (h1.at_ i _ hx)] at this
      rw [this, List.getElem?_append_left (by omega), hx]
    · rw [putObs_off (List.range n) i σ1 (σ0 ++ more) 0 fun k hk e => by rw [Nat.zero_add, hr k (by omega)] at e; omega]
      rw [List.getElem?_append_right (by omega), List.getElem?_append_right (by omega), e0, e1]
/-- A call that is handed the first n objects of the frame. -/
theorem op_callP {f : FuncId} {fn : Func} {xs : Array Operand} {ats : Array TypeId} {σ0 σ1 more : List Ob} {st : List Nat} {args : List AV} {v : AV} {d : Option Nat} [hfn : FN P f fn] (n : Nat) (hf : AM P f σ0 st args σ1 v)
    (ha : (xs.toList.map (ev env)).map unpin = args) (hcl : AV.onlys (fun i => i < n) args) (hv : v.only fun i => i < n) (hσ : σ = σ0 ++ more) (hn0 : Nat.beq σ0.length n = true) (hn1 : Nat.beq σ1.length n = true) (h0 : FreeO n σ0) (h1 : FreeO n σ1) (hst : (st.all fun j => Nat.ble (j + 1) n) = true) (hfree : FreeP n st more) (ht : ∀ t, d = some t → t < C.n)
    (hk : RunsL P C ops rest k R ⟨putEnv d v (ridEnv (ltB n) (memB st) env), σ1 ++ more⟩) :
    RunsL P C ops (⟨d, .call { callee := .value (.func f), args := xs, argTypes := ats }, ty, pos, after, none⟩ :: rest) k R ⟨env, σ⟩ := by
  subst hσ
  obtain ⟨hL, hp⟩ := lent_range hn0 hn1 h0 h1 hst hfree
  have hr : ∀ i, i < n → rof (List.range n) i = i := fun i hi => rof_range hi
  have e0 : σ0.length = n := Nat.eq_of_beq_eq_true hn0
  refine op_callM (List.range n) hf (by rw [ha, rens_id hr args hcl]) (by rw [e0]; exact hcl) hL ht ?_
  rw [hp, lentB_range, stB_range hst, ren_id hr v hv]
  exact hk
/-- A function value is called, and handed objects of the frame's own. -/
theorem op_callMF {f : FuncId} {fn : Func} {x : Operand} {xs : Array Operand} {ats : Array TypeId} {σ0 σ1 : List Ob} {st : List Nat} {args : List AV} {v : AV} {d : Option Nat} [hfn : FN P f fn] (ι : List Nat) (hx : ev env x = .fn (.func f) [] []) (hf : AM P f σ0 st args σ1 v)
    (ha : (xs.toList.map (ev env)).map unpin = AV.rens (rof ι) args) (hcl : AV.onlys (fun i => i < σ0.length) args) (hL : Lent ι st σ σ0 σ1) (ht : ∀ t, d = some t → t < C.n)
    (hk : RunsL P C ops rest k R ⟨putEnv d (v.ren (rof ι)) (ridEnv (lentB ι) (stB' ι st) env), putObs ι σ σ1 0⟩) :
    RunsL P C ops (⟨d, .call { callee := .value x, args := xs, argTypes := ats }, ty, pos, after, none⟩ :: rest) k R ⟨env, σ⟩ := by
  refine ⟨fun a w ⟨s1, s2, φ, hG, hH⟩ => ?_⟩
  refine wpList_plain rfl fun K hK' => ?_
  have h0 := ev_rel hH x
  rw [hx] at h0
  simp only [AV.rel, AV.rels] at h0
  obtain ⟨us, vs, e, hu, hv0⟩ := h0
  have hu' : us = #[] := by cases us; simp_all
  have hv' : vs = #[] := by cases vs; simp_all
  subst hu'; subst hv'
  have hr := rels_unpin _ _ (rels_eval (a := a) (m := ⟨w, φ, σ, C.ok⟩) xs.toList fun x hx => ev_rel hH x)
  rw [ha] at hr
  obtain ⟨hG0, hun⟩ := lent_good hL hG rfl
  have key : ∀ (vs : List AV) (us : List Value), AV.onlys (fun i => i < σ0.length) vs → AV.rels ⟨w, φ, σ, C.ok⟩ (AV.rens (rof ι) vs) us → AV.rels ⟨w, fun j => φ (rof ι j), σ0, fun b => C.ok b ∧ ∀ i, i < σ.length → lentB ι i = false → φ i ≠ some b⟩ vs us := by
    intro vs
    induction vs with
    | nil => intro us _ h; simpa [AV.rens, AV.rels] using h
    | cons x xs ih =>
      intro us ho h
      simp only [AV.rens, AV.rels, AV.onlys] at h ho ⊢
      obtain ⟨u, us', e, h1, h2⟩ := h
      exact ⟨u, us', e, hun x u ho.1 h1, ih us' ho.2 h2⟩
  unfold Oper.wp execOp
  simp only [resolve, e, Deferred.ofValue, Sem.run_bind, Sem.run_pure, Result.andThen_ok, invoke]
  rw [run_call hfn]
  simp only [Oper.upon]
  refine (hf w _ _ _ hG0 (by simpa using key args _ hcl hr)).mono ?_
  rintro e w' ⟨u, φ1, rfl, hG1, hv, hst⟩
  obtain ⟨φ', g1, g2, g3⟩ := lent_step hL hG rfl hG1 hst
  cases d with
  | none => exact hK' _ _ (hk.run _ _ ⟨s1, s2, φ', g1, fun s => by rw [show look (⟨putEnv none _ _, _⟩ : St).env s = _ from look_ridEnv _ _ _ _]; exact g2 _ _ (hH s)⟩)
  | some t => exact hK' _ _ (hk.run _ _ ⟨s1, by simp [Act.put, s2], φ', g1, Holds.put (fun s => by rw [look_ridEnv]; exact g2 _ _ (hH s)) (by rw [s2]; exact ht t rfl) (g3 _ _ hv)⟩)
theorem pu_nilCheckP {gd : Option (Nat × Bool)} {x : Operand} {i off g : Nat} (hx : ev env x = .pin i off g) : Pur P C ⟨some t, .nilCheck x, ty, pos, after, gd⟩ env σ (.pin i off g) :=
  Pur.of (fun a m hG hσ hH => by
    have h := hH x (by simp [Op.operands, Call.operands])
    rw [hx] at h
    have h' := h
    simp only [AV.rel] at h
    obtain ⟨_, _, e⟩ := h
    exact ⟨a.eval x, by simp [execOp, e], h'⟩)
theorem pu_nilCheckO {gd : Option (Nat × Bool)} {x : Operand} {i off : Nat} (hx : ev env x = .obj i off) : Pur P C ⟨some t, .nilCheck x, ty, pos, after, gd⟩ env σ (.obj i off) :=
  Pur.of (fun a m hG hσ hH => by
    have h := hH x (by simp [Op.operands, Call.operands])
    rw [hx] at h
    have h' := h
    simp only [AV.rel] at h
    obtain ⟨_, g, _, e⟩ := h
    exact ⟨a.eval x, by simp [execOp, e], h'⟩)
/-- append to a row whose cells are listed. -/
theorem op_appendB {tt e : TypeId} {z : Value} {sz bytes i : Nat} {o : Ob} {rs : List RV} {els : List (List RV)} {x y : Operand} [hs : SL P tt e z sz bytes] (hx : ev env x = .own i) (ho : σ[i]? = some o) (hc : allRo o.cs = some rs) (hy : ev env y = .ro (.seq sz els)) (het : o.t = e) (hes : o.sz = sz)
    (hn : rs.length = (rs.length / sz) * sz) (hfree : FreeI i (σ.set i ⟨o.t, o.sz, []⟩)) (b1 : rs.length / sz + els.length ≤ 4294967296) (b2 : Nat.ble bytes 256 = true) (ht : t < C.n)
    (hk : RunsL P C ops rest k R ⟨(t, .own i) :: killEnv i env, σ.set i ⟨e, sz, (rs ++ els.flatten).map .ro⟩⟩) :
    RunsL P C ops (⟨some t, .call { callee := .builtin .append, args := #[x, y], argTypes := #[tt, tt] }, ty, pos, after, none⟩ :: rest) k R ⟨env, σ⟩ :=
  op_append (n := rs.length / sz) hx ho (allRo_eq hc) hy het hes hn (fun j ob hj => by
    by_cases hji : j = i
    · subst hji
      rw [ho] at hj; injection hj with hj; subst hj
      rw [allRo_eq hc]; exact onlys_ro _ _
    · exact hfree.at_ j ob (by rw [List.getElem?_set_ne (Ne.symm hji)]; exact hj)) (by omega) (by
    have h := Nat.le_of_ble_eq_true b2
    have := Nat.mul_le_mul b1 h
    omega) ht hk
/-- A pointer at an object that stays, lent. -/
theorem Lends.pin {i off g : Nat} {o : Ob} {rs : List RV} (ho : σ[i]? = some o) (h : LendsL C σ (o.cs.drop off) rs) : Lends C σ (.pin i off g) (.rp rs) := fun m u ok' hG hσ k1 k2 hu => by
  refine Lends.obj ho h m u ok' hG hσ k1 k2 ?_
  exact unpin_rel (v := .pin i off g) hu
/-- A nil slice in a cell is a row of the frame's own, with nothing in it. -/
theorem sim_nilCell (i p : Nat) {o : Ob} {e : TypeId} {sz : Nat} (hs : 0 < sz) (ho : σ[i]? = some o) (h : o.cs[p]? = some .nil) {a : Act} {w : World} (hsim : Sim C ⟨env, σ⟩ a w) : Sim C ⟨env, σ.set i ⟨o.t, o.sz, o.cs.set p (.own σ.length)⟩ ++ [⟨e, sz, []⟩]⟩ a w := by
  obtain ⟨h1, h2, φ, hG, hH⟩ := hsim
  have hil := (List.getElem?_eq_some_iff.1 ho).1
  obtain ⟨g1, g2⟩ := good_grow (φ' := upd φ σ.length none) (new := [⟨e, sz, []⟩]) hG (Below.refl _ _) (fun i hi => upd_ne (show i ≠ σ.length from Nat.ne_of_lt hi)) (fun j hj g hg => by
      simp at hj; subst hj; simp [upd_eq] at hg) (fun i j g hi hj _ _ => by simp at hi hj; omega) (fun j o hj => by
      cases j with
      | zero => simp at hj; subst hj; simp [upd_eq, ObRel]
      | succ j => simp at hj)
  -- the cell is that row
  have hlen : (σ.set i ⟨o.t, o.sz, o.cs.set p (.own σ.length)⟩ ++ [(⟨e, sz, []⟩ : Ob)]).length = (σ ++ [(⟨e, sz, []⟩ : Ob)]).length := by simp
  have hat : ∀ j, j ≠ i → (σ.set i ⟨o.t, o.sz, o.cs.set p (.own σ.length)⟩ ++ [(⟨e, sz, []⟩ : Ob)])[j]? = (σ ++ [(⟨e, sz, []⟩ : Ob)])[j]? := fun j hj => by
    rcases Nat.lt_or_ge j σ.length with h | h
    · rw [List.getElem?_append_left (by simpa using h), List.getElem?_append_left h, List.getElem?_set_ne (Ne.symm hj)]
    · rw [List.getElem?_append_right (by simpa using h), List.getElem?_append_right h]; simp
  have hati : (σ.set i ⟨o.t, o.sz, o.cs.set p (.own σ.length)⟩ ++ [(⟨e, sz, []⟩ : Ob)])[i]? = some ⟨o.t, o.sz, o.cs.set p (.own σ.length)⟩ := by
    rw [List.getElem?_append_left (by simpa using hil), List.getElem?_set_self hil]
  have hati0 : (σ ++ [(⟨e, sz, []⟩ : Ob)])[i]? = some o := by rw [List.getElem?_append_left hil]; exact ho
  have hK : Keeps (fun _ => True) ⟨w, upd φ σ.length none, σ ++ [⟨e, sz, []⟩], C.ok⟩ ⟨w, upd φ σ.length none, σ.set i ⟨o.t, o.sz, o.cs.set p (.own σ.length)⟩ ++ [⟨e, sz, []⟩], C.ok⟩ := by
    refine ⟨⟨Nat.le_refl _, fun b _ hb => ⟨⟨hb.1, fun j hj => hb.2 j (by rw [← hlen]; exact hj)⟩, rfl⟩⟩, fun j _ hj => ⟨by rw [← hlen] at hj; exact hj, rfl⟩, fun j ob _ hj => ?_, fun j g us t _ _ _ hh => ⟨us, hh, rfl⟩⟩
    by_cases e : j = i
    · subst e
      simp only at hj
      rw [hati0] at hj; injection hj with hj; subst hj
      exact ⟨_, hati, by simp⟩
    · exact ⟨ob.cs, by simp only; rw [hat j e]; exact hj, rfl⟩
  refine ⟨h1, h2, upd φ σ.length none, ⟨rfl, fun a b g ha hb => g1.inj a b g (by rw [← hlen]; exact ha) (by rw [← hlen]; exact hb), fun j ob hj => ?_, fun j g hj => g1.mine j g (by rw [← hlen]; exact hj), g1.frm⟩, (hH.keeps g2).keeps hK⟩
  by_cases e' : j = i
  · subst e'
    simp only at hj
    rw [hati] at hj; injection hj with hj; subst hj
    have h0 := g1.ob j o hati0
    show ObRel _ _ (upd φ σ.length none j)
    simp only at h0
    cases hφ : upd φ σ.length none j with
    | none =>
      rw [hφ] at h0
      simp only [ObRel] at h0
      rw [h0] at h; simp at h
    | some g =>
      rw [hφ] at h0
      obtain ⟨us, q1, q2, q3⟩ := h0
      refine ⟨us, q1, by simpa using q2, fun m v hm => ?_⟩
      simp only [List.getElem?_set] at hm
      split at hm
      · rename_i hpm
        subst hpm
        split at hm
        · injection hm with hm; subst hm
          obtain ⟨u, k1, k2, k3⟩ := q3 p _ h
          simp only [AV.rel, RV.rel] at k3
          subst k3
          refine ⟨_, k1, rfl, ?_⟩
          simp only [AV.rel]
          exact ⟨⟨e, sz, []⟩, 0, by rw [List.getElem?_append_right (by simp)]; simp, by simp, hs, .inl ⟨by first | rfl | trivial, by first | rfl | trivial, upd_eq⟩⟩
        · cases hm
      · obtain ⟨u, k1, k2, k3⟩ := q3 m v hm
        exact ⟨u, k1, k2, AV.rel_keeps hK _ _ (AV.only_true _) k3⟩
  · simp only at hj
    rw [hat j e'] at hj
    exact (g1.ob j ob hj).keeps hK fun _ _ => rfl
theorem RunsL.nilCell {l : List Oper} (i p : Nat) {o : Ob} {e : TypeId} {sz : Nat} (hs : 0 < sz) (ho : σ[i]? = some o) (h : o.cs[p]? = some .nil) (hk : RunsL P C ops l k R ⟨env, σ.set i ⟨o.t, o.sz, o.cs.set p (.own σ.length)⟩ ++ [⟨e, sz, []⟩]⟩) : RunsL P C ops l k R ⟨env, σ⟩ :=
  ⟨fun a w hsim => hk.run a w (sim_nilCell i p hs ho h hsim)⟩
theorem Runs.nilCell (i p : Nat) {o : Ob} {e : TypeId} {sz : Nat} (hs : 0 < sz) (ho : σ[i]? = some o) (h : o.cs[p]? = some .nil) (hk : Runs P C k R ⟨env, σ.set i ⟨o.t, o.sz, o.cs.set p (.own σ.length)⟩ ++ [⟨e, sz, []⟩]⟩) : Runs P C k R ⟨env, σ⟩ :=
  ⟨fun a w hsim => hk.run a w (sim_nilCell i p hs ho h hsim)⟩
/-- A call that reads what the frame owns, and makes a row of plain cells: taken as data. -/
theorem pu_callSL {gd : Option (Nat × Bool)} {f : FuncId} {fn : Func} {xs : Array Operand} {ats : Array TypeId} {args : List RV} {e : TypeId} {sz : Nat} {vs : List Value} {els : List (List RV)} [hfn : FN P f fn] (hf : AC P f args fun rr => rr = .row e sz (vs.map .c)) (hels : els.flatten = vs.map .c) (hl : ∀ x ∈ els, x.length = sz) (ha : LendsL C σ (xs.toList.map (ev env)) args) :
    Pur P C ⟨some t, .call { callee := .value (.func f), args := xs, argTypes := ats }, ty, pos, after, gd⟩ env σ (.ro (.seq sz els)) := by
  refine ⟨fun a m hG hσ hH K Q hK => ?_⟩
  have hr := LendsL.rels (ok' := fun _ => True) hG hσ (fun _ _ => trivial) (fun _ _ _ _ => trivial) ha _ (rels_eval (a := a) (m := m) xs.toList fun x hx => hH x (by simp [Op.operands, Call.operands]; exact .inr (by simpa using hx)))
  unfold Oper.wp
  rw [execOp_call_go, run_call hfn]
  simp only [Oper.upon]
  refine (hf m.w (fun _ => True) _ (fun _ _ => trivial) (by simpa using hr)).mono ?_
  rintro e' w' ⟨u, rr, bs, rfl, rfl, h1, _, h3, h4⟩
  refine hK u w' h4 ?_
  simp only [RR.rel] at h1
  obtain ⟨n, xs', k1, k2, k3, k4, k5, rfl⟩ := h1
  have e2 := agg_flat (m := ⟨w', fun _ => none, [], fun b => True ∧ b ∉ u.ownBlock.toList⟩) vs xs' (RV.rels_mono ⟨Nat.le_refl _, fun b _ hb => ⟨⟨hb, fun i hi => by simp at hi⟩, rfl⟩⟩ _ _ k3)
  subst e2
  simp only [AV.rel]
  refine seals_rel (ok := m.ok) (ok' := m.ok) (fun b hb => hb) (.row e sz (xs'.map .c)) (.seq sz els) u u.ownBlock.toList (by simp only [Seals]; exact ⟨els, rfl, hels, hl⟩) (by simp only [RR.rel]; exact ⟨n, xs', k1, k2, rels_const xs', k4, k5, trivial⟩) fun b hb => ok_args hG b (h3 b hb).1
/-- A field, of one cell, of a struct that is data. -/
theorem pu_fieldV {gd : Option (Nat × Bool)} {s : TypeId} {x : Operand} {f off : Nat} {rs : List RV} {r : RV} {fields : Array Field} {fl : Field} (hu : P.underlying s = some (.struct fields)) (hf : fields[f]? = some fl) (ho : fl.offset = off) [h1 : T1 P fl.type] (hx : ev env x = .ro (.agg rs)) (hr : rs[off]? = some r) :
    Pur P C ⟨some t, .field s x f, ty, pos, after, gd⟩ env σ (.ro r) :=
  Pur.of (fun a m hG hσ hH => by
    have h := hH x (by simp [Op.operands, Call.operands])
    rw [hx] at h
    simp only [AV.rel, RV.rel] at h
    obtain ⟨us, e, hr'⟩ := h
    obtain ⟨u, k1, k2⟩ := RV.rels_at rs _ hr' off r hr
    have k1' : us[off]? = some u := by simpa using k1
    refine ⟨u, ?_, by simpa only [AV.rel] using k2⟩
    simp [execOp, e, Instr.field, run_underlying hu, hf, ho, asAgg, part, run_isAgg1 (P := P) (t := fl.type), k1'])
end
end Go.Proofs.Ytignpklaefibaaa
/- Struct literals. Over any program. -/
namespace Go.Proofs.Ytignpklaefibaaa
set_option linter.unusedSimpArgs false
set_option linter.unusedVariables false
open Go.RowKit
open AV (Mem Keeps)
/-- A struct type: where its fields lie and how wide they are, and its zero in cells. -/
class TB (P : Program) (t : TypeId) (pl : outParam (List (Nat × Nat))) (zs : outParam (List Value)) : Prop where
  h : ∃ it fields z, P.info? t = some it ∧ P.underlying t = some (.struct fields) ∧ it.zero = some z ∧ z.cells = zs.toArray ∧ fields.toList.mapM (fun f => (P.info? f.type).map fun i => (f.offset, i.size)) = some pl ∧ ∀ x ∈ zs, x.oneCell' = true
def fillA (pl : List (Nat × Nat)) (env : Env) : List AV → List (Nat × Operand) → Option (List AV)
  | cells, [] => some cells
  | cells, (i, x) :: l => match pl[i]? with
    | some (off, size) => match cells? (ev env x) with
      | some cs => match Nat.beq cs.length size, Nat.ble (off + size) cells.length with
        | true, true => fillA pl env (setsAt cells off cs) l
        | _, _ => none
      | none => none
    | none => none
/-- All of it data, if it is. -/
def aggOf (vs : List AV) : AV := match allRo vs with
  | some rs => .ro (.agg rs)
  | none => .agg vs
theorem sets_array {m : Mem} : ∀ (us : List Value) (k : Nat) (cells : Array Value) (off : Nat) (cs vs : List AV), us.length = cs.length → (∀ (j : Nat) x, cs[j]? = some x → ∃ y, us[j]? = some y ∧ y.oneCell' = true ∧ AV.rel m x y) →
    off + k + cs.length ≤ vs.length → cells.size = vs.length → (∀ (j : Nat) x, vs[j]? = some x → ∃ y, cells[j]? = some y ∧ y.oneCell' = true ∧ AV.rel m x y) →
    ((us.zipIdx k).foldl (fun cs (c, j) => cs.setIfInBounds (off + j) c) cells).size = vs.length ∧ ∀ (j : Nat) x, (setsAt vs (off + k) cs)[j]? = some x → ∃ y, ((us.zipIdx k).foldl (fun cs (c, j) => cs.setIfInBounds (off + j) c) cells)[j]? = some y ∧ y.oneCell' = true ∧ AV.rel m x y
  | [], k, cells, off, cs, vs, hl, hc, hle, hs, hv => by
    have : cs = [] := List.eq_nil_of_length_eq_zero (by simpa using hl.symm)
    subst this
    exact ⟨hs, hv⟩
  | u :: us, k, cells, off, [], vs, hl, hc, hle, hs, hv => by simp at hl
  | u :: us, k, cells, off, c :: cs, vs, hl, hc, hle, hs, hv => by
    simp only [List.length_cons] at hl hle
    rw [List.zipIdx_cons, List.foldl_cons, setsAt]
    have := sets_array us (k + 1) (cells.setIfInBounds (off + k) u) off cs (vs.set (off + k) c) (by omega) (fun j x hj => hc (j + 1) x (by simpa using hj)) (by simp; omega) (by simpa using hs) (fun j x hj => by
      rw [List.getElem?_set] at hj
      split at hj
      · rename_i e
        subst e
        split at hj
        · injection hj with hj; subst hj
          obtain ⟨y, e1, e2, e3⟩ := hc 0 c (by simp)
          simp only [List.getElem?_cons_zero, Option.some.injEq] at e1
          subst e1
          exact ⟨u, Array.getElem?_setIfInBounds_self_of_lt (by omega), e2, e3⟩
        · cases hj
      · rename_i e
        obtain ⟨y, e1, e2, e3⟩ := hv j x hj
        exact ⟨y, by rw [Array.getElem?_setIfInBounds_ne e]; exact e1, e2, e3⟩)
    rw [List.length_set] at this
    rwa [show off + (k + 1) = off + k + 1 by omega] at this
theorem fillA_ok {m : Mem} {env : Env} {a : Act} {pl : List (Nat × Nat)} : ∀ (l : List (Nat × Operand)) (vs vs' : List AV) (cells : Array Value), (∀ p ∈ l, AV.rel m (ev env p.2) (a.eval p.2)) → cells.size = vs.length → (∀ (j : Nat) x, vs[j]? = some x → ∃ y, cells[j]? = some y ∧ y.oneCell' = true ∧ AV.rel m x y) →
    fillA pl env vs l = some vs' → ∃ cells', Instr.fill (pl.toArray[·]?) cells (l.map fun p => (p.1, a.eval p.2)) = some cells' ∧ cells'.size = vs'.length ∧ ∀ (j : Nat) x, vs'[j]? = some x → ∃ y, cells'[j]? = some y ∧ y.oneCell' = true ∧ AV.rel m x y
  | [], vs, vs', cells, _, hs, hv, h => by
    simp only [fillA, Option.some.injEq] at h
    subst h
    exact ⟨cells, rfl, hs, hv⟩
  | (i, x) :: l, vs, vs', cells, hH, hs, hv, h => by
    unfold fillA at h
    split at h
    · rename_i off size hp
      split at h
      · rename_i cs hc
        split at h
        · rename_i hb1 hb2
          have e1 := Nat.eq_of_beq_eq_true hb1
          have e2 := Nat.le_of_ble_eq_true hb2
          obtain ⟨c1, c2⟩ := cells_rel (hH (i, x) (by simp)) hc
          obtain ⟨k1, k2⟩ := sets_array (m := m) (a.eval x).cells.toList 0 cells off cs vs (by simpa using c1) (fun j y hj => by simpa using c2 j y hj) (by omega) hs hv
          rw [Nat.add_zero] at k2
          obtain ⟨cells', q1, q2⟩ := fillA_ok l _ vs' _ (fun p hp => hH p (by simp [hp])) (by rw [setsAt_len]; exact k1) k2 h
          refine ⟨cells', ?_, q2⟩
          simp only [List.map_cons, Instr.fill]
          have : pl.toArray[i]? = some (off, size) := by simpa using hp
          rw [this]
          simp only
          have c1' : (a.eval x).cells.size = cs.length := c1
          rw [if_neg (by rw [c1']; simp; omega), ← q1]
          congr 1
          rw [← Array.foldl_toList, Array.toList_zipIdx]
        · cases h
      · cases h
    · cases h
section
variable {P : Program} {C : Ctx} {env : Env} {σ : List Ob} {t : Nat} {ty : TypeId} {pos : String} {after : Array Edge} {gd : Option (Nat × Bool)}
theorem pu_buildS {tt : TypeId} {parts : Array (Nat × Operand)} {pl : List (Nat × Nat)} {zs : List Value} {vs : List AV} [hb : TB P tt pl zs] (h : fillA pl env (zs.map fun v => .ro (.c v)) parts.toList = some vs) :
    Pur P C ⟨some t, .build tt parts, ty, pos, after, gd⟩ env σ (aggOf vs) :=
  Pur.of (fun a m hG hσ hH => by
    obtain ⟨it, fields, z, h1, h2, h3, h4, h5, h6⟩ := hb.h
    obtain ⟨cells', q1, q2, q3⟩ := fillA_ok (m := m) (a := a) parts.toList _ vs zs.toArray (fun p hp => hH p.2 (by simp [Op.operands]; exact ⟨p.1, by simpa using hp⟩)) (by simp) (fun j x hj => by
      rw [List.getElem?_map, Option.map_eq_some_iff] at hj
      obtain ⟨y, hy, rfl⟩ := hj
      exact ⟨y, by simpa using hy, h6 y (List.mem_of_getElem? hy), by simp [AV.rel, RV.rel]⟩) h
    have hbt : P.built tt (parts.map fun p => (p.1, a.eval p.2)).toList = some cells' := by
      unfold Program.built
      simp only [h1, h2, h3, h5, h4]
      rw [Array.toList_map]
      exact q1
    refine ⟨.agg cells', by simp only [execOp]; exact by simp [run_build m.w tt _ _ hbt], ?_⟩
    have hrel : AV.rels m vs cells'.toList := AV.rels_of _ _ (by simpa using q2) fun j r u hj hu => by
      obtain ⟨y, e1, _, e3⟩ := q3 j r hj
      have : y = u := by simpa [e1] using hu
      rwa [this] at e3
    unfold aggOf
    split
    · rename_i rs hrs
      rw [allRo_eq hrs] at hrel
      simp only [AV.rel, RV.rel]
      exact ⟨_, rfl, rels_ro_inv _ _ hrel⟩
    · simp only [AV.rel]
      exact ⟨_, rfl, hrel⟩)
end
end Go.Proofs.Ytignpklaefibaaa
/- Values of the format, which are trees, over values: the laws' helpers on them, opened arguments, counting, comparing. -/
namespace Go.Proofs.Ytignpklaefibaaa
set_option linter.unusedSimpArgs false
set_option linter.unusedVariables false
open Go.RowKit
inductive Tre where
  | mk (number : Int) (bytes : List UInt8) (items : List Tre)
namespace Tre
def number : Tre → Int | .mk n _ _ => n
def bytes : Tre → List UInt8 | .mk _ b _ => b
def items : Tre → List Tre | .mk _ _ l => l
mutual
/-- The cells of a tree. -/
def cells : Tre → List RV
  | .mk n b l => [.int n, bytesR b, .seq 3 (cellsL l)]
def cellsL : List Tre → List (List RV)
  | [] => []
  | v :: vs => cells v :: cellsL vs
/-- What a size counts. -/
def total : Tre → Nat
  | .mk _ b l => b.length + l.length + totalL l
def totalL : List Tre → Nat
  | [] => 0
  | v :: vs => total v + totalL vs
def count : Tre → Nat
  | .mk _ _ l => 1 + countL l
def countL : List Tre → Nat
  | [] => 0
  | v :: vs => count v + countL vs
def weight : Tre → Nat
  | .mk _ b l => b.length + weightL l
def weightL : List Tre → Nat
  | [] => 0
  | v :: vs => weight v + weightL vs
/-- In range: each number, each length. -/
def Ok : Tre → Prop
  | .mk n b l => I64 n ∧ b.length ≤ maxLen ∧ l.length ≤ maxLen ∧ OkL l
def OkL : List Tre → Prop
  | [] => True
  | v :: vs => Ok v ∧ OkL vs
end
theorem cellsL_eq : ∀ l, cellsL l = l.map cells
  | [] => rfl
  | v :: vs => by rw [cellsL, cellsL_eq vs]; rfl
theorem totalL_eq : ∀ l, totalL l = (l.map total).sum
  | [] => rfl
  | v :: vs => by rw [totalL, totalL_eq vs]; rfl
theorem countL_eq : ∀ l, countL l = (l.map count).sum
  | [] => rfl
  | v :: vs => by rw [countL, countL_eq vs]; rfl
theorem weightL_eq : ∀ l, weightL l = (l.map weight).sum
  | [] => rfl
  | v :: vs => by rw [weightL, weightL_eq vs]; rfl
theorem OkL_iff : ∀ {l}, OkL l ↔ ∀ x ∈ l, Ok x
  | [] => by simp [OkL]
  | v :: vs => by simp [OkL, OkL_iff (l := vs)]
theorem cells_eq (v : Tre) : v.cells = [.int v.number, bytesR v.bytes, .seq 3 (v.items.map cells)] := by
  cases v; rw [cells, cellsL_eq]; rfl
theorem total_eq (v : Tre) : v.total = v.bytes.length + v.items.length + (v.items.map total).sum := by
  cases v; rw [total, totalL_eq]; rfl
theorem count_eq (v : Tre) : v.count = 1 + (v.items.map count).sum := by
  cases v; rw [count, countL_eq]; rfl
theorem weight_eq (v : Tre) : v.weight = v.bytes.length + (v.items.map weight).sum := by
  cases v; rw [weight, weightL_eq]; rfl
theorem Ok.out {v : Tre} (h : v.Ok) : I64 v.number ∧ v.bytes.length ≤ maxLen ∧ v.items.length ≤ maxLen ∧ ∀ x ∈ v.items, x.Ok := by
  cases v; rw [Ok, OkL_iff] at h; exact h
theorem cells_len (v : Tre) : v.cells.length = 3 := by rw [cells_eq]; rfl
mutual
theorem ind {P : Tre → Prop} (h : ∀ v, (∀ x ∈ v.items, P x) → P v) : ∀ v, P v
  | .mk n b l => h _ (indL h l)
theorem indL {P : Tre → Prop} (h : ∀ v, (∀ x ∈ v.items, P x) → P v) : ∀ l : List Tre, ∀ x ∈ l, P x
  | [], x, hx => by cases hx
  | v :: vs, x, hx => by
    rcases List.mem_cons.1 hx with e | e
    · rw [e]; exact ind h v
    · exact indL h vs x e
end
mutual
theorem count_le : ∀ v : Tre, v.count ≤ 1 + v.total
  | .mk n b l => by have := countL_le l; simp only [count, total]; omega
theorem countL_le : ∀ l : List Tre, countL l ≤ l.length + totalL l
  | [] => by simp [countL]
  | v :: vs => by have := count_le v; have := countL_le vs; simp only [countL, totalL, List.length_cons]; omega
end
mutual
theorem weight_le : ∀ v : Tre, v.weight ≤ v.total
  | .mk n b l => by have := weightL_le l; simp only [weight, total]; omega
theorem weightL_le : ∀ l : List Tre, weightL l ≤ totalL l
  | [] => by simp [weightL]
  | v :: vs => by have := weight_le v; have := weightL_le vs; simp only [weightL, totalL]; omega
end
end Tre
/-- A list of trees. -/
def tresR (l : List Tre) : RV := .seq 3 (l.map Tre.cells)
def treR (v : Tre) : RV := .agg [.int v.number, bytesR v.bytes, tresR v.items]
theorem treC (v : Tre) : RV.agg v.cells = treR v := by rw [Tre.cells_eq]; rfl
theorem tre_of {rcs : List RV} (h : TyC Try.prog 28 rcs) : ∃ v : Tre, .agg rcs = treR v ∧ v.Ok := by
  have hc : Try.prog.cellsOf 28 = 3 := by kernel_rfl
  have key : ∀ (t : TypeId) (rcs : List RV), TyC Try.prog t rcs → (t = 28 → ∃ v : Tre, rcs = v.cells ∧ v.Ok) ∧ (t = 26 → ∃ l : List Tre, rcs = [tresR l] ∧ l.length ≤ maxLen ∧ ∀ x ∈ l, x.Ok) := by
    intro t rcs h
    induction h with
    | int h wf => exact ⟨fun e => (by subst e; rw [Try.underlying28] at h; cases h), fun e => (by subst e; rw [Try.underlying26] at h; cases h)⟩
    | bool h => exact ⟨fun e => (by subst e; rw [Try.underlying28] at h; cases h), fun e => (by subst e; rw [Try.underlying26] at h; cases h)⟩
    | str h _ => exact ⟨fun e => (by subst e; rw [Try.underlying28] at h; cases h), fun e => (by subst e; rw [Try.underlying26] at h; cases h)⟩
    | slice h hl hels ih =>
      refine ⟨fun e => (by subst e; rw [Try.underlying28] at h; cases h), fun e => ?_⟩
      subst e
      rw [Try.underlying26] at h
      injection h with h; injection h with h; subst h
      obtain ⟨l, rfl, hq⟩ := els_of (f := Tre.cells) (Q := Tre.Ok) fun el hel => (ih el hel).1 rfl
      exact ⟨l, by rw [hc]; rfl, by simpa using hl, hq⟩
    | struct h hl hcs ih =>
      refine ⟨fun e => ?_, fun e => (by subst e; rw [Try.underlying26] at h; cases h)⟩
      subst e
      rename_i fs cells
      rw [Try.underlying28] at h
      injection h with h; injection h with h; subst h
      obtain ⟨c0, c1, c2, rfl⟩ : ∃ a b c, cells = [a, b, c] := by
        rcases cells with _ | ⟨a, _ | ⟨b, _ | ⟨c, _ | ⟨d, r⟩⟩⟩⟩ <;> simp at hl
        exact ⟨a, b, c, rfl⟩
      obtain ⟨n, rfl, b0⟩ := (hcs 0 _ c0 rfl rfl).i64 Try.underlying3
      obtain ⟨bs, rfl, hb⟩ := (hcs 1 _ c1 rfl rfl).bytes Try.underlying25 Try.underlying5 (by kernel_rfl)
      obtain ⟨l, rfl, hl2, hq⟩ := (ih 2 _ c2 rfl rfl).2 rfl
      refine ⟨.mk n bs l, by rw [Tre.cells_eq]; rfl, ?_⟩
      rw [Tre.Ok, Tre.OkL_iff]
      exact ⟨b0, hb, hl2, hq⟩
  obtain ⟨v, rfl, hv⟩ := (key _ _ h).1 rfl
  exact ⟨v, treC v, hv⟩
theorem szTres_ac (l : List Tre) (ih : ∀ x ∈ l, ∀ left : Int, 0 ≤ left → left ≤ 1048576 → x.Ok → ACv Try.prog 10 [treR x, .int left] (.int (sz1 left x.total))) (left : Int) (h0 : 0 ≤ left) (h1 : left ≤ 1048576) (hl : l.length ≤ maxLen) (ho : ∀ x ∈ l, x.Ok) :
    ACv Try.prog 41 [tresR l, .int left] (.int (sz1 left (l.length + (l.map Tre.total).sum : Nat))) := by
  unfold maxLen at hl
  refine ac_enter Try.func41 rfl _ Try.ntmps41 (by simp) fun C hn hm => ?_
  by_cases h : left < (l.length : Int)
  · repeat' (first
    | refine RunsL.step tabOk hn rfl ?_
    | refine RunsL.nil ?_
    | refine Runs.toRegion 30 rfl ?_
    | (refine RunsL.pe hn rfl rfl rfl ?_; first
      | refine ⟨_, pu_sub rfl rfl (by first | omega | (simp only [List.length_map]; omega)), ?_⟩)
    | (refine Runs.ctls 30 rfl ?_; first | refine Runs.cond_t rfl ?_ | refine Runs.cond_f rfl ?_ | ((first | refine Runs.cond_yes rfl ?_ ?_ | refine Runs.cond_nno rfl ?_ ?_); · first | omega | rfl | assumption | (simp only [List.length_map]; omega)) | ((first | refine Runs.cond_no rfl ?_ ?_ | refine Runs.cond_nyes rfl ?_ ?_); · first | omega | rfl | assumption | (simp only [List.length_map]; omega)) | refine Runs.cond_dec rfl (fun h => ?_) (fun h => ?_) | refine Runs.cond_ndec rfl (fun h => ?_) (fun h => ?_) | refine Runs.cond_nb rfl (fun h => ?_) (fun h => ?_) | refine Runs.cond_b rfl (fun h => ?_) (fun h => ?_) | refine Runs.ret (ends_ro hm rfl rfl ?_) | exact Runs.ret (ends_cellR hm rfl rfl rfl (Nat.le_of_ble_eq_true rfl) rfl rfl))
    | refine op_box rfl (tl hn rfl) ?_
    | refine op_storeF rfl rfl rfl rfl (Nat.le_of_ble_eq_true rfl) ?_
    | refine op_alloc (tl hn rfl) ?_
    | refine op_storeN rfl rfl rfl rfl (Nat.le_of_ble_eq_true rfl) ?_
    | (refine RunsL.pe hn rfl rfl rfl ?_; first
      | refine ⟨_, pu_add rfl rfl (by omega), ?_⟩
      | refine ⟨_, pu_indexAddr_map rfl rfl (by omega) (by assumption), ?_⟩
      | refine ⟨_, pu_sub rfl rfl (by omega), ?_⟩
      | refine ⟨_, pu_pick_b rfl rfl rfl, ?_⟩
      | refine ⟨_, pu_mul rfl rfl (by omega), ?_⟩
      | refine ⟨_, pu_build rfl rfl rfl rfl rfl rfl, ?_⟩))
    exact rr_int (sz1_neg (by omega)).symm
  · repeat' (first
    | refine RunsL.step tabOk hn rfl ?_
    | refine RunsL.nil ?_
    | refine Runs.toRegion 30 rfl ?_
    | (refine RunsL.pe hn rfl rfl rfl ?_; first
      | refine ⟨_, pu_sub rfl rfl (by first | omega | (simp only [List.length_map]; omega)), ?_⟩)
    | (refine Runs.ctls 30 rfl ?_; first | refine Runs.cond_t rfl ?_ | refine Runs.cond_f rfl ?_ | ((first | refine Runs.cond_yes rfl ?_ ?_ | refine Runs.cond_nno rfl ?_ ?_); · first | omega | rfl | assumption | (simp only [List.length_map]; omega)) | ((first | refine Runs.cond_no rfl ?_ ?_ | refine Runs.cond_nyes rfl ?_ ?_); · first | omega | rfl | assumption | (simp only [List.length_map]; omega)) | refine Runs.cond_dec rfl (fun h => ?_) (fun h => ?_) | refine Runs.cond_ndec rfl (fun h => ?_) (fun h => ?_) | refine Runs.cond_nb rfl (fun h => ?_) (fun h => ?_) | refine Runs.cond_b rfl (fun h => ?_) (fun h => ?_) | refine Runs.ret (ends_ro hm rfl rfl ?_) | exact Runs.ret (ends_cellR hm rfl rfl rfl (Nat.le_of_ble_eq_true rfl) rfl rfl))
    | refine op_box rfl (tl hn rfl) ?_
    | refine op_storeF rfl rfl rfl rfl (Nat.le_of_ble_eq_true rfl) ?_
    | refine op_alloc (tl hn rfl) ?_
    | refine op_storeN rfl rfl rfl rfl (Nat.le_of_ble_eq_true rfl) ?_
    | (refine RunsL.pe hn rfl rfl rfl ?_; first
      | refine ⟨_, pu_add rfl rfl (by omega), ?_⟩
      | refine ⟨_, pu_indexAddr_map rfl rfl (by omega) (by assumption), ?_⟩
      | refine ⟨_, pu_sub rfl rfl (by omega), ?_⟩
      | refine ⟨_, pu_pick_b rfl rfl rfl, ?_⟩
      | refine ⟨_, pu_mul rfl rfl (by omega), ?_⟩
      | refine ⟨_, pu_build rfl rfl rfl rfl rfl rfl, ?_⟩))
    refine Runs.loopN 30 rfl (fun j => [(0, .ro (tresR l)), (1, .int (left - l.length - ((l.take j).map Tre.total).sum)), (5, .int (j : Int))]) (fun _ => []) (fun j => ((l.take j).map Tre.total).sum ≤ left - l.length) l.length 0 (Nat.zero_le _) (by simp; omega) ⟨rfl, by simp [look], rfl, trivial⟩ rfl fun j hj hQ next => ?_
    by_cases hlt : j < l.length
    · obtain ⟨x, hx⟩ : ∃ x, l[(j : Int).toNat]? = some x := ⟨_, List.getElem?_eq_getElem hlt⟩
      have hx' : l[j]? = some x := hx
      have hm' := List.mem_of_getElem? hx'
      have hs := sum_take_next Tre.total hx'
      have hle := sum_take_le Tre.total l (j + 1)
      have hcall := ih x hm' (left - l.length - ((l.take j).map Tre.total).sum) (by omega) (by omega) (ho x hm')
      by_cases hz : (left - l.length - ((l.take j).map Tre.total).sum) < (x.total : Int)
      · have e := sz1_neg hz
        rw [e] at hcall
        repeat' (first
          | refine RunsL.step tabOk hn rfl ?_
          | refine RunsL.nil ?_
          | refine Runs.toRegion 30 rfl ?_
          | (refine RunsL.pe hn rfl rfl rfl ?_; first
            | refine ⟨_, pu_callR hcall rfl, ?_⟩
            | refine ⟨_, pu_loadN_eq rfl (Tre.cells_eq _) rfl, ?_⟩)
          | (refine Runs.ctls 30 rfl ?_; first | refine Runs.cond_t rfl ?_ | refine Runs.cond_f rfl ?_ | ((first | refine Runs.cond_yes rfl ?_ ?_ | refine Runs.cond_nno rfl ?_ ?_); · first | omega | rfl | assumption | (simp only [List.length_map]; omega)) | ((first | refine Runs.cond_no rfl ?_ ?_ | refine Runs.cond_nyes rfl ?_ ?_); · first | omega | rfl | assumption | (simp only [List.length_map]; omega)) | refine Runs.cond_dec rfl (fun h => ?_) (fun h => ?_) | refine Runs.cond_ndec rfl (fun h => ?_) (fun h => ?_) | refine Runs.cond_nb rfl (fun h => ?_) (fun h => ?_) | refine Runs.cond_b rfl (fun h => ?_) (fun h => ?_) | refine Runs.ret (ends_ro hm rfl rfl ?_) | exact Runs.ret (ends_cellR hm rfl rfl rfl (Nat.le_of_ble_eq_true rfl) rfl rfl))
          | refine op_box rfl (tl hn rfl) ?_
          | refine op_storeF rfl rfl rfl rfl (Nat.le_of_ble_eq_true rfl) ?_
          | refine op_alloc (tl hn rfl) ?_
          | refine op_storeN rfl rfl rfl rfl (Nat.le_of_ble_eq_true rfl) ?_
          | (refine RunsL.pe hn rfl rfl rfl ?_; first
            | refine ⟨_, pu_add rfl rfl (by omega), ?_⟩
            | refine ⟨_, pu_indexAddr_map rfl rfl (by omega) (by assumption), ?_⟩
            | refine ⟨_, pu_sub rfl rfl (by omega), ?_⟩
            | refine ⟨_, pu_pick_b rfl rfl rfl, ?_⟩
            | refine ⟨_, pu_mul rfl rfl (by omega), ?_⟩
            | refine ⟨_, pu_build rfl rfl rfl rfl rfl rfl, ?_⟩))
        exact rr_int (sz1_neg (by omega)).symm
      · have e := sz1_pos (left := left - l.length - ((l.take j).map Tre.total).sum) (n := x.total) (by omega)
        rw [e] at hcall
        repeat' (first
          | refine RunsL.step tabOk hn rfl ?_
          | refine RunsL.nil ?_
          | refine Runs.toRegion 30 rfl ?_
          | (refine RunsL.pe hn rfl rfl rfl ?_; first
            | refine ⟨_, pu_callR hcall rfl, ?_⟩
            | refine ⟨_, pu_loadN_eq rfl (Tre.cells_eq _) rfl, ?_⟩)
          | (refine Runs.ctls 30 rfl ?_; first | refine Runs.cond_t rfl ?_ | refine Runs.cond_f rfl ?_ | ((first | refine Runs.cond_yes rfl ?_ ?_ | refine Runs.cond_nno rfl ?_ ?_); · first | omega | rfl | assumption | (simp only [List.length_map]; omega)) | ((first | refine Runs.cond_no rfl ?_ ?_ | refine Runs.cond_nyes rfl ?_ ?_); · first | omega | rfl | assumption | (simp only [List.length_map]; omega)) | refine Runs.cond_dec rfl (fun h => ?_) (fun h => ?_) | refine Runs.cond_ndec rfl (fun h => ?_) (fun h => ?_) | refine Runs.cond_nb rfl (fun h => ?_) (fun h => ?_) | refine Runs.cond_b rfl (fun h => ?_) (fun h => ?_) | refine Runs.ret (ends_ro hm rfl rfl ?_) | exact Runs.ret (ends_cellR hm rfl rfl rfl (Nat.le_of_ble_eq_true rfl) rfl rfl))
          | refine op_box rfl (tl hn rfl) ?_
          | refine op_storeF rfl rfl rfl rfl (Nat.le_of_ble_eq_true rfl) ?_
          | refine op_alloc (tl hn rfl) ?_
          | refine op_storeN rfl rfl rfl rfl (Nat.le_of_ble_eq_true rfl) ?_
          | (refine RunsL.pe hn rfl rfl rfl ?_; first
            | refine ⟨_, pu_add rfl rfl (by omega), ?_⟩
            | refine ⟨_, pu_indexAddr_map rfl rfl (by omega) (by assumption), ?_⟩
            | refine ⟨_, pu_sub rfl rfl (by omega), ?_⟩
            | refine ⟨_, pu_pick_b rfl rfl rfl, ?_⟩
            | refine ⟨_, pu_mul rfl rfl (by omega), ?_⟩
            | refine ⟨_, pu_build rfl rfl rfl rfl rfl rfl, ?_⟩))
        refine next _ _ ⟨rfl, ?_, rfl, trivial⟩ hlt (by omega) rfl
        exact av_int (by rw [hs]; omega)
    · repeat' (first
      | refine RunsL.step tabOk hn rfl ?_
      | refine RunsL.nil ?_
      | refine Runs.toRegion 30 rfl ?_
      | (refine Runs.ctls 30 rfl ?_; first | refine Runs.cond_t rfl ?_ | refine Runs.cond_f rfl ?_ | ((first | refine Runs.cond_yes rfl ?_ ?_ | refine Runs.cond_nno rfl ?_ ?_); · first | omega | rfl | assumption | (simp only [List.length_map]; omega)) | ((first | refine Runs.cond_no rfl ?_ ?_ | refine Runs.cond_nyes rfl ?_ ?_); · first | omega | rfl | assumption | (simp only [List.length_map]; omega)) | refine Runs.cond_dec rfl (fun h => ?_) (fun h => ?_) | refine Runs.cond_ndec rfl (fun h => ?_) (fun h => ?_) | refine Runs.cond_nb rfl (fun h => ?_) (fun h => ?_) | refine Runs.cond_b rfl (fun h => ?_) (fun h => ?_) | refine Runs.ret (ends_ro hm rfl rfl ?_) | exact Runs.ret (ends_cellR hm rfl rfl rfl (Nat.le_of_ble_eq_true rfl) rfl rfl))
      | refine op_box rfl (tl hn rfl) ?_
      | refine op_storeF rfl rfl rfl rfl (Nat.le_of_ble_eq_true rfl) ?_
      | refine op_alloc (tl hn rfl) ?_
      | refine op_storeN rfl rfl rfl rfl (Nat.le_of_ble_eq_true rfl) ?_
      | (refine RunsL.pe hn rfl rfl rfl ?_; first
        | refine ⟨_, pu_add rfl rfl (by omega), ?_⟩
        | refine ⟨_, pu_indexAddr_map rfl rfl (by omega) (by assumption), ?_⟩
        | refine ⟨_, pu_sub rfl rfl (by omega), ?_⟩
        | refine ⟨_, pu_pick_b rfl rfl rfl, ?_⟩
        | refine ⟨_, pu_mul rfl rfl (by omega), ?_⟩
        | refine ⟨_, pu_build rfl rfl rfl rfl rfl rfl, ?_⟩))
      obtain rfl : j = l.length := by omega
      rw [List.take_length] at hQ ⊢
      exact rr_int (by rw [sz1_pos (by omega)]; omega)
theorem szTre_ac : ∀ (v : Tre) (left : Int), 0 ≤ left → left ≤ 1048576 → v.Ok → ACv Try.prog 10 [treR v, .int left] (.int (sz1 left v.total)) := by
  refine Tre.ind fun v ih left h0 h1 ho => ?_
  obtain ⟨o1, o2, o3, o4⟩ := ho.out
  have hb := szBytes_ac v.bytes left h0 h1 o2
  have ht := v.total_eq
  refine ac_enter Try.func10 rfl _ Try.ntmps10 (by simp) fun C hn hm => ?_
  by_cases h : left < (v.bytes.length : Int)
  · rw [sz1_neg h] at hb
    repeat' (first
      | refine RunsL.step tabOk hn rfl ?_
      | refine RunsL.nil ?_
      | refine Runs.toRegion 30 rfl ?_
      | (refine RunsL.pe hn rfl rfl rfl ?_; first
        | refine ⟨_, pu_callR hb rfl, ?_⟩)
      | (refine Runs.ctls 30 rfl ?_; first | refine Runs.cond_t rfl ?_ | refine Runs.cond_f rfl ?_ | ((first | refine Runs.cond_yes rfl ?_ ?_ | refine Runs.cond_nno rfl ?_ ?_); · first | omega | rfl | assumption | (simp only [List.length_map]; omega)) | ((first | refine Runs.cond_no rfl ?_ ?_ | refine Runs.cond_nyes rfl ?_ ?_); · first | omega | rfl | assumption | (simp only [List.length_map]; omega)) | refine Runs.cond_dec rfl (fun h => ?_) (fun h => ?_) | refine Runs.cond_ndec rfl (fun h => ?_) (fun h => ?_) | refine Runs.cond_nb rfl (fun h => ?_) (fun h => ?_) | refine Runs.cond_b rfl (fun h => ?_) (fun h => ?_) | refine Runs.ret (ends_ro hm rfl rfl ?_) | exact Runs.ret (ends_cellR hm rfl rfl rfl (Nat.le_of_ble_eq_true rfl) rfl rfl))
      | refine op_box rfl (tl hn rfl) ?_
      | refine op_storeF rfl rfl rfl rfl (Nat.le_of_ble_eq_true rfl) ?_
      | refine op_alloc (tl hn rfl) ?_
      | refine op_storeN rfl rfl rfl rfl (Nat.le_of_ble_eq_true rfl) ?_
      | (refine RunsL.pe hn rfl rfl rfl ?_; first
        | refine ⟨_, pu_add rfl rfl (by omega), ?_⟩
        | refine ⟨_, pu_indexAddr_map rfl rfl (by omega) (by assumption), ?_⟩
        | refine ⟨_, pu_sub rfl rfl (by omega), ?_⟩
        | refine ⟨_, pu_pick_b rfl rfl rfl, ?_⟩
        | refine ⟨_, pu_mul rfl rfl (by omega), ?_⟩
        | refine ⟨_, pu_build rfl rfl rfl rfl rfl rfl, ?_⟩))
    exact rr_int (sz1_neg (by omega)).symm
  · rw [sz1_pos (by omega)] at hb
    have hv := szTres_ac v.items ih (left - v.bytes.length) (by omega) (by omega) o3 o4
    by_cases h2 : left - v.bytes.length < ((v.items.length + (v.items.map Tre.total).sum : Nat) : Int)
    · rw [sz1_neg h2] at hv
      repeat' (first
        | refine RunsL.step tabOk hn rfl ?_
        | refine RunsL.nil ?_
        | refine Runs.toRegion 30 rfl ?_
        | (refine RunsL.pe hn rfl rfl rfl ?_; first
          | refine ⟨_, pu_callR hb rfl, ?_⟩
          | refine ⟨_, pu_callR hv rfl, ?_⟩)
        | (refine Runs.ctls 30 rfl ?_; first | refine Runs.cond_t rfl ?_ | refine Runs.cond_f rfl ?_ | ((first | refine Runs.cond_yes rfl ?_ ?_ | refine Runs.cond_nno rfl ?_ ?_); · first | omega | rfl | assumption | (simp only [List.length_map]; omega)) | ((first | refine Runs.cond_no rfl ?_ ?_ | refine Runs.cond_nyes rfl ?_ ?_); · first | omega | rfl | assumption | (simp only [List.length_map]; omega)) | refine Runs.cond_dec rfl (fun h => ?_) (fun h => ?_) | refine Runs.cond_ndec rfl (fun h => ?_) (fun h => ?_) | refine Runs.cond_nb rfl (fun h => ?_) (fun h => ?_) | refine Runs.cond_b rfl (fun h => ?_) (fun h => ?_) | refine Runs.ret (ends_ro hm rfl rfl ?_) | exact Runs.ret (ends_cellR hm rfl rfl rfl (Nat.le_of_ble_eq_true rfl) rfl rfl))
        | refine op_box rfl (tl hn rfl) ?_
        | refine op_storeF rfl rfl rfl rfl (Nat.le_of_ble_eq_true rfl) ?_
        | refine op_alloc (tl hn rfl) ?_
        | refine op_storeN rfl rfl rfl rfl (Nat.le_of_ble_eq_true rfl) ?_
        | (refine RunsL.pe hn rfl rfl rfl ?_; first
          | refine ⟨_, pu_add rfl rfl (by omega), ?_⟩
          | refine ⟨_, pu_indexAddr_map rfl rfl (by omega) (by assumption), ?_⟩
          | refine ⟨_, pu_sub rfl rfl (by omega), ?_⟩
          | refine ⟨_, pu_pick_b rfl rfl rfl, ?_⟩
          | refine ⟨_, pu_mul rfl rfl (by omega), ?_⟩
          | refine ⟨_, pu_build rfl rfl rfl rfl rfl rfl, ?_⟩))
      exact rr_int (sz1_neg (by omega)).symm
    · rw [sz1_pos (by omega)] at hv
      repeat' (first
        | refine RunsL.step tabOk hn rfl ?_
        | refine RunsL.nil ?_
        | refine Runs.toRegion 30 rfl ?_
        | (refine RunsL.pe hn rfl rfl rfl ?_; first
          | refine ⟨_, pu_callR hb rfl, ?_⟩
          | refine ⟨_, pu_callR hv rfl, ?_⟩)
        | (refine Runs.ctls 30 rfl ?_; first | refine Runs.cond_t rfl ?_ | refine Runs.cond_f rfl ?_ | ((first | refine Runs.cond_yes rfl ?_ ?_ | refine Runs.cond_nno rfl ?_ ?_); · first | omega | rfl | assumption | (simp only [List.length_map]; omega)) | ((first | refine Runs.cond_no rfl ?_ ?_ | refine Runs.cond_nyes rfl ?_ ?_); · first | omega | rfl | assumption | (simp only [List.length_map]; omega)) | refine Runs.cond_dec rfl (fun h => ?_) (fun h => ?_) | refine Runs.cond_ndec rfl (fun h => ?_) (fun h => ?_) | refine Runs.cond_nb rfl (fun h => ?_) (fun h => ?_) | refine Runs.cond_b rfl (fun h => ?_) (fun h => ?_) | refine Runs.ret (ends_ro hm rfl rfl ?_) | exact Runs.ret (ends_cellR hm rfl rfl rfl (Nat.le_of_ble_eq_true rfl) rfl rfl))
        | refine op_box rfl (tl hn rfl) ?_
        | refine op_storeF rfl rfl rfl rfl (Nat.le_of_ble_eq_true rfl) ?_
        | refine op_alloc (tl hn rfl) ?_
        | refine op_storeN rfl rfl rfl rfl (Nat.le_of_ble_eq_true rfl) ?_
        | (refine RunsL.pe hn rfl rfl rfl ?_; first
          | refine ⟨_, pu_add rfl rfl (by omega), ?_⟩
          | refine ⟨_, pu_indexAddr_map rfl rfl (by omega) (by assumption), ?_⟩
          | refine ⟨_, pu_sub rfl rfl (by omega), ?_⟩
          | refine ⟨_, pu_pick_b rfl rfl rfl, ?_⟩
          | refine ⟨_, pu_mul rfl rfl (by omega), ?_⟩
          | refine ⟨_, pu_build rfl rfl rfl rfl rfl rfl, ?_⟩))
      exact rr_int (by rw [sz1_pos (by omega)]; omega)
theorem toTres_ac (l : List Tre) (ih : ∀ x ∈ l, x.total ≤ 1048576 → ACv Try.prog 13 [treR x] (treR x)) (hl : l.length ≤ 1048576) (ht : (l.map Tre.total).sum ≤ 1048576) : ACv Try.prog 47 [tresR l] (tresR l) := by
  have hl' : (l.map Tre.cells).length = l.length := List.length_map ..
  refine ac_enter Try.func47 rfl _ Try.ntmps47 (by simp) fun C hn hm => ?_
  repeat' (first
    | refine RunsL.step tabOk hn rfl ?_
    | refine RunsL.nil ?_
    | refine Runs.toRegion 30 rfl ?_
    | refine op_makeN (zs := [.int .i64 0, .slice none 0 0, .slice none 0 0]) rfl rfl rfl rfl (by decide) rfl (by omega) (by unfold maxLen; omega) (tl hn rfl) ?_
    | (refine Runs.ctls 30 rfl ?_; first | refine Runs.cond_t rfl ?_ | refine Runs.cond_f rfl ?_ | ((first | refine Runs.cond_yes rfl ?_ ?_ | refine Runs.cond_nno rfl ?_ ?_); · first | omega | rfl | assumption | (simp only [List.length_map]; omega)) | ((first | refine Runs.cond_no rfl ?_ ?_ | refine Runs.cond_nyes rfl ?_ ?_); · first | omega | rfl | assumption | (simp only [List.length_map]; omega)) | refine Runs.cond_dec rfl (fun h => ?_) (fun h => ?_) | refine Runs.cond_ndec rfl (fun h => ?_) (fun h => ?_) | refine Runs.cond_nb rfl (fun h => ?_) (fun h => ?_) | refine Runs.cond_b rfl (fun h => ?_) (fun h => ?_) | refine Runs.ret (ends_ro hm rfl rfl ?_) | exact Runs.ret (ends_cellR hm rfl rfl rfl (Nat.le_of_ble_eq_true rfl) rfl rfl))
    | refine op_box rfl (tl hn rfl) ?_
    | refine op_storeF rfl rfl rfl rfl (Nat.le_of_ble_eq_true rfl) ?_
    | refine op_alloc (tl hn rfl) ?_
    | refine op_storeN rfl rfl rfl rfl (Nat.le_of_ble_eq_true rfl) ?_
    | (refine RunsL.pe hn rfl rfl rfl ?_; first
      | refine ⟨_, pu_add rfl rfl (by omega), ?_⟩
      | refine ⟨_, pu_indexAddr_map rfl rfl (by omega) (by assumption), ?_⟩
      | refine ⟨_, pu_sub rfl rfl (by omega), ?_⟩
      | refine ⟨_, pu_pick_b rfl rfl rfl, ?_⟩
      | refine ⟨_, pu_mul rfl rfl (by omega), ?_⟩
      | refine ⟨_, pu_build rfl rfl rfl rfl rfl rfl, ?_⟩))
  refine Runs.loopN 30 rfl (fun j => [(0, .ro (tresR l)), (3, .own 0), (4, .int (j : Int))]) (fun j => [⟨38, 3, (filled Tre.cells [.int 0, .nil, .nil] l j).map .ro⟩]) (fun _ => True) l.length 0 (Nat.zero_le _) trivial ⟨rfl, rfl, rfl, trivial⟩ (by rw [filled_zero, hl']; rfl) fun j hj _ next => ?_
  have hlen := filled_len Tre.cells_len (zc := [.int 0, .nil, .nil]) rfl l j hj
  by_cases hlt : j < l.length
  · obtain ⟨x, hx⟩ : ∃ x, l[(j : Int).toNat]? = some x := ⟨_, List.getElem?_eq_getElem hlt⟩
    have hm' := List.mem_of_getElem? hx
    have hcall := ih x hm' (Nat.le_trans (sum_mem_le Tre.total hm') ht)
    repeat' (first
      | refine RunsL.step tabOk hn rfl ?_
      | refine RunsL.nil ?_
      | refine Runs.toRegion 30 rfl ?_
      | refine op_storeN rfl rfl rfl rfl (by simp only [List.length_map, List.length_cons, List.length_nil]; omega) ?_
      | (refine RunsL.pe hn rfl rfl rfl ?_; first
        | refine ⟨_, pu_callR hcall rfl, ?_⟩
        | refine ⟨_, pu_loadN_eq rfl (Tre.cells_eq _) rfl, ?_⟩
        | refine ⟨_, pu_indexAddr_own (n := l.length) rfl rfl rfl rfl (by simp only [List.length_map]; omega) (by omega) (by omega), ?_⟩)
      | (refine Runs.ctls 30 rfl ?_; first | refine Runs.cond_t rfl ?_ | refine Runs.cond_f rfl ?_ | ((first | refine Runs.cond_yes rfl ?_ ?_ | refine Runs.cond_nno rfl ?_ ?_); · first | omega | rfl | assumption | (simp only [List.length_map]; omega)) | ((first | refine Runs.cond_no rfl ?_ ?_ | refine Runs.cond_nyes rfl ?_ ?_); · first | omega | rfl | assumption | (simp only [List.length_map]; omega)) | refine Runs.cond_dec rfl (fun h => ?_) (fun h => ?_) | refine Runs.cond_ndec rfl (fun h => ?_) (fun h => ?_) | refine Runs.cond_nb rfl (fun h => ?_) (fun h => ?_) | refine Runs.cond_b rfl (fun h => ?_) (fun h => ?_) | refine Runs.ret (ends_ro hm rfl rfl ?_) | exact Runs.ret (ends_cellR hm rfl rfl rfl (Nat.le_of_ble_eq_true rfl) rfl rfl))
      | refine op_box rfl (tl hn rfl) ?_
      | refine op_storeF rfl rfl rfl rfl (Nat.le_of_ble_eq_true rfl) ?_
      | refine op_alloc (tl hn rfl) ?_
      | refine op_storeN rfl rfl rfl rfl (Nat.le_of_ble_eq_true rfl) ?_
      | (refine RunsL.pe hn rfl rfl rfl ?_; first
        | refine ⟨_, pu_add rfl rfl (by omega), ?_⟩
        | refine ⟨_, pu_indexAddr_map rfl rfl (by omega) (by assumption), ?_⟩
        | refine ⟨_, pu_sub rfl rfl (by omega), ?_⟩
        | refine ⟨_, pu_pick_b rfl rfl rfl, ?_⟩
        | refine ⟨_, pu_mul rfl rfl (by omega), ?_⟩
        | refine ⟨_, pu_build rfl rfl rfl rfl rfl rfl, ?_⟩))
    refine next _ _ ⟨rfl, rfl, rfl, trivial⟩ hlt trivial ?_
    rw [← filled_set Tre.cells_len rfl l j x hx, Tre.cells_eq]
    rfl
  · obtain rfl : j = l.length := by omega
    repeat' (first
      | refine RunsL.step tabOk hn rfl ?_
      | refine RunsL.nil ?_
      | refine Runs.toRegion 30 rfl ?_
      | (refine Runs.ctls 30 rfl ?_; first | refine Runs.cond_t rfl ?_ | refine Runs.cond_f rfl ?_ | ((first | refine Runs.cond_yes rfl ?_ ?_ | refine Runs.cond_nno rfl ?_ ?_); · first | omega | rfl | assumption | (simp only [List.length_map]; omega)) | ((first | refine Runs.cond_no rfl ?_ ?_ | refine Runs.cond_nyes rfl ?_ ?_); · first | omega | rfl | assumption | (simp only [List.length_map]; omega)) | refine Runs.cond_dec rfl (fun h => ?_) (fun h => ?_) | refine Runs.cond_ndec rfl (fun h => ?_) (fun h => ?_) | refine Runs.cond_nb rfl (fun h => ?_) (fun h => ?_) | refine Runs.cond_b rfl (fun h => ?_) (fun h => ?_) | refine Runs.ret (ends_ro hm rfl rfl ?_) | exact Runs.ret (ends_cellR hm rfl rfl rfl (Nat.le_of_ble_eq_true rfl) rfl rfl))
      | refine op_box rfl (tl hn rfl) ?_
      | refine op_storeF rfl rfl rfl rfl (Nat.le_of_ble_eq_true rfl) ?_
      | refine op_alloc (tl hn rfl) ?_
      | refine op_storeN rfl rfl rfl rfl (Nat.le_of_ble_eq_true rfl) ?_
      | (refine RunsL.pe hn rfl rfl rfl ?_; first
        | refine ⟨_, pu_add rfl rfl (by omega), ?_⟩
        | refine ⟨_, pu_indexAddr_map rfl rfl (by omega) (by assumption), ?_⟩
        | refine ⟨_, pu_sub rfl rfl (by omega), ?_⟩
        | refine ⟨_, pu_pick_b rfl rfl rfl, ?_⟩
        | refine ⟨_, pu_mul rfl rfl (by omega), ?_⟩
        | refine ⟨_, pu_build rfl rfl rfl rfl rfl rfl, ?_⟩))
    exact Runs.ctls 30 rfl (Runs.ret (ends_ownR (els := l.map Tre.cells) hm rfl rfl rfl rfl (by rw [filled_full]) (by simp [Tre.cells_len])))
theorem toTre_ac : ∀ v : Tre, v.total ≤ 1048576 → ACv Try.prog 13 [treR v] (treR v) := by
  refine Tre.ind fun v ih ht => ?_
  have he := v.total_eq
  have hb := toBytes_ac v.bytes (by omega)
  have hi := toTres_ac v.items ih (by omega) (by omega)
  refine ac_enter Try.func13 rfl _ Try.ntmps13 (by simp) fun C hn hm => ?_
  repeat' (first
    | refine RunsL.step tabOk hn rfl ?_
    | refine RunsL.nil ?_
    | refine Runs.toRegion 30 rfl ?_
    | (refine RunsL.pe hn rfl rfl rfl ?_; first
      | refine ⟨_, pu_callR hb rfl, ?_⟩
      | refine ⟨_, pu_callR hi rfl, ?_⟩)
    | (refine Runs.ctls 30 rfl ?_; first | refine Runs.cond_t rfl ?_ | refine Runs.cond_f rfl ?_ | ((first | refine Runs.cond_yes rfl ?_ ?_ | refine Runs.cond_nno rfl ?_ ?_); · first | omega | rfl | assumption | (simp only [List.length_map]; omega)) | ((first | refine Runs.cond_no rfl ?_ ?_ | refine Runs.cond_nyes rfl ?_ ?_); · first | omega | rfl | assumption | (simp only [List.length_map]; omega)) | refine Runs.cond_dec rfl (fun h => ?_) (fun h => ?_) | refine Runs.cond_ndec rfl (fun h => ?_) (fun h => ?_) | refine Runs.cond_nb rfl (fun h => ?_) (fun h => ?_) | refine Runs.cond_b rfl (fun h => ?_) (fun h => ?_) | refine Runs.ret (ends_ro hm rfl rfl ?_) | exact Runs.ret (ends_cellR hm rfl rfl rfl (Nat.le_of_ble_eq_true rfl) rfl rfl))
    | refine op_box rfl (tl hn rfl) ?_
    | refine op_storeF rfl rfl rfl rfl (Nat.le_of_ble_eq_true rfl) ?_
    | refine op_alloc (tl hn rfl) ?_
    | refine op_storeN rfl rfl rfl rfl (Nat.le_of_ble_eq_true rfl) ?_
    | (refine RunsL.pe hn rfl rfl rfl ?_; first
      | refine ⟨_, pu_add rfl rfl (by omega), ?_⟩
      | refine ⟨_, pu_indexAddr_map rfl rfl (by omega) (by assumption), ?_⟩
      | refine ⟨_, pu_sub rfl rfl (by omega), ?_⟩
      | refine ⟨_, pu_pick_b rfl rfl rfl, ?_⟩
      | refine ⟨_, pu_mul rfl rfl (by omega), ?_⟩
      | refine ⟨_, pu_build rfl rfl rfl rfl rfl rfl, ?_⟩))
theorem eqTres_ac (l : List Tre) (ih : ∀ x ∈ l, x.Ok → ACv Try.prog 16 [treR x, treR x] (.bool true)) (hl : l.length ≤ maxLen) (ho : ∀ x ∈ l, x.Ok) : ACv Try.prog 52 [tresR l, tresR l] (.bool true) := by
  unfold maxLen at hl
  refine ac_enter Try.func52 rfl _ Try.ntmps52 (by simp) fun C hn hm => ?_
  repeat' (first
    | refine RunsL.step tabOk hn rfl ?_
    | refine RunsL.nil ?_
    | refine Runs.toRegion 30 rfl ?_
    | (refine Runs.ctls 30 rfl ?_; first | refine Runs.cond_t rfl ?_ | refine Runs.cond_f rfl ?_ | ((first | refine Runs.cond_yes rfl ?_ ?_ | refine Runs.cond_nno rfl ?_ ?_); · first | omega | rfl | assumption | (simp only [List.length_map]; omega)) | ((first | refine Runs.cond_no rfl ?_ ?_ | refine Runs.cond_nyes rfl ?_ ?_); · first | omega | rfl | assumption | (simp only [List.length_map]; omega)) | refine Runs.cond_dec rfl (fun h => ?_) (fun h => ?_) | refine Runs.cond_ndec rfl (fun h => ?_) (fun h => ?_) | refine Runs.cond_nb rfl (fun h => ?_) (fun h => ?_) | refine Runs.cond_b rfl (fun h => ?_) (fun h => ?_) | refine Runs.ret (ends_ro hm rfl rfl ?_) | exact Runs.ret (ends_cellR hm rfl rfl rfl (Nat.le_of_ble_eq_true rfl) rfl rfl))
    | refine op_box rfl (tl hn rfl) ?_
    | refine op_storeF rfl rfl rfl rfl (Nat.le_of_ble_eq_true rfl) ?_
    | refine op_alloc (tl hn rfl) ?_
    | refine op_storeN rfl rfl rfl rfl (Nat.le_of_ble_eq_true rfl) ?_
    | refine RunsD.step tabOk hn rfl rfl ?_
    | refine RunsD.nil ?_
    | refine Runs.toDraw 30 mixed hn rfl (by kernel_rfl) rfl ?_
    | ((first | refine RunsL.pe hn rfl rfl rfl ?_ | refine RunsD.pe rfl rfl ?_); first
      | refine ⟨_, pu_add rfl rfl (by omega), ?_⟩
      | refine ⟨_, pu_indexAddr_map rfl rfl (by omega) (by assumption), ?_⟩
      | refine ⟨_, pu_sub rfl rfl (by omega), ?_⟩
      | refine ⟨_, pu_pick_b rfl rfl rfl, ?_⟩
      | refine ⟨_, pu_mul rfl rfl (by omega), ?_⟩
      | refine ⟨_, pu_build rfl rfl rfl rfl rfl rfl, ?_⟩))
  refine Runs.loopN 30 rfl (fun j => [(0, .ro (tresR l)), (1, .ro (tresR l)), (5, .int (j : Int))]) (fun _ => []) (fun _ => True) l.length 0 (Nat.zero_le _) trivial ⟨rfl, rfl, rfl, trivial⟩ rfl fun j hj _ next => ?_
  by_cases hlt : j < l.length
  · obtain ⟨x, hx⟩ : ∃ x, l[(j : Int).toNat]? = some x := ⟨_, List.getElem?_eq_getElem hlt⟩
    have hm' := List.mem_of_getElem? hx
    have hcall := ih x hm' (ho x hm')
    repeat' (first
      | refine RunsL.step tabOk hn rfl ?_
      | refine RunsL.nil ?_
      | refine Runs.toRegion 30 rfl ?_
      | ((first | refine RunsL.pe hn rfl rfl rfl ?_ | refine RunsD.pe rfl rfl ?_); first
        | refine ⟨_, pu_callR hcall rfl, ?_⟩
        | refine ⟨_, pu_loadN_eq rfl (Tre.cells_eq _) rfl, ?_⟩)
      | (refine Runs.ctls 30 rfl ?_; first | refine Runs.cond_t rfl ?_ | refine Runs.cond_f rfl ?_ | ((first | refine Runs.cond_yes rfl ?_ ?_ | refine Runs.cond_nno rfl ?_ ?_); · first | omega | rfl | assumption | (simp only [List.length_map]; omega)) | ((first | refine Runs.cond_no rfl ?_ ?_ | refine Runs.cond_nyes rfl ?_ ?_); · first | omega | rfl | assumption | (simp only [List.length_map]; omega)) | refine Runs.cond_dec rfl (fun h => ?_) (fun h => ?_) | refine Runs.cond_ndec rfl (fun h => ?_) (fun h => ?_) | refine Runs.cond_nb rfl (fun h => ?_) (fun h => ?_) | refine Runs.cond_b rfl (fun h => ?_) (fun h => ?_) | refine Runs.ret (ends_ro hm rfl rfl ?_) | exact Runs.ret (ends_cellR hm rfl rfl rfl (Nat.le_of_ble_eq_true rfl) rfl rfl))
      | refine op_box rfl (tl hn rfl) ?_
      | refine op_storeF rfl rfl rfl rfl (Nat.le_of_ble_eq_true rfl) ?_
      | refine op_alloc (tl hn rfl) ?_
      | refine op_storeN rfl rfl rfl rfl (Nat.le_of_ble_eq_true rfl) ?_
      | refine RunsD.step tabOk hn rfl rfl ?_
      | refine RunsD.nil ?_
      | refine Runs.toDraw 30 mixed hn rfl (by kernel_rfl) rfl ?_
      | ((first | refine RunsL.pe hn rfl rfl rfl ?_ | refine RunsD.pe rfl rfl ?_); first
        | refine ⟨_, pu_add rfl rfl (by omega), ?_⟩
        | refine ⟨_, pu_indexAddr_map rfl rfl (by omega) (by assumption), ?_⟩
        | refine ⟨_, pu_sub rfl rfl (by omega), ?_⟩
        | refine ⟨_, pu_pick_b rfl rfl rfl, ?_⟩
        | refine ⟨_, pu_mul rfl rfl (by omega), ?_⟩
        | refine ⟨_, pu_build rfl rfl rfl rfl rfl rfl, ?_⟩))
    exact next _ _ ⟨rfl, rfl, rfl, trivial⟩ hlt trivial rfl
  · repeat' (first
    | refine RunsL.step tabOk hn rfl ?_
    | refine RunsL.nil ?_
    | refine Runs.toRegion 30 rfl ?_
    | (refine Runs.ctls 30 rfl ?_; first | refine Runs.cond_t rfl ?_ | refine Runs.cond_f rfl ?_ | ((first | refine Runs.cond_yes rfl ?_ ?_ | refine Runs.cond_nno rfl ?_ ?_); · first | omega | rfl | assumption | (simp only [List.length_map]; omega)) | ((first | refine Runs.cond_no rfl ?_ ?_ | refine Runs.cond_nyes rfl ?_ ?_); · first | omega | rfl | assumption | (simp only [List.length_map]; omega)) | refine Runs.cond_dec rfl (fun h => ?_) (fun h => ?_) | refine Runs.cond_ndec rfl (fun h => ?_) (fun h => ?_) | refine Runs.cond_nb rfl (fun h => ?_) (fun h => ?_) | refine Runs.cond_b rfl (fun h => ?_) (fun h => ?_) | refine Runs.ret (ends_ro hm rfl rfl ?_) | exact Runs.ret (ends_cellR hm rfl rfl rfl (Nat.le_of_ble_eq_true rfl) rfl rfl))
    | refine op_box rfl (tl hn rfl) ?_
    | refine op_storeF rfl rfl rfl rfl (Nat.le_of_ble_eq_true rfl) ?_
    | refine op_alloc (tl hn rfl) ?_
    | refine op_storeN rfl rfl rfl rfl (Nat.le_of_ble_eq_true rfl) ?_
    | refine RunsD.step tabOk hn rfl rfl ?_
    | refine RunsD.nil ?_
    | refine Runs.toDraw 30 mixed hn rfl (by kernel_rfl) rfl ?_
    | ((first | refine RunsL.pe hn rfl rfl rfl ?_ | refine RunsD.pe rfl rfl ?_); first
      | refine ⟨_, pu_add rfl rfl (by omega), ?_⟩
      | refine ⟨_, pu_indexAddr_map rfl rfl (by omega) (by assumption), ?_⟩
      | refine ⟨_, pu_sub rfl rfl (by omega), ?_⟩
      | refine ⟨_, pu_pick_b rfl rfl rfl, ?_⟩
      | refine ⟨_, pu_mul rfl rfl (by omega), ?_⟩
      | refine ⟨_, pu_build rfl rfl rfl rfl rfl rfl, ?_⟩))
    exact rr_bool rfl
theorem eqTre_ac : ∀ v : Tre, v.Ok → ACv Try.prog 16 [treR v, treR v] (.bool true) := by
  refine Tre.ind fun v ih ho => ?_
  obtain ⟨o1, o2, o3, o4⟩ := ho.out
  have hb := eqBytes_ac v.bytes o2
  have hi := eqTres_ac v.items ih o3 o4
  refine ac_enter Try.func16 rfl _ Try.ntmps16 (by simp) fun C hn hm => ?_
  repeat' (first
    | refine RunsL.step tabOk hn rfl ?_
    | refine RunsL.nil ?_
    | refine Runs.toRegion 30 rfl ?_
    | (refine RunsL.pe hn rfl rfl rfl ?_; first
      | refine ⟨_, pu_callR hb rfl, ?_⟩
      | refine ⟨_, pu_callR hi rfl, ?_⟩)
    | (refine Runs.ctls 30 rfl ?_; first | refine Runs.cond_t rfl ?_ | refine Runs.cond_f rfl ?_ | ((first | refine Runs.cond_yes rfl ?_ ?_ | refine Runs.cond_nno rfl ?_ ?_); · first | omega | rfl | assumption | (simp only [List.length_map]; omega)) | ((first | refine Runs.cond_no rfl ?_ ?_ | refine Runs.cond_nyes rfl ?_ ?_); · first | omega | rfl | assumption | (simp only [List.length_map]; omega)) | refine Runs.cond_dec rfl (fun h => ?_) (fun h => ?_) | refine Runs.cond_ndec rfl (fun h => ?_) (fun h => ?_) | refine Runs.cond_nb rfl (fun h => ?_) (fun h => ?_) | refine Runs.cond_b rfl (fun h => ?_) (fun h => ?_) | refine Runs.ret (ends_ro hm rfl rfl ?_) | exact Runs.ret (ends_cellR hm rfl rfl rfl (Nat.le_of_ble_eq_true rfl) rfl rfl))
    | refine op_box rfl (tl hn rfl) ?_
    | refine op_storeF rfl rfl rfl rfl (Nat.le_of_ble_eq_true rfl) ?_
    | refine op_alloc (tl hn rfl) ?_
    | refine op_storeN rfl rfl rfl rfl (Nat.le_of_ble_eq_true rfl) ?_
    | (refine RunsL.pe hn rfl rfl rfl ?_; first
      | refine ⟨_, pu_add rfl rfl (by omega), ?_⟩
      | refine ⟨_, pu_indexAddr_map rfl rfl (by omega) (by assumption), ?_⟩
      | refine ⟨_, pu_sub rfl rfl (by omega), ?_⟩
      | refine ⟨_, pu_pick_b rfl rfl rfl, ?_⟩
      | refine ⟨_, pu_mul rfl rfl (by omega), ?_⟩
      | refine ⟨_, pu_build rfl rfl rfl rfl rfl rfl, ?_⟩))
  exact rr_bool rfl
noncomputable instance : DecidableEq Tre := fun a b => Classical.propDecidable _
theorem tre_eq (a b : Tre) : a = b ↔ a.number = b.number ∧ a.bytes = b.bytes ∧ a.items = b.items := by
  cases a; cases b; simp [Tre.number, Tre.bytes, Tre.items]
end Go.Proofs.Ytignpklaefibaaa
/- The rule of an item of a value: both sides. -/
namespace Go.Proofs.Ytignpklaefibaaa
set_option linter.unusedSimpArgs false
set_option linter.unusedVariables false
open Go.RowKit
/-- Where a number stands among tags. -/
def tagIx : List Int → Int → Nat
  | [], _ => 0
  | t :: ts, n => if t = n then 0 else tagIx ts n + 1
theorem tagIx_hit {n : Int} : ∀ {l : List Int} {j : Nat}, l[j]? = some n → (∀ (k : Nat) t, k < j → l[k]? = some t → t ≠ n) → tagIx l n = j
  | [], j, h, _ => by simp at h
  | t :: ts, 0, h, _ => by
    simp at h
    rw [tagIx, if_pos h]
  | t :: ts, j + 1, h, hn => by
    rw [tagIx, if_neg (hn 0 t (by omega) (by simp)), tagIx_hit (l := ts) (j := j) (by simpa using h) fun k u hk hu => hn (k + 1) u (by omega) (by simpa using hu)]
theorem tagIx_none {n : Int} : ∀ {l : List Int}, (∀ (k : Nat) t, l[k]? = some t → t ≠ n) → tagIx l n = l.length
  | [], _ => rfl
  | t :: ts, hn => by
    rw [tagIx, if_neg (hn 0 t (by simp)), tagIx_none (l := ts) fun k u hu => hn (k + 1) u (by simpa using hu)]
    rfl
theorem tagIx_le {n : Int} : ∀ {l : List Int}, tagIx l n ≤ l.length
  | [] => Nat.le_refl _
  | t :: ts => by
    have := tagIx_le (n := n) (l := ts)
    rw [tagIx]
    split <;> simp only [List.length_cons] <;> omega
theorem tagIx_at {n : Int} : ∀ {l : List Int}, tagIx l n < l.length → l[tagIx l n]? = some n
  | [], h => by simp [tagIx] at h
  | t :: ts, h => by
    rw [tagIx] at h ⊢
    by_cases e : t = n
    · rw [if_pos e, e]; simp
    · rw [if_neg e] at h ⊢
      rw [List.length_cons] at h
      simpa using tagIx_at (n := n) (l := ts) (by omega)
/-- The rule of item i of a value that says n, of rule r. -/
def itemR (r : Rul) (n i : Int) : Int :=
  if r.kind = 5 then (r.kids[1]?).getD (-1)
  else if r.kind = 6 then (r.kids[i.toNat]?).getD (-1)
  else if r.kind = 7 then (r.kids[tagIx r.tags n + 1]?).getD (-1)
  else if r.kind = 8 ∨ r.kind = 9 then (r.kids[0]?).getD (-1)
  else -1
theorem item_fields {d : Des} {x : Rul} (hk : KindOk d x) : (x.kind = 5 → x.kids.length = 2) ∧ (x.kind = 7 → TagsOk d x) ∧ (x.kind = 8 ∨ x.kind = 9 → x.kids.length = 1) ∧ (x.kind = 4 → x.kids.length = 1) := by
  unfold KindOk at hk
  refine ⟨fun e => ?_, fun e => ?_, fun e => ?_, fun e => ?_⟩
  · rcases hk with hk | hk | hk | hk | hk | hk | hk | hk | hk
    all_goals first | omega | (have := hk.2.1.kids (by omega); omega)
  · rcases hk with hk | hk | hk | hk | hk | hk | hk | hk | hk
    all_goals first | omega | exact hk.2.2
  · rcases hk with hk | hk | hk | hk | hk | hk | hk | hk | hk
    all_goals first | omega | (have := hk.2.kids (by omega); omega)
  · rcases hk with hk | hk | hk | hk | hk | hk | hk | hk | hk
    all_goals first | omega | (have := hk.2.1.kids (by omega); omega)
theorem kind_at {d : Des} (hG : Good' d) {r : Nat} {x : Rul} (h : d[r]? = some x) : KindOk d x := by
  have hi := (List.getElem?_eq_some_iff.1 h).1
  obtain ⟨_, x', h1, h2⟩ := hG.2.2 r hi
  rw [show ((r : Nat) : Int).toNat = r by rfl, h] at h1; injection h1 with h1; subst h1
  exact h2.2.2.2
theorem kids_at {d : Des} (hG : Good' d) {r : Nat} {x : Rul} (h : d[r]? = some x) {k : Nat} {z : Int} (hz : x.kids[k]? = some z) : 0 ≤ z ∧ z < r := by
  have hi := (List.getElem?_eq_some_iff.1 h).1
  obtain ⟨_, x', h1, h2⟩ := hG.2.2 r hi
  rw [show ((r : Nat) : Int).toNat = r by rfl, h] at h1; injection h1 with h1; subst h1
  simpa using h2.2.1 k z hz
/-- The rule of an item is a rule before this one, or none. -/
theorem itemR_lt {d : Des} (hG : Good' d) {r : Nat} {x : Rul} (h : d[r]? = some x) (n i : Int) : itemR x n i = -1 ∨ (0 ≤ itemR x n i ∧ itemR x n i < r) := by
  have key : ∀ k : Nat, (x.kids[k]?).getD (-1) = -1 ∨ (0 ≤ (x.kids[k]?).getD (-1) ∧ (x.kids[k]?).getD (-1) < r) := fun k => by
    cases hz : x.kids[k]? with
    | none => exact .inl rfl
    | some z => exact .inr (kids_at hG h hz)
  unfold itemR
  split
  · exact key _
  split
  · exact key _
  split
  · exact key _
  split
  · exact key _
  · exact .inl rfl
theorem getD_some {l : List Int} {k : Nat} {c : Int} (h : l[k]? = some c) : (l[k]?).getD (-1) = c := by rw [h]; rfl
theorem getD_none {l : List Int} {k : Nat} (h : l.length ≤ k) : (l[k]?).getD (-1) = -1 := by rw [List.getElem?_eq_none h]; rfl
set_option maxHeartbeats 4000000 in
theorem l9Item_ac {d : Des} {x : Rul} (hk : KindOk d x) (n i : Int) (h0 : 0 ≤ i) : ACv Try.prog 44 [.agg (rulR x), .int n, .int i] (.int (itemR x n i)) := by
  obtain ⟨f5, f7, f8, _⟩ := item_fields hk
  have hlk : (x.kids.map fun z => [RV.int z]).length = x.kids.length := List.length_map ..
  have hlt' : (x.tags.map fun z => [RV.int z]).length = x.tags.length := List.length_map ..
  refine ac_enter Try.func44 rfl _ Try.ntmps44 (by simp) fun C hn hm => ?_
  by_cases k5 : x.kind = 5
  · have hc : x.kids[(1 : Int).toNat]? = some _ := List.getElem?_eq_getElem (by have := f5 k5; simp; omega)
    repeat' (first
      | refine RunsL.step tabOk hn rfl ?_
      | refine RunsL.nil ?_
      | refine Runs.toRegion 30 rfl ?_
      | (refine Runs.ctls 30 rfl ?_; first | refine Runs.cond_t rfl ?_ | refine Runs.cond_f rfl ?_ | ((first | refine Runs.cond_yes rfl ?_ ?_ | refine Runs.cond_nno rfl ?_ ?_); · first | omega | rfl | assumption | (simp only [List.length_map]; omega)) | ((first | refine Runs.cond_no rfl ?_ ?_ | refine Runs.cond_nyes rfl ?_ ?_); · first | omega | rfl | assumption | (simp only [List.length_map]; omega)) | refine Runs.cond_dec rfl (fun h => ?_) (fun h => ?_) | refine Runs.cond_ndec rfl (fun h => ?_) (fun h => ?_) | refine Runs.cond_nb rfl (fun h => ?_) (fun h => ?_) | refine Runs.cond_b rfl (fun h => ?_) (fun h => ?_) | refine Runs.ret (ends_ro hm rfl rfl ?_) | exact Runs.ret (ends_cellR hm rfl rfl rfl (Nat.le_of_ble_eq_true rfl) rfl rfl))
      | refine op_box rfl (tl hn rfl) ?_
      | refine op_storeF rfl rfl rfl rfl (Nat.le_of_ble_eq_true rfl) ?_
      | refine op_alloc (tl hn rfl) ?_
      | refine op_storeN rfl rfl rfl rfl (Nat.le_of_ble_eq_true rfl) ?_
      | (refine RunsL.pe hn rfl rfl rfl ?_; first
        | refine ⟨_, pu_add rfl rfl (by omega), ?_⟩
        | refine ⟨_, pu_indexAddr_map rfl rfl (by omega) (by assumption), ?_⟩
        | refine ⟨_, pu_sub rfl rfl (by omega), ?_⟩
        | refine ⟨_, pu_pick_b rfl rfl rfl, ?_⟩
        | refine ⟨_, pu_mul rfl rfl (by omega), ?_⟩
        | refine ⟨_, pu_build rfl rfl rfl rfl rfl rfl, ?_⟩))
    exact rr_int (by unfold itemR; rw [if_pos k5]; exact (getD_some hc).symm)
  by_cases k6 : x.kind = 6
  · by_cases hi : i < x.kids.length
    · have hc : x.kids[i.toNat]? = some _ := List.getElem?_eq_getElem (by omega)
      repeat' (first
        | refine RunsL.step tabOk hn rfl ?_
        | refine RunsL.nil ?_
        | refine Runs.toRegion 30 rfl ?_
        | (refine Runs.ctls 30 rfl ?_; first | refine Runs.cond_t rfl ?_ | refine Runs.cond_f rfl ?_ | ((first | refine Runs.cond_yes rfl ?_ ?_ | refine Runs.cond_nno rfl ?_ ?_); · first | omega | rfl | assumption | (simp only [List.length_map]; omega)) | ((first | refine Runs.cond_no rfl ?_ ?_ | refine Runs.cond_nyes rfl ?_ ?_); · first | omega | rfl | assumption | (simp only [List.length_map]; omega)) | refine Runs.cond_dec rfl (fun h => ?_) (fun h => ?_) | refine Runs.cond_ndec rfl (fun h => ?_) (fun h => ?_) | refine Runs.cond_nb rfl (fun h => ?_) (fun h => ?_) | refine Runs.cond_b rfl (fun h => ?_) (fun h => ?_) | refine Runs.ret (ends_ro hm rfl rfl ?_) | exact Runs.ret (ends_cellR hm rfl rfl rfl (Nat.le_of_ble_eq_true rfl) rfl rfl))
        | refine op_box rfl (tl hn rfl) ?_
        | refine op_storeF rfl rfl rfl rfl (Nat.le_of_ble_eq_true rfl) ?_
        | refine op_alloc (tl hn rfl) ?_
        | refine op_storeN rfl rfl rfl rfl (Nat.le_of_ble_eq_true rfl) ?_
        | (refine RunsL.pe hn rfl rfl rfl ?_; first
          | refine ⟨_, pu_add rfl rfl (by omega), ?_⟩
          | refine ⟨_, pu_indexAddr_map rfl rfl (by omega) (by assumption), ?_⟩
          | refine ⟨_, pu_sub rfl rfl (by omega), ?_⟩
          | refine ⟨_, pu_pick_b rfl rfl rfl, ?_⟩
          | refine ⟨_, pu_mul rfl rfl (by omega), ?_⟩
          | refine ⟨_, pu_build rfl rfl rfl rfl rfl rfl, ?_⟩))
      exact rr_int (by unfold itemR; rw [if_neg k5, if_pos k6]; exact (getD_some hc).symm)
    · repeat' (first
      | refine RunsL.step tabOk hn rfl ?_
      | refine RunsL.nil ?_
      | refine Runs.toRegion 30 rfl ?_
      | (refine Runs.ctls 30 rfl ?_; first | refine Runs.cond_t rfl ?_ | refine Runs.cond_f rfl ?_ | ((first | refine Runs.cond_yes rfl ?_ ?_ | refine Runs.cond_nno rfl ?_ ?_); · first | omega | rfl | assumption | (simp only [List.length_map]; omega)) | ((first | refine Runs.cond_no rfl ?_ ?_ | refine Runs.cond_nyes rfl ?_ ?_); · first | omega | rfl | assumption | (simp only [List.length_map]; omega)) | refine Runs.cond_dec rfl (fun h => ?_) (fun h => ?_) | refine Runs.cond_ndec rfl (fun h => ?_) (fun h => ?_) | refine Runs.cond_nb rfl (fun h => ?_) (fun h => ?_) | refine Runs.cond_b rfl (fun h => ?_) (fun h => ?_) | refine Runs.ret (ends_ro hm rfl rfl ?_) | exact Runs.ret (ends_cellR hm rfl rfl rfl (Nat.le_of_ble_eq_true rfl) rfl rfl))
      | refine op_box rfl (tl hn rfl) ?_
      | refine op_storeF rfl rfl rfl rfl (Nat.le_of_ble_eq_true rfl) ?_
      | refine op_alloc (tl hn rfl) ?_
      | refine op_storeN rfl rfl rfl rfl (Nat.le_of_ble_eq_true rfl) ?_
      | (refine RunsL.pe hn rfl rfl rfl ?_; first
        | refine ⟨_, pu_add rfl rfl (by omega), ?_⟩
        | refine ⟨_, pu_indexAddr_map rfl rfl (by omega) (by assumption), ?_⟩
        | refine ⟨_, pu_sub rfl rfl (by omega), ?_⟩
        | refine ⟨_, pu_pick_b rfl rfl rfl, ?_⟩
        | refine ⟨_, pu_mul rfl rfl (by omega), ?_⟩
        | refine ⟨_, pu_build rfl rfl rfl rfl rfl rfl, ?_⟩))
      exact rr_int (by unfold itemR; rw [if_neg k5, if_pos k6]; exact (getD_none (by omega)).symm)
  by_cases k7 : x.kind = 7
  · obtain ⟨hkl, ht1, ht8, _⟩ := f7 k7
    repeat' (first
      | refine RunsL.step tabOk hn rfl ?_
      | refine RunsL.nil ?_
      | refine Runs.toRegion 30 rfl ?_
      | (refine Runs.ctls 30 rfl ?_; first | refine Runs.cond_t rfl ?_ | refine Runs.cond_f rfl ?_ | ((first | refine Runs.cond_yes rfl ?_ ?_ | refine Runs.cond_nno rfl ?_ ?_); · first | omega | rfl | assumption | (simp only [List.length_map]; omega)) | ((first | refine Runs.cond_no rfl ?_ ?_ | refine Runs.cond_nyes rfl ?_ ?_); · first | omega | rfl | assumption | (simp only [List.length_map]; omega)) | refine Runs.cond_dec rfl (fun h => ?_) (fun h => ?_) | refine Runs.cond_ndec rfl (fun h => ?_) (fun h => ?_) | refine Runs.cond_nb rfl (fun h => ?_) (fun h => ?_) | refine Runs.cond_b rfl (fun h => ?_) (fun h => ?_) | refine Runs.ret (ends_ro hm rfl rfl ?_) | exact Runs.ret (ends_cellR hm rfl rfl rfl (Nat.le_of_ble_eq_true rfl) rfl rfl))
      | refine op_box rfl (tl hn rfl) ?_
      | refine op_storeF rfl rfl rfl rfl (Nat.le_of_ble_eq_true rfl) ?_
      | refine op_alloc (tl hn rfl) ?_
      | refine op_storeN rfl rfl rfl rfl (Nat.le_of_ble_eq_true rfl) ?_
      | (refine RunsL.pe hn rfl rfl rfl ?_; first
        | refine ⟨_, pu_add rfl rfl (by omega), ?_⟩
        | refine ⟨_, pu_indexAddr_map rfl rfl (by omega) (by assumption), ?_⟩
        | refine ⟨_, pu_sub rfl rfl (by omega), ?_⟩
        | refine ⟨_, pu_pick_b rfl rfl rfl, ?_⟩
        | refine ⟨_, pu_mul rfl rfl (by omega), ?_⟩
        | refine ⟨_, pu_build rfl rfl rfl rfl rfl rfl, ?_⟩))
    refine Runs.loopN 30 rfl (fun j => [(1, .int n), (3, .obj 0 0), (7, .int (j : Int))]) (fun _ => [⟨73, 0, [.str x.name, .int x.kind, .int x.size, .bool x.little, .ro (bytesR x.bytes), .ro (strsR x.names), .ro (intsR x.tags), .ro (intsR x.kids)]⟩]) (fun j => ∀ (k : Nat) t, k < j → x.tags[k]? = some t → t ≠ n) x.tags.length 0 (Nat.zero_le _) (fun k t h => absurd h (by omega)) ⟨rfl, rfl, rfl, trivial⟩ rfl fun j hj hQ next => ?_
    by_cases hlt : j < x.tags.length
    · obtain ⟨t, ht⟩ : ∃ t, x.tags[(j : Int).toNat]? = some t := ⟨_, List.getElem?_eq_getElem hlt⟩
      have ht' : x.tags[j]? = some t := ht
      have hc : x.kids[((j : Int) + 1).toNat]? = some _ := List.getElem?_eq_getElem (by omega)
      by_cases he : t = n
      · subst he
        repeat' (first
          | refine RunsL.step tabOk hn rfl ?_
          | refine RunsL.nil ?_
          | refine Runs.toRegion 30 rfl ?_
          | (refine Runs.ctls 30 rfl ?_; first | refine Runs.cond_t rfl ?_ | refine Runs.cond_f rfl ?_ | ((first | refine Runs.cond_yes rfl ?_ ?_ | refine Runs.cond_nno rfl ?_ ?_); · first | omega | rfl | assumption | (simp only [List.length_map]; omega)) | ((first | refine Runs.cond_no rfl ?_ ?_ | refine Runs.cond_nyes rfl ?_ ?_); · first | omega | rfl | assumption | (simp only [List.length_map]; omega)) | refine Runs.cond_dec rfl (fun h => ?_) (fun h => ?_) | refine Runs.cond_ndec rfl (fun h => ?_) (fun h => ?_) | refine Runs.cond_nb rfl (fun h => ?_) (fun h => ?_) | refine Runs.cond_b rfl (fun h => ?_) (fun h => ?_) | refine Runs.ret (ends_ro hm rfl rfl ?_) | exact Runs.ret (ends_cellR hm rfl rfl rfl (Nat.le_of_ble_eq_true rfl) rfl rfl))
          | refine op_box rfl (tl hn rfl) ?_
          | refine op_storeF rfl rfl rfl rfl (Nat.le_of_ble_eq_true rfl) ?_
          | refine op_alloc (tl hn rfl) ?_
          | refine op_storeN rfl rfl rfl rfl (Nat.le_of_ble_eq_true rfl) ?_
          | (refine RunsL.pe hn rfl rfl rfl ?_; first
            | refine ⟨_, pu_add rfl rfl (by omega), ?_⟩
            | refine ⟨_, pu_indexAddr_map rfl rfl (by omega) (by assumption), ?_⟩
            | refine ⟨_, pu_sub rfl rfl (by omega), ?_⟩
            | refine ⟨_, pu_pick_b rfl rfl rfl, ?_⟩
            | refine ⟨_, pu_mul rfl rfl (by omega), ?_⟩
            | refine ⟨_, pu_build rfl rfl rfl rfl rfl rfl, ?_⟩))
        exact rr_int (by unfold itemR; rw [if_neg k5, if_neg k6, if_pos k7, tagIx_hit ht' hQ]; exact (getD_some hc).symm)
      · repeat' (first
        | refine RunsL.step tabOk hn rfl ?_
        | refine RunsL.nil ?_
        | refine Runs.toRegion 30 rfl ?_
        | (refine Runs.ctls 30 rfl ?_; first | refine Runs.cond_t rfl ?_ | refine Runs.cond_f rfl ?_ | ((first | refine Runs.cond_yes rfl ?_ ?_ | refine Runs.cond_nno rfl ?_ ?_); · first | omega | rfl | assumption | (simp only [List.length_map]; omega)) | ((first | refine Runs.cond_no rfl ?_ ?_ | refine Runs.cond_nyes rfl ?_ ?_); · first | omega | rfl | assumption | (simp only [List.length_map]; omega)) | refine Runs.cond_dec rfl (fun h => ?_) (fun h => ?_) | refine Runs.cond_ndec rfl (fun h => ?_) (fun h => ?_) | refine Runs.cond_nb rfl (fun h => ?_) (fun h => ?_) | refine Runs.cond_b rfl (fun h => ?_) (fun h => ?_) | refine Runs.ret (ends_ro hm rfl rfl ?_) | exact Runs.ret (ends_cellR hm rfl rfl rfl (Nat.le_of_ble_eq_true rfl) rfl rfl))
        | refine op_box rfl (tl hn rfl) ?_
        | refine op_storeF rfl rfl rfl rfl (Nat.le_of_ble_eq_true rfl) ?_
        | refine op_alloc (tl hn rfl) ?_
        | refine op_storeN rfl rfl rfl rfl (Nat.le_of_ble_eq_true rfl) ?_
        | (refine RunsL.pe hn rfl rfl rfl ?_; first
          | refine ⟨_, pu_add rfl rfl (by omega), ?_⟩
          | refine ⟨_, pu_indexAddr_map rfl rfl (by omega) (by assumption), ?_⟩
          | refine ⟨_, pu_sub rfl rfl (by omega), ?_⟩
          | refine ⟨_, pu_pick_b rfl rfl rfl, ?_⟩
          | refine ⟨_, pu_mul rfl rfl (by omega), ?_⟩
          | refine ⟨_, pu_build rfl rfl rfl rfl rfl rfl, ?_⟩))
        refine next _ _ ⟨rfl, rfl, rfl, trivial⟩ hlt (fun k t2 hk hk' => ?_) rfl
        by_cases e : k = j
        · subst e; rw [ht'] at hk'; injection hk' with hk'; rw [← hk']; exact he
        · exact hQ k t2 (by omega) hk'
    · repeat' (first
      | refine RunsL.step tabOk hn rfl ?_
      | refine RunsL.nil ?_
      | refine Runs.toRegion 30 rfl ?_
      | (refine Runs.ctls 30 rfl ?_; first | refine Runs.cond_t rfl ?_ | refine Runs.cond_f rfl ?_ | ((first | refine Runs.cond_yes rfl ?_ ?_ | refine Runs.cond_nno rfl ?_ ?_); · first | omega | rfl | assumption | (simp only [List.length_map]; omega)) | ((first | refine Runs.cond_no rfl ?_ ?_ | refine Runs.cond_nyes rfl ?_ ?_); · first | omega | rfl | assumption | (simp only [List.length_map]; omega)) | refine Runs.cond_dec rfl (fun h => ?_) (fun h => ?_) | refine Runs.cond_ndec rfl (fun h => ?_) (fun h => ?_) | refine Runs.cond_nb rfl (fun h => ?_) (fun h => ?_) | refine Runs.cond_b rfl (fun h => ?_) (fun h => ?_) | refine Runs.ret (ends_ro hm rfl rfl ?_) | exact Runs.ret (ends_cellR hm rfl rfl rfl (Nat.le_of_ble_eq_true rfl) rfl rfl))
      | refine op_box rfl (tl hn rfl) ?_
      | refine op_storeF rfl rfl rfl rfl (Nat.le_of_ble_eq_true rfl) ?_
      | refine op_alloc (tl hn rfl) ?_
      | refine op_storeN rfl rfl rfl rfl (Nat.le_of_ble_eq_true rfl) ?_
      | (refine RunsL.pe hn rfl rfl rfl ?_; first
        | refine ⟨_, pu_add rfl rfl (by omega), ?_⟩
        | refine ⟨_, pu_indexAddr_map rfl rfl (by omega) (by assumption), ?_⟩
        | refine ⟨_, pu_sub rfl rfl (by omega), ?_⟩
        | refine ⟨_, pu_pick_b rfl rfl rfl, ?_⟩
        | refine ⟨_, pu_mul rfl rfl (by omega), ?_⟩
        | refine ⟨_, pu_build rfl rfl rfl rfl rfl rfl, ?_⟩))
      exact rr_int (by unfold itemR; rw [if_neg k5, if_neg k6, if_pos k7, tagIx_none fun k t h => hQ k t (by have := (List.getElem?_eq_some_iff.1 h).1; omega) h]; exact (getD_none (by omega)).symm)
  by_cases k8 : x.kind = 8 ∨ x.kind = 9
  · have hc : x.kids[(0 : Int).toNat]? = some _ := List.getElem?_eq_getElem (by have := f8 k8; simp; omega)
    rcases k8 with k8 | k8
    all_goals
      repeat' (first
        | refine RunsL.step tabOk hn rfl ?_
        | refine RunsL.nil ?_
        | refine Runs.toRegion 30 rfl ?_
        | (refine Runs.ctls 30 rfl ?_; first | refine Runs.cond_t rfl ?_ | refine Runs.cond_f rfl ?_ | ((first | refine Runs.cond_yes rfl ?_ ?_ | refine Runs.cond_nno rfl ?_ ?_); · first | omega | rfl | assumption | (simp only [List.length_map]; omega)) | ((first | refine Runs.cond_no rfl ?_ ?_ | refine Runs.cond_nyes rfl ?_ ?_); · first | omega | rfl | assumption | (simp only [List.length_map]; omega)) | refine Runs.cond_dec rfl (fun h => ?_) (fun h => ?_) | refine Runs.cond_ndec rfl (fun h => ?_) (fun h => ?_) | refine Runs.cond_nb rfl (fun h => ?_) (fun h => ?_) | refine Runs.cond_b rfl (fun h => ?_) (fun h => ?_) | refine Runs.ret (ends_ro hm rfl rfl ?_) | exact Runs.ret (ends_cellR hm rfl rfl rfl (Nat.le_of_ble_eq_true rfl) rfl rfl))
        | refine op_box rfl (tl hn rfl) ?_
        | refine op_storeF rfl rfl rfl rfl (Nat.le_of_ble_eq_true rfl) ?_
        | refine op_alloc (tl hn rfl) ?_
        | refine op_storeN rfl rfl rfl rfl (Nat.le_of_ble_eq_true rfl) ?_
        | (refine RunsL.pe hn rfl rfl rfl ?_; first
          | refine ⟨_, pu_add rfl rfl (by omega), ?_⟩
          | refine ⟨_, pu_indexAddr_map rfl rfl (by omega) (by assumption), ?_⟩
          | refine ⟨_, pu_sub rfl rfl (by omega), ?_⟩
          | refine ⟨_, pu_pick_b rfl rfl rfl, ?_⟩
          | refine ⟨_, pu_mul rfl rfl (by omega), ?_⟩
          | refine ⟨_, pu_build rfl rfl rfl rfl rfl rfl, ?_⟩))
      exact rr_int (by unfold itemR; rw [if_neg k5, if_neg k6, if_neg k7, if_pos (by omega)]; exact (getD_some hc).symm)
  · repeat' (first
    | refine RunsL.step tabOk hn rfl ?_
    | refine RunsL.nil ?_
    | refine Runs.toRegion 30 rfl ?_
    | (refine Runs.ctls 30 rfl ?_; first | refine Runs.cond_t rfl ?_ | refine Runs.cond_f rfl ?_ | ((first | refine Runs.cond_yes rfl ?_ ?_ | refine Runs.cond_nno rfl ?_ ?_); · first | omega | rfl | assumption | (simp only [List.length_map]; omega)) | ((first | refine Runs.cond_no rfl ?_ ?_ | refine Runs.cond_nyes rfl ?_ ?_); · first | omega | rfl | assumption | (simp only [List.length_map]; omega)) | refine Runs.cond_dec rfl (fun h => ?_) (fun h => ?_) | refine Runs.cond_ndec rfl (fun h => ?_) (fun h => ?_) | refine Runs.cond_nb rfl (fun h => ?_) (fun h => ?_) | refine Runs.cond_b rfl (fun h => ?_) (fun h => ?_) | refine Runs.ret (ends_ro hm rfl rfl ?_) | exact Runs.ret (ends_cellR hm rfl rfl rfl (Nat.le_of_ble_eq_true rfl) rfl rfl))
    | refine op_box rfl (tl hn rfl) ?_
    | refine op_storeF rfl rfl rfl rfl (Nat.le_of_ble_eq_true rfl) ?_
    | refine op_alloc (tl hn rfl) ?_
    | refine op_storeN rfl rfl rfl rfl (Nat.le_of_ble_eq_true rfl) ?_
    | (refine RunsL.pe hn rfl rfl rfl ?_; first
      | refine ⟨_, pu_add rfl rfl (by omega), ?_⟩
      | refine ⟨_, pu_indexAddr_map rfl rfl (by omega) (by assumption), ?_⟩
      | refine ⟨_, pu_sub rfl rfl (by omega), ?_⟩
      | refine ⟨_, pu_pick_b rfl rfl rfl, ?_⟩
      | refine ⟨_, pu_mul rfl rfl (by omega), ?_⟩
      | refine ⟨_, pu_build rfl rfl rfl rfl rfl rfl, ?_⟩))
    exact rr_int (by unfold itemR; rw [if_neg k5, if_neg k6, if_neg k7, if_neg k8])
section
variable {P : Program} {C : Ctx} {env : Env} {σ : List Ob} {t : Nat} {ty : TypeId} {pos : String} {after : Array Edge} {gd : Option (Nat × Bool)}
/-- A pointer that is none is looked at. -/
theorem pu_nilCheck {x : Operand} {cs : List RV} (hx : ev env x = .ro (.rp cs)) : Pur P C ⟨some t, .nilCheck x, ty, pos, after, gd⟩ env σ (.ro (.rp cs)) :=
  Pur.of (fun a m hG hσ hH => by
    have h := hH x (by simp [Op.operands, Call.operands])
    rw [hx] at h
    have h' := h
    simp only [AV.rel, RV.rel] at h
    obtain ⟨b, o, e, hb, hok, hc⟩ := h
    exact ⟨a.eval x, by simp [execOp, e], h'⟩)
end
set_option maxHeartbeats 4000000 in
theorem childRule_ac {d : Des} (hl : d.length ≤ maxLen) {r : Nat} {x : Rul} (hx : d[(r : Int).toNat]? = some x) (hk : KindOk d x) (n : Int) (b t : RV) (i : Int) (h0 : 0 ≤ i) : ACv Try.prog 49 [desR d, .int (r : Int), .rp [.int n, b, t], .int i] (.int (itemR x n i)) := by
  obtain ⟨f5, f7, f8, _⟩ := item_fields hk
  have hlm : (d.map rulR).length = d.length := List.length_map ..
  have hlk : (x.kids.map fun z => [RV.int z]).length = x.kids.length := List.length_map ..
  have hlt' : (x.tags.map fun z => [RV.int z]).length = x.tags.length := List.length_map ..
  have hr : r < d.length := (List.getElem?_eq_some_iff.1 hx).1
  unfold maxLen at hl
  refine ac_enter Try.func49 rfl _ Try.ntmps49 (by simp) fun C hn hm => ?_
  by_cases k5 : x.kind = 5
  · have hc : x.kids[(1 : Int).toNat]? = some _ := List.getElem?_eq_getElem (by have := f5 k5; simp; omega)
    repeat' (first
      | refine RunsL.step tabOk hn rfl ?_
      | refine RunsL.nil ?_
      | refine Runs.toRegion 30 rfl ?_
      | (refine RunsL.pe hn rfl rfl rfl ?_; first
        | refine ⟨_, pu_nilCheck rfl, ?_⟩)
      | (refine Runs.ctls 30 rfl ?_; first | refine Runs.cond_t rfl ?_ | refine Runs.cond_f rfl ?_ | ((first | refine Runs.cond_yes rfl ?_ ?_ | refine Runs.cond_nno rfl ?_ ?_); · first | omega | rfl | assumption | (simp only [List.length_map]; omega)) | ((first | refine Runs.cond_no rfl ?_ ?_ | refine Runs.cond_nyes rfl ?_ ?_); · first | omega | rfl | assumption | (simp only [List.length_map]; omega)) | refine Runs.cond_dec rfl (fun h => ?_) (fun h => ?_) | refine Runs.cond_ndec rfl (fun h => ?_) (fun h => ?_) | refine Runs.cond_nb rfl (fun h => ?_) (fun h => ?_) | refine Runs.cond_b rfl (fun h => ?_) (fun h => ?_) | refine Runs.ret (ends_ro hm rfl rfl ?_) | exact Runs.ret (ends_cellR hm rfl rfl rfl (Nat.le_of_ble_eq_true rfl) rfl rfl))
      | refine op_box rfl (tl hn rfl) ?_
      | refine op_storeF rfl rfl rfl rfl (Nat.le_of_ble_eq_true rfl) ?_
      | refine op_alloc (tl hn rfl) ?_
      | refine op_storeN rfl rfl rfl rfl (Nat.le_of_ble_eq_true rfl) ?_
      | (refine RunsL.pe hn rfl rfl rfl ?_; first
        | refine ⟨_, pu_add rfl rfl (by omega), ?_⟩
        | refine ⟨_, pu_indexAddr_map rfl rfl (by omega) (by assumption), ?_⟩
        | refine ⟨_, pu_sub rfl rfl (by omega), ?_⟩
        | refine ⟨_, pu_pick_b rfl rfl rfl, ?_⟩
        | refine ⟨_, pu_mul rfl rfl (by omega), ?_⟩
        | refine ⟨_, pu_build rfl rfl rfl rfl rfl rfl, ?_⟩))
    exact rr_int (by unfold itemR; rw [if_pos k5]; exact (getD_some hc).symm)
  by_cases k6 : x.kind = 6
  · by_cases hi : i < x.kids.length
    · have hc : x.kids[i.toNat]? = some _ := List.getElem?_eq_getElem (by omega)
      repeat' (first
        | refine RunsL.step tabOk hn rfl ?_
        | refine RunsL.nil ?_
        | refine Runs.toRegion 30 rfl ?_
        | (refine RunsL.pe hn rfl rfl rfl ?_; first
          | refine ⟨_, pu_nilCheck rfl, ?_⟩)
        | (refine Runs.ctls 30 rfl ?_; first | refine Runs.cond_t rfl ?_ | refine Runs.cond_f rfl ?_ | ((first | refine Runs.cond_yes rfl ?_ ?_ | refine Runs.cond_nno rfl ?_ ?_); · first | omega | rfl | assumption | (simp only [List.length_map]; omega)) | ((first | refine Runs.cond_no rfl ?_ ?_ | refine Runs.cond_nyes rfl ?_ ?_); · first | omega | rfl | assumption | (simp only [List.length_map]; omega)) | refine Runs.cond_dec rfl (fun h => ?_) (fun h => ?_) | refine Runs.cond_ndec rfl (fun h => ?_) (fun h => ?_) | refine Runs.cond_nb rfl (fun h => ?_) (fun h => ?_) | refine Runs.cond_b rfl (fun h => ?_) (fun h => ?_) | refine Runs.ret (ends_ro hm rfl rfl ?_) | exact Runs.ret (ends_cellR hm rfl rfl rfl (Nat.le_of_ble_eq_true rfl) rfl rfl))
        | refine op_box rfl (tl hn rfl) ?_
        | refine op_storeF rfl rfl rfl rfl (Nat.le_of_ble_eq_true rfl) ?_
        | refine op_alloc (tl hn rfl) ?_
        | refine op_storeN rfl rfl rfl rfl (Nat.le_of_ble_eq_true rfl) ?_
        | (refine RunsL.pe hn rfl rfl rfl ?_; first
          | refine ⟨_, pu_add rfl rfl (by omega), ?_⟩
          | refine ⟨_, pu_indexAddr_map rfl rfl (by omega) (by assumption), ?_⟩
          | refine ⟨_, pu_sub rfl rfl (by omega), ?_⟩
          | refine ⟨_, pu_pick_b rfl rfl rfl, ?_⟩
          | refine ⟨_, pu_mul rfl rfl (by omega), ?_⟩
          | refine ⟨_, pu_build rfl rfl rfl rfl rfl rfl, ?_⟩))
      exact rr_int (by unfold itemR; rw [if_neg k5, if_pos k6]; exact (getD_some hc).symm)
    · repeat' (first
      | refine RunsL.step tabOk hn rfl ?_
      | refine RunsL.nil ?_
      | refine Runs.toRegion 30 rfl ?_
      | (refine RunsL.pe hn rfl rfl rfl ?_; first
        | refine ⟨_, pu_nilCheck rfl, ?_⟩)
      | (refine Runs.ctls 30 rfl ?_; first | refine Runs.cond_t rfl ?_ | refine Runs.cond_f rfl ?_ | ((first | refine Runs.cond_yes rfl ?_ ?_ | refine Runs.cond_nno rfl ?_ ?_); · first | omega | rfl | assumption | (simp only [List.length_map]; omega)) | ((first | refine Runs.cond_no rfl ?_ ?_ | refine Runs.cond_nyes rfl ?_ ?_); · first | omega | rfl | assumption | (simp only [List.length_map]; omega)) | refine Runs.cond_dec rfl (fun h => ?_) (fun h => ?_) | refine Runs.cond_ndec rfl (fun h => ?_) (fun h => ?_) | refine Runs.cond_nb rfl (fun h => ?_) (fun h => ?_) | refine Runs.cond_b rfl (fun h => ?_) (fun h => ?_) | refine Runs.ret (ends_ro hm rfl rfl ?_) | exact Runs.ret (ends_cellR hm rfl rfl rfl (Nat.le_of_ble_eq_true rfl) rfl rfl))
      | refine op_box rfl (tl hn rfl) ?_
      | refine op_storeF rfl rfl rfl rfl (Nat.le_of_ble_eq_true rfl) ?_
      | refine op_alloc (tl hn rfl) ?_
      | refine op_storeN rfl rfl rfl rfl (Nat.le_of_ble_eq_true rfl) ?_
      | (refine RunsL.pe hn rfl rfl rfl ?_; first
        | refine ⟨_, pu_add rfl rfl (by omega), ?_⟩
        | refine ⟨_, pu_indexAddr_map rfl rfl (by omega) (by assumption), ?_⟩
        | refine ⟨_, pu_sub rfl rfl (by omega), ?_⟩
        | refine ⟨_, pu_pick_b rfl rfl rfl, ?_⟩
        | refine ⟨_, pu_mul rfl rfl (by omega), ?_⟩
        | refine ⟨_, pu_build rfl rfl rfl rfl rfl rfl, ?_⟩))
      exact rr_int (by unfold itemR; rw [if_neg k5, if_pos k6]; exact (getD_none (by omega)).symm)
  by_cases k7 : x.kind = 7
  · obtain ⟨hkl, ht1, ht8, _⟩ := f7 k7
    repeat' (first
      | refine RunsL.step tabOk hn rfl ?_
      | refine RunsL.nil ?_
      | refine Runs.toRegion 30 rfl ?_
      | (refine RunsL.pe hn rfl rfl rfl ?_; first
        | refine ⟨_, pu_nilCheck rfl, ?_⟩)
      | (refine Runs.ctls 30 rfl ?_; first | refine Runs.cond_t rfl ?_ | refine Runs.cond_f rfl ?_ | ((first | refine Runs.cond_yes rfl ?_ ?_ | refine Runs.cond_nno rfl ?_ ?_); · first | omega | rfl | assumption | (simp only [List.length_map]; omega)) | ((first | refine Runs.cond_no rfl ?_ ?_ | refine Runs.cond_nyes rfl ?_ ?_); · first | omega | rfl | assumption | (simp only [List.length_map]; omega)) | refine Runs.cond_dec rfl (fun h => ?_) (fun h => ?_) | refine Runs.cond_ndec rfl (fun h => ?_) (fun h => ?_) | refine Runs.cond_nb rfl (fun h => ?_) (fun h => ?_) | refine Runs.cond_b rfl (fun h => ?_) (fun h => ?_) | refine Runs.ret (ends_ro hm rfl rfl ?_) | exact Runs.ret (ends_cellR hm rfl rfl rfl (Nat.le_of_ble_eq_true rfl) rfl rfl))
      | refine op_box rfl (tl hn rfl) ?_
      | refine op_storeF rfl rfl rfl rfl (Nat.le_of_ble_eq_true rfl) ?_
      | refine op_alloc (tl hn rfl) ?_
      | refine op_storeN rfl rfl rfl rfl (Nat.le_of_ble_eq_true rfl) ?_
      | (refine RunsL.pe hn rfl rfl rfl ?_; first
        | refine ⟨_, pu_add rfl rfl (by omega), ?_⟩
        | refine ⟨_, pu_indexAddr_map rfl rfl (by omega) (by assumption), ?_⟩
        | refine ⟨_, pu_sub rfl rfl (by omega), ?_⟩
        | refine ⟨_, pu_pick_b rfl rfl rfl, ?_⟩
        | refine ⟨_, pu_mul rfl rfl (by omega), ?_⟩
        | refine ⟨_, pu_build rfl rfl rfl rfl rfl rfl, ?_⟩))
    refine Runs.loopN 30 rfl (fun j => [(2, .ro (.rp [.int n, b, t])), (9, .ro (.rp (rulR x))), (49, .ro (intsR x.tags)), (50, .int (x.tags.length : Int)), (51, .int (j : Int))]) (fun _ => [⟨34, 0, [.ro (rulsR d)]⟩]) (fun j => ∀ (k : Nat) t, k < j → x.tags[k]? = some t → t ≠ n) x.tags.length 0 (Nat.zero_le _) (fun k t h => absurd h (by omega)) ⟨rfl, rfl, rfl, by simp [look], rfl, trivial⟩ rfl fun j hj hQ next => ?_
    by_cases hlt : j < x.tags.length
    · obtain ⟨t, ht⟩ : ∃ t, x.tags[(j : Int).toNat]? = some t := ⟨_, List.getElem?_eq_getElem hlt⟩
      have ht' : x.tags[j]? = some t := ht
      have hc : x.kids[((j : Int) + 1).toNat]? = some _ := List.getElem?_eq_getElem (by omega)
      by_cases he : t = n
      · subst he
        repeat' (first
          | refine RunsL.step tabOk hn rfl ?_
          | refine RunsL.nil ?_
          | refine Runs.toRegion 30 rfl ?_
          | (refine RunsL.pe hn rfl rfl rfl ?_; first
            | refine ⟨_, pu_nilCheck rfl, ?_⟩)
          | (refine Runs.ctls 30 rfl ?_; first | refine Runs.cond_t rfl ?_ | refine Runs.cond_f rfl ?_ | ((first | refine Runs.cond_yes rfl ?_ ?_ | refine Runs.cond_nno rfl ?_ ?_); · first | omega | rfl | assumption | (simp only [List.length_map]; omega)) | ((first | refine Runs.cond_no rfl ?_ ?_ | refine Runs.cond_nyes rfl ?_ ?_); · first | omega | rfl | assumption | (simp only [List.length_map]; omega)) | refine Runs.cond_dec rfl (fun h => ?_) (fun h => ?_) | refine Runs.cond_ndec rfl (fun h => ?_) (fun h => ?_) | refine Runs.cond_nb rfl (fun h => ?_) (fun h => ?_) | refine Runs.cond_b rfl (fun h => ?_) (fun h => ?_) | refine Runs.ret (ends_ro hm rfl rfl ?_) | exact Runs.ret (ends_cellR hm rfl rfl rfl (Nat.le_of_ble_eq_true rfl) rfl rfl))
          | refine op_box rfl (tl hn rfl) ?_
          | refine op_storeF rfl rfl rfl rfl (Nat.le_of_ble_eq_true rfl) ?_
          | refine op_alloc (tl hn rfl) ?_
          | refine op_storeN rfl rfl rfl rfl (Nat.le_of_ble_eq_true rfl) ?_
          | (refine RunsL.pe hn rfl rfl rfl ?_; first
            | refine ⟨_, pu_add rfl rfl (by omega), ?_⟩
            | refine ⟨_, pu_indexAddr_map rfl rfl (by omega) (by assumption), ?_⟩
            | refine ⟨_, pu_sub rfl rfl (by omega), ?_⟩
            | refine ⟨_, pu_pick_b rfl rfl rfl, ?_⟩
            | refine ⟨_, pu_mul rfl rfl (by omega), ?_⟩
            | refine ⟨_, pu_build rfl rfl rfl rfl rfl rfl, ?_⟩))
        exact rr_int (by unfold itemR; rw [if_neg k5, if_neg k6, if_pos k7, tagIx_hit ht' hQ]; exact (getD_some hc).symm)
      · repeat' (first
        | refine RunsL.step tabOk hn rfl ?_
        | refine RunsL.nil ?_
        | refine Runs.toRegion 30 rfl ?_
        | (refine RunsL.pe hn rfl rfl rfl ?_; first
          | refine ⟨_, pu_nilCheck rfl, ?_⟩)
        | (refine Runs.ctls 30 rfl ?_; first | refine Runs.cond_t rfl ?_ | refine Runs.cond_f rfl ?_ | ((first | refine Runs.cond_yes rfl ?_ ?_ | refine Runs.cond_nno rfl ?_ ?_); · first | omega | rfl | assumption | (simp only [List.length_map]; omega)) | ((first | refine Runs.cond_no rfl ?_ ?_ | refine Runs.cond_nyes rfl ?_ ?_); · first | omega | rfl | assumption | (simp only [List.length_map]; omega)) | refine Runs.cond_dec rfl (fun h => ?_) (fun h => ?_) | refine Runs.cond_ndec rfl (fun h => ?_) (fun h => ?_) | refine Runs.cond_nb rfl (fun h => ?_) (fun h => ?_) | refine Runs.cond_b rfl (fun h => ?_) (fun h => ?_) | refine Runs.ret (ends_ro hm rfl rfl ?_) | exact Runs.ret (ends_cellR hm rfl rfl rfl (Nat.le_of_ble_eq_true rfl) rfl rfl))
        | refine op_box rfl (tl hn rfl) ?_
        | refine op_storeF rfl rfl rfl rfl (Nat.le_of_ble_eq_true rfl) ?_
        | refine op_alloc (tl hn rfl) ?_
        | refine op_storeN rfl rfl rfl rfl (Nat.le_of_ble_eq_true rfl) ?_
        | (refine RunsL.pe hn rfl rfl rfl ?_; first
          | refine ⟨_, pu_add rfl rfl (by omega), ?_⟩
          | refine ⟨_, pu_indexAddr_map rfl rfl (by omega) (by assumption), ?_⟩
          | refine ⟨_, pu_sub rfl rfl (by omega), ?_⟩
          | refine ⟨_, pu_pick_b rfl rfl rfl, ?_⟩
          | refine ⟨_, pu_mul rfl rfl (by omega), ?_⟩
          | refine ⟨_, pu_build rfl rfl rfl rfl rfl rfl, ?_⟩))
        refine next _ _ ⟨rfl, rfl, rfl, rfl, rfl, trivial⟩ hlt (fun k t2 hk hk' => ?_) rfl
        by_cases e : k = j
        · subst e; rw [ht'] at hk'; injection hk' with hk'; rw [← hk']; exact he
        · exact hQ k t2 (by omega) hk'
    · repeat' (first
      | refine RunsL.step tabOk hn rfl ?_
      | refine RunsL.nil ?_
      | refine Runs.toRegion 30 rfl ?_
      | (refine RunsL.pe hn rfl rfl rfl ?_; first
        | refine ⟨_, pu_nilCheck rfl, ?_⟩)
      | (refine Runs.ctls 30 rfl ?_; first | refine Runs.cond_t rfl ?_ | refine Runs.cond_f rfl ?_ | ((first | refine Runs.cond_yes rfl ?_ ?_ | refine Runs.cond_nno rfl ?_ ?_); · first | omega | rfl | assumption | (simp only [List.length_map]; omega)) | ((first | refine Runs.cond_no rfl ?_ ?_ | refine Runs.cond_nyes rfl ?_ ?_); · first | omega | rfl | assumption | (simp only [List.length_map]; omega)) | refine Runs.cond_dec rfl (fun h => ?_) (fun h => ?_) | refine Runs.cond_ndec rfl (fun h => ?_) (fun h => ?_) | refine Runs.cond_nb rfl (fun h => ?_) (fun h => ?_) | refine Runs.cond_b rfl (fun h => ?_) (fun h => ?_) | refine Runs.ret (ends_ro hm rfl rfl ?_) | exact Runs.ret (ends_cellR hm rfl rfl rfl (Nat.le_of_ble_eq_true rfl) rfl rfl))
      | refine op_box rfl (tl hn rfl) ?_
      | refine op_storeF rfl rfl rfl rfl (Nat.le_of_ble_eq_true rfl) ?_
      | refine op_alloc (tl hn rfl) ?_
      | refine op_storeN rfl rfl rfl rfl (Nat.le_of_ble_eq_true rfl) ?_
      | (refine RunsL.pe hn rfl rfl rfl ?_; first
        | refine ⟨_, pu_add rfl rfl (by omega), ?_⟩
        | refine ⟨_, pu_indexAddr_map rfl rfl (by omega) (by assumption), ?_⟩
        | refine ⟨_, pu_sub rfl rfl (by omega), ?_⟩
        | refine ⟨_, pu_pick_b rfl rfl rfl, ?_⟩
        | refine ⟨_, pu_mul rfl rfl (by omega), ?_⟩
        | refine ⟨_, pu_build rfl rfl rfl rfl rfl rfl, ?_⟩))
      exact rr_int (by unfold itemR; rw [if_neg k5, if_neg k6, if_pos k7, tagIx_none fun k t h => hQ k t (by have := (List.getElem?_eq_some_iff.1 h).1; omega) h]; exact (getD_none (by omega)).symm)
  by_cases k8 : x.kind = 8 ∨ x.kind = 9
  · have hc : x.kids[(0 : Int).toNat]? = some _ := List.getElem?_eq_getElem (by have := f8 k8; simp; omega)
    rcases k8 with k8 | k8
    all_goals
      repeat' (first
        | refine RunsL.step tabOk hn rfl ?_
        | refine RunsL.nil ?_
        | refine Runs.toRegion 30 rfl ?_
        | (refine RunsL.pe hn rfl rfl rfl ?_; first
          | refine ⟨_, pu_nilCheck rfl, ?_⟩)
        | (refine Runs.ctls 30 rfl ?_; first | refine Runs.cond_t rfl ?_ | refine Runs.cond_f rfl ?_ | ((first | refine Runs.cond_yes rfl ?_ ?_ | refine Runs.cond_nno rfl ?_ ?_); · first | omega | rfl | assumption | (simp only [List.length_map]; omega)) | ((first | refine Runs.cond_no rfl ?_ ?_ | refine Runs.cond_nyes rfl ?_ ?_); · first | omega | rfl | assumption | (simp only [List.length_map]; omega)) | refine Runs.cond_dec rfl (fun h => ?_) (fun h => ?_) | refine Runs.cond_ndec rfl (fun h => ?_) (fun h => ?_) | refine Runs.cond_nb rfl (fun h => ?_) (fun h => ?_) | refine Runs.cond_b rfl (fun h => ?_) (fun h => ?_) | refine Runs.ret (ends_ro hm rfl rfl ?_) | exact Runs.ret (ends_cellR hm rfl rfl rfl (Nat.le_of_ble_eq_true rfl) rfl rfl))
        | refine op_box rfl (tl hn rfl) ?_
        | refine op_storeF rfl rfl rfl rfl (Nat.le_of_ble_eq_true rfl) ?_
        | refine op_alloc (tl hn rfl) ?_
        | refine op_storeN rfl rfl rfl rfl (Nat.le_of_ble_eq_true rfl) ?_
        | (refine RunsL.pe hn rfl rfl rfl ?_; first
          | refine ⟨_, pu_add rfl rfl (by omega), ?_⟩
          | refine ⟨_, pu_indexAddr_map rfl rfl (by omega) (by assumption), ?_⟩
          | refine ⟨_, pu_sub rfl rfl (by omega), ?_⟩
          | refine ⟨_, pu_pick_b rfl rfl rfl, ?_⟩
          | refine ⟨_, pu_mul rfl rfl (by omega), ?_⟩
          | refine ⟨_, pu_build rfl rfl rfl rfl rfl rfl, ?_⟩))
      exact rr_int (by unfold itemR; rw [if_neg k5, if_neg k6, if_neg k7, if_pos (by omega)]; exact (getD_some hc).symm)
  · repeat' (first
    | refine RunsL.step tabOk hn rfl ?_
    | refine RunsL.nil ?_
    | refine Runs.toRegion 30 rfl ?_
    | (refine RunsL.pe hn rfl rfl rfl ?_; first
      | refine ⟨_, pu_nilCheck rfl, ?_⟩)
    | (refine Runs.ctls 30 rfl ?_; first | refine Runs.cond_t rfl ?_ | refine Runs.cond_f rfl ?_ | ((first | refine Runs.cond_yes rfl ?_ ?_ | refine Runs.cond_nno rfl ?_ ?_); · first | omega | rfl | assumption | (simp only [List.length_map]; omega)) | ((first | refine Runs.cond_no rfl ?_ ?_ | refine Runs.cond_nyes rfl ?_ ?_); · first | omega | rfl | assumption | (simp only [List.length_map]; omega)) | refine Runs.cond_dec rfl (fun h => ?_) (fun h => ?_) | refine Runs.cond_ndec rfl (fun h => ?_) (fun h => ?_) | refine Runs.cond_nb rfl (fun h => ?_) (fun h => ?_) | refine Runs.cond_b rfl (fun h => ?_) (fun h => ?_) | refine Runs.ret (ends_ro hm rfl rfl ?_) | exact Runs.ret (ends_cellR hm rfl rfl rfl (Nat.le_of_ble_eq_true rfl) rfl rfl))
    | refine op_box rfl (tl hn rfl) ?_
    | refine op_storeF rfl rfl rfl rfl (Nat.le_of_ble_eq_true rfl) ?_
    | refine op_alloc (tl hn rfl) ?_
    | refine op_storeN rfl rfl rfl rfl (Nat.le_of_ble_eq_true rfl) ?_
    | (refine RunsL.pe hn rfl rfl rfl ?_; first
      | refine ⟨_, pu_add rfl rfl (by omega), ?_⟩
      | refine ⟨_, pu_indexAddr_map rfl rfl (by omega) (by assumption), ?_⟩
      | refine ⟨_, pu_sub rfl rfl (by omega), ?_⟩
      | refine ⟨_, pu_pick_b rfl rfl rfl, ?_⟩
      | refine ⟨_, pu_mul rfl rfl (by omega), ?_⟩
      | refine ⟨_, pu_build rfl rfl rfl rfl rfl rfl, ?_⟩))
    exact rr_int (by unfold itemR; rw [if_neg k5, if_neg k6, if_neg k7, if_neg k8])
/-- What ItemRule answers. -/
noncomputable def itemF (d : Des) (r : Int) (v : Tre) (i : Int) : Int := open Classical in if Kn d r ∧ 0 ≤ i ∧ i < v.items.length then (match d[r.toNat]? with | some x => itemR x v.number i | none => -1) else -1
theorem itemF_yes {d : Des} {r : Int} {v : Tre} {i : Int} {x : Rul} (h : Kn d r ∧ 0 ≤ i ∧ i < v.items.length) (hx : d[r.toNat]? = some x) : itemF d r v i = itemR x v.number i := by unfold itemF; rw [if_pos h, hx]
theorem itemF_no {d : Des} {r : Int} {v : Tre} {i : Int} (h : ¬ (Kn d r ∧ 0 ≤ i ∧ i < v.items.length)) : itemF d r v i = -1 := by unfold itemF; rw [if_neg h]
theorem kn_nat {d : Des} {r : Int} (h : Kn d r) : ∃ (n : Nat) (x : Rul), r = n ∧ n < d.length ∧ d[n]? = some x := by
  obtain ⟨_, h2⟩ := h
  unfold HasR at h2
  exact ⟨r.toNat, _, by omega, by omega, List.getElem?_eq_getElem (by omega)⟩
set_option maxHeartbeats 4000000 in
theorem impl_ItemRule (d : Des) (ho : DesOk d) (hd : dtotal d ≤ 1048576) (r : Int) (v : Tre) (hv : v.Ok) (i : Int) : ACv Try.prog 14 [desR d, .int r, treR v, .int i] (.int (itemF d r v i)) := by
  have hvl := hv.out.2.2.1
  have hlv : (v.items.map Tre.cells).length = v.items.length := List.length_map ..
  have hkn := known_ac d ho hd r
  have et : dtotal d = d.length + (d.map Rul.total).sum := rfl
  unfold maxLen at hvl
  refine ac_enter Try.func14 rfl _ Try.ntmps14 (by simp) fun C hn hm => ?_
  by_cases hK : Kn d r
  · by_cases hi : 0 ≤ i ∧ i < v.items.length
    · obtain ⟨n, x, rfl, hn', hx⟩ := kn_nat hK
      have hc := childRule_ac (d := d) (r := n) (x := x) (by unfold maxLen; omega) hx (kind_at hK.1 hx) v.number (bytesR v.bytes) (tresR v.items) i hi.1
      repeat' (first
        | refine RunsL.step tabOk hn rfl ?_
        | refine RunsL.nil ?_
        | refine Runs.toRegion 30 rfl ?_
        | (refine RunsL.pe hn rfl rfl rfl ?_; first
          | refine ⟨_, pu_callR hkn rfl, ?_⟩
          | refine ⟨_, pu_callL hc (.cons (Lends.agg (.cons .ro .nil)) (.cons .ro (.cons (Lends.obj rfl (.cons .ro (.cons .ro (.cons .ro .nil)))) (.cons .ro .nil)))), ?_⟩
          | refine ⟨_, pu_callL hc (.cons .ro (.cons .ro (.cons (Lends.obj rfl (.cons .ro (.cons .ro (.cons .ro .nil)))) (.cons .ro .nil)))), ?_⟩)
        | (refine Runs.ctls 30 rfl ?_; first | refine Runs.cond_t rfl ?_ | refine Runs.cond_f rfl ?_ | ((first | refine Runs.cond_yes rfl ?_ ?_ | refine Runs.cond_nno rfl ?_ ?_); · first | omega | rfl | assumption | (simp only [List.length_map]; omega)) | ((first | refine Runs.cond_no rfl ?_ ?_ | refine Runs.cond_nyes rfl ?_ ?_); · first | omega | rfl | assumption | (simp only [List.length_map]; omega)) | refine Runs.cond_dec rfl (fun h => ?_) (fun h => ?_) | refine Runs.cond_ndec rfl (fun h => ?_) (fun h => ?_) | refine Runs.cond_nb rfl (fun h => ?_) (fun h => ?_) | refine Runs.cond_b rfl (fun h => ?_) (fun h => ?_) | refine Runs.ret (ends_ro hm rfl rfl ?_) | exact Runs.ret (ends_cellR hm rfl rfl rfl (Nat.le_of_ble_eq_true rfl) rfl rfl))
        | refine op_box rfl (tl hn rfl) ?_
        | refine op_storeF rfl rfl rfl rfl (Nat.le_of_ble_eq_true rfl) ?_
        | refine op_alloc (tl hn rfl) ?_
        | refine op_storeN rfl rfl rfl rfl (Nat.le_of_ble_eq_true rfl) ?_
        | (refine RunsL.pe hn rfl rfl rfl ?_; first
          | refine ⟨_, pu_add rfl rfl (by omega), ?_⟩
          | refine ⟨_, pu_indexAddr_map rfl rfl (by omega) (by assumption), ?_⟩
          | refine ⟨_, pu_sub rfl rfl (by omega), ?_⟩
          | refine ⟨_, pu_pick_b rfl rfl rfl, ?_⟩
          | refine ⟨_, pu_mul rfl rfl (by omega), ?_⟩
          | refine ⟨_, pu_build rfl rfl rfl rfl rfl rfl, ?_⟩)
        | ((first | refine RunsL.guard_dec rfl rfl rfl ?_ ?_ | refine RunsL.guard_ndec rfl rfl rfl ?_ ?_ | refine RunsL.guard_nb rfl rfl rfl ?_ ?_ | refine RunsL.guard_b rfl rfl rfl ?_ ?_) <;> intro h <;> try (exfalso; first | omega | contradiction | (simp only [List.length_map] at h; omega))))
      all_goals first
        | exact rr_int (itemF_yes ⟨hK, hi⟩ hx).symm
        | (exfalso; omega)
    · repeat' (first
      | refine RunsL.step tabOk hn rfl ?_
      | refine RunsL.nil ?_
      | refine Runs.toRegion 30 rfl ?_
      | (refine RunsL.pe hn rfl rfl rfl ?_; first
        | refine ⟨_, pu_callR hkn rfl, ?_⟩)
      | (refine Runs.ctls 30 rfl ?_; first | refine Runs.cond_t rfl ?_ | refine Runs.cond_f rfl ?_ | ((first | refine Runs.cond_yes rfl ?_ ?_ | refine Runs.cond_nno rfl ?_ ?_); · first | omega | rfl | assumption | (simp only [List.length_map]; omega)) | ((first | refine Runs.cond_no rfl ?_ ?_ | refine Runs.cond_nyes rfl ?_ ?_); · first | omega | rfl | assumption | (simp only [List.length_map]; omega)) | refine Runs.cond_dec rfl (fun h => ?_) (fun h => ?_) | refine Runs.cond_ndec rfl (fun h => ?_) (fun h => ?_) | refine Runs.cond_nb rfl (fun h => ?_) (fun h => ?_) | refine Runs.cond_b rfl (fun h => ?_) (fun h => ?_) | refine Runs.ret (ends_ro hm rfl rfl ?_) | exact Runs.ret (ends_cellR hm rfl rfl rfl (Nat.le_of_ble_eq_true rfl) rfl rfl))
      | refine op_box rfl (tl hn rfl) ?_
      | refine op_storeF rfl rfl rfl rfl (Nat.le_of_ble_eq_true rfl) ?_
      | refine op_alloc (tl hn rfl) ?_
      | refine op_storeN rfl rfl rfl rfl (Nat.le_of_ble_eq_true rfl) ?_
      | (refine RunsL.pe hn rfl rfl rfl ?_; first
        | refine ⟨_, pu_add rfl rfl (by omega), ?_⟩
        | refine ⟨_, pu_indexAddr_map rfl rfl (by omega) (by assumption), ?_⟩
        | refine ⟨_, pu_sub rfl rfl (by omega), ?_⟩
        | refine ⟨_, pu_pick_b rfl rfl rfl, ?_⟩
        | refine ⟨_, pu_mul rfl rfl (by omega), ?_⟩
        | refine ⟨_, pu_build rfl rfl rfl rfl rfl rfl, ?_⟩)
      | ((first | refine RunsL.guard_dec rfl rfl rfl ?_ ?_ | refine RunsL.guard_ndec rfl rfl rfl ?_ ?_ | refine RunsL.guard_nb rfl rfl rfl ?_ ?_ | refine RunsL.guard_b rfl rfl rfl ?_ ?_) <;> intro h <;> try (exfalso; first | omega | contradiction | (simp only [List.length_map] at h; omega))))
      all_goals first
        | exact rr_int (itemF_no fun hh => hi hh.2).symm
        | (exfalso; omega)
  · repeat' (first
    | refine RunsL.step tabOk hn rfl ?_
    | refine RunsL.nil ?_
    | refine Runs.toRegion 30 rfl ?_
    | (refine RunsL.pe hn rfl rfl rfl ?_; first
      | refine ⟨_, pu_callR hkn rfl, ?_⟩)
    | (refine Runs.ctls 30 rfl ?_; first | refine Runs.cond_t rfl ?_ | refine Runs.cond_f rfl ?_ | ((first | refine Runs.cond_yes rfl ?_ ?_ | refine Runs.cond_nno rfl ?_ ?_); · first | omega | rfl | assumption | (simp only [List.length_map]; omega)) | ((first | refine Runs.cond_no rfl ?_ ?_ | refine Runs.cond_nyes rfl ?_ ?_); · first | omega | rfl | assumption | (simp only [List.length_map]; omega)) | refine Runs.cond_dec rfl (fun h => ?_) (fun h => ?_) | refine Runs.cond_ndec rfl (fun h => ?_) (fun h => ?_) | refine Runs.cond_nb rfl (fun h => ?_) (fun h => ?_) | refine Runs.cond_b rfl (fun h => ?_) (fun h => ?_) | refine Runs.ret (ends_ro hm rfl rfl ?_) | exact Runs.ret (ends_cellR hm rfl rfl rfl (Nat.le_of_ble_eq_true rfl) rfl rfl))
    | refine op_box rfl (tl hn rfl) ?_
    | refine op_storeF rfl rfl rfl rfl (Nat.le_of_ble_eq_true rfl) ?_
    | refine op_alloc (tl hn rfl) ?_
    | refine op_storeN rfl rfl rfl rfl (Nat.le_of_ble_eq_true rfl) ?_
    | (refine RunsL.pe hn rfl rfl rfl ?_; first
      | refine ⟨_, pu_add rfl rfl (by omega), ?_⟩
      | refine ⟨_, pu_indexAddr_map rfl rfl (by omega) (by assumption), ?_⟩
      | refine ⟨_, pu_sub rfl rfl (by omega), ?_⟩
      | refine ⟨_, pu_pick_b rfl rfl rfl, ?_⟩
      | refine ⟨_, pu_mul rfl rfl (by omega), ?_⟩
      | refine ⟨_, pu_build rfl rfl rfl rfl rfl rfl, ?_⟩)
    | ((first | refine RunsL.guard_dec rfl rfl rfl ?_ ?_ | refine RunsL.guard_ndec rfl rfl rfl ?_ ?_ | refine RunsL.guard_nb rfl rfl rfl ?_ ?_ | refine RunsL.guard_b rfl rfl rfl ?_ ?_) <;> intro h <;> try (exfalso; first | omega | contradiction | (simp only [List.length_map] at h; omega))))
    all_goals exact rr_int (itemF_no fun hh => hK hh.1).symm
set_option maxHeartbeats 4000000 in
theorem spec_ItemRule (d : Des) (ho : DesOk d) (hd : dtotal d ≤ 1048576) (r : Int) (v : Tre) (hv : v.Ok) (i : Int) : ACv Try.prog 11 [desR d, .int r, treR v, .int i] (.int (itemF d r v i)) := by
  have hvl := hv.out.2.2.1
  have hlm : (d.map rulR).length = d.length := List.length_map ..
  have hlv : (v.items.map Tre.cells).length = v.items.length := List.length_map ..
  have hkn := l7Rule_ac d ho hd r
  unfold maxLen at hvl
  refine ac_enter Try.func11 rfl _ Try.ntmps11 (by simp) fun C hn hm => ?_
  by_cases hK : Kn d r
  · by_cases hi : 0 ≤ i ∧ i < v.items.length
    · obtain ⟨n, x, rfl, hn', hx⟩ := kn_nat hK
      have hx' : d[(n : Int).toNat]? = some x := hx
      have hc := l9Item_ac (kind_at hK.1 hx) v.number i hi.1
      repeat' (first
        | refine RunsL.step tabOk hn rfl ?_
        | refine RunsL.nil ?_
        | refine Runs.toRegion 30 rfl ?_
        | ((first | refine RunsL.pe hn rfl rfl rfl ?_ | refine RunsD.pe rfl rfl ?_); first
          | refine ⟨_, pu_callR hkn rfl, ?_⟩
          | refine ⟨_, pu_callR (l1In_ac _ _ _) rfl, ?_⟩
          | refine ⟨_, pu_callR hc rfl, ?_⟩)
        | (refine Runs.ctls 30 rfl ?_; first | refine Runs.cond_t rfl ?_ | refine Runs.cond_f rfl ?_ | ((first | refine Runs.cond_yes rfl ?_ ?_ | refine Runs.cond_nno rfl ?_ ?_); · first | omega | rfl | assumption | (simp only [List.length_map]; omega)) | ((first | refine Runs.cond_no rfl ?_ ?_ | refine Runs.cond_nyes rfl ?_ ?_); · first | omega | rfl | assumption | (simp only [List.length_map]; omega)) | refine Runs.cond_dec rfl (fun h => ?_) (fun h => ?_) | refine Runs.cond_ndec rfl (fun h => ?_) (fun h => ?_) | refine Runs.cond_nb rfl (fun h => ?_) (fun h => ?_) | refine Runs.cond_b rfl (fun h => ?_) (fun h => ?_) | refine Runs.ret (ends_ro hm rfl rfl ?_) | exact Runs.ret (ends_cellR hm rfl rfl rfl (Nat.le_of_ble_eq_true rfl) rfl rfl))
        | refine op_box rfl (tl hn rfl) ?_
        | refine op_storeF rfl rfl rfl rfl (Nat.le_of_ble_eq_true rfl) ?_
        | refine op_alloc (tl hn rfl) ?_
        | refine op_storeN rfl rfl rfl rfl (Nat.le_of_ble_eq_true rfl) ?_
        | refine RunsD.step tabOk hn rfl rfl ?_
        | refine RunsD.nil ?_
        | refine Runs.toDraw 30 mixed hn rfl (by kernel_rfl) rfl ?_
        | ((first | refine RunsL.pe hn rfl rfl rfl ?_ | refine RunsD.pe rfl rfl ?_); first
          | refine ⟨_, pu_add rfl rfl (by omega), ?_⟩
          | refine ⟨_, pu_indexAddr_map rfl rfl (by omega) (by assumption), ?_⟩
          | refine ⟨_, pu_sub rfl rfl (by omega), ?_⟩
          | refine ⟨_, pu_pick_b rfl rfl rfl, ?_⟩
          | refine ⟨_, pu_mul rfl rfl (by omega), ?_⟩
          | refine ⟨_, pu_build rfl rfl rfl rfl rfl rfl, ?_⟩)
        | ((first | refine RunsL.guard_dec rfl rfl rfl ?_ ?_ | refine RunsL.guard_ndec rfl rfl rfl ?_ ?_ | refine RunsL.guard_nb rfl rfl rfl ?_ ?_ | refine RunsL.guard_b rfl rfl rfl ?_ ?_ | refine RunsD.guard_dec rfl rfl rfl ?_ ?_ | refine RunsD.guard_ndec rfl rfl rfl ?_ ?_ | refine RunsD.guard_nb rfl rfl rfl ?_ ?_ | refine RunsD.guard_b rfl rfl rfl ?_ ?_) <;> intro h <;> try (exfalso; first | omega | contradiction | (simp only [List.length_map] at h; omega))))
      all_goals first
        | exact rr_int (itemF_yes ⟨hK, hi⟩ hx).symm
        | (exfalso; unfold InR at *; omega)
        | (exfalso; omega)
    · repeat' (first
      | refine RunsL.step tabOk hn rfl ?_
      | refine RunsL.nil ?_
      | refine Runs.toRegion 30 rfl ?_
      | ((first | refine RunsL.pe hn rfl rfl rfl ?_ | refine RunsD.pe rfl rfl ?_); first
        | refine ⟨_, pu_callR hkn rfl, ?_⟩
        | refine ⟨_, pu_callR (l1In_ac _ _ _) rfl, ?_⟩)
      | (refine Runs.ctls 30 rfl ?_; first | refine Runs.cond_t rfl ?_ | refine Runs.cond_f rfl ?_ | ((first | refine Runs.cond_yes rfl ?_ ?_ | refine Runs.cond_nno rfl ?_ ?_); · first | omega | rfl | assumption | (simp only [List.length_map]; omega)) | ((first | refine Runs.cond_no rfl ?_ ?_ | refine Runs.cond_nyes rfl ?_ ?_); · first | omega | rfl | assumption | (simp only [List.length_map]; omega)) | refine Runs.cond_dec rfl (fun h => ?_) (fun h => ?_) | refine Runs.cond_ndec rfl (fun h => ?_) (fun h => ?_) | refine Runs.cond_nb rfl (fun h => ?_) (fun h => ?_) | refine Runs.cond_b rfl (fun h => ?_) (fun h => ?_) | refine Runs.ret (ends_ro hm rfl rfl ?_) | exact Runs.ret (ends_cellR hm rfl rfl rfl (Nat.le_of_ble_eq_true rfl) rfl rfl))
      | refine op_box rfl (tl hn rfl) ?_
      | refine op_storeF rfl rfl rfl rfl (Nat.le_of_ble_eq_true rfl) ?_
      | refine op_alloc (tl hn rfl) ?_
      | refine op_storeN rfl rfl rfl rfl (Nat.le_of_ble_eq_true rfl) ?_
      | refine RunsD.step tabOk hn rfl rfl ?_
      | refine RunsD.nil ?_
      | refine Runs.toDraw 30 mixed hn rfl (by kernel_rfl) rfl ?_
      | ((first | refine RunsL.pe hn rfl rfl rfl ?_ | refine RunsD.pe rfl rfl ?_); first
        | refine ⟨_, pu_add rfl rfl (by omega), ?_⟩
        | refine ⟨_, pu_indexAddr_map rfl rfl (by omega) (by assumption), ?_⟩
        | refine ⟨_, pu_sub rfl rfl (by omega), ?_⟩
        | refine ⟨_, pu_pick_b rfl rfl rfl, ?_⟩
        | refine ⟨_, pu_mul rfl rfl (by omega), ?_⟩
        | refine ⟨_, pu_build rfl rfl rfl rfl rfl rfl, ?_⟩)
      | ((first | refine RunsL.guard_dec rfl rfl rfl ?_ ?_ | refine RunsL.guard_ndec rfl rfl rfl ?_ ?_ | refine RunsL.guard_nb rfl rfl rfl ?_ ?_ | refine RunsL.guard_b rfl rfl rfl ?_ ?_ | refine RunsD.guard_dec rfl rfl rfl ?_ ?_ | refine RunsD.guard_ndec rfl rfl rfl ?_ ?_ | refine RunsD.guard_nb rfl rfl rfl ?_ ?_ | refine RunsD.guard_b rfl rfl rfl ?_ ?_) <;> intro h <;> try (exfalso; first | omega | contradiction | (simp only [List.length_map] at h; omega))))
      all_goals first
        | exact rr_int (itemF_no fun hh => hi hh.2).symm
        | (exfalso; unfold InR at *; omega)
        | (exfalso; omega)
  · repeat' (first
    | refine RunsL.step tabOk hn rfl ?_
    | refine RunsL.nil ?_
    | refine Runs.toRegion 30 rfl ?_
    | ((first | refine RunsL.pe hn rfl rfl rfl ?_ | refine RunsD.pe rfl rfl ?_); first
      | refine ⟨_, pu_callR hkn rfl, ?_⟩)
    | (refine Runs.ctls 30 rfl ?_; first | refine Runs.cond_t rfl ?_ | refine Runs.cond_f rfl ?_ | ((first | refine Runs.cond_yes rfl ?_ ?_ | refine Runs.cond_nno rfl ?_ ?_); · first | omega | rfl | assumption | (simp only [List.length_map]; omega)) | ((first | refine Runs.cond_no rfl ?_ ?_ | refine Runs.cond_nyes rfl ?_ ?_); · first | omega | rfl | assumption | (simp only [List.length_map]; omega)) | refine Runs.cond_dec rfl (fun h => ?_) (fun h => ?_) | refine Runs.cond_ndec rfl (fun h => ?_) (fun h => ?_) | refine Runs.cond_nb rfl (fun h => ?_) (fun h => ?_) | refine Runs.cond_b rfl (fun h => ?_) (fun h => ?_) | refine Runs.ret (ends_ro hm rfl rfl ?_) | exact Runs.ret (ends_cellR hm rfl rfl rfl (Nat.le_of_ble_eq_true rfl) rfl rfl))
    | refine op_box rfl (tl hn rfl) ?_
    | refine op_storeF rfl rfl rfl rfl (Nat.le_of_ble_eq_true rfl) ?_
    | refine op_alloc (tl hn rfl) ?_
    | refine op_storeN rfl rfl rfl rfl (Nat.le_of_ble_eq_true rfl) ?_
    | refine RunsD.step tabOk hn rfl rfl ?_
    | refine RunsD.nil ?_
    | refine Runs.toDraw 30 mixed hn rfl (by kernel_rfl) rfl ?_
    | ((first | refine RunsL.pe hn rfl rfl rfl ?_ | refine RunsD.pe rfl rfl ?_); first
      | refine ⟨_, pu_add rfl rfl (by omega), ?_⟩
      | refine ⟨_, pu_indexAddr_map rfl rfl (by omega) (by assumption), ?_⟩
      | refine ⟨_, pu_sub rfl rfl (by omega), ?_⟩
      | refine ⟨_, pu_pick_b rfl rfl rfl, ?_⟩
      | refine ⟨_, pu_mul rfl rfl (by omega), ?_⟩
      | refine ⟨_, pu_build rfl rfl rfl rfl rfl rfl, ?_⟩)
    | ((first | refine RunsL.guard_dec rfl rfl rfl ?_ ?_ | refine RunsL.guard_ndec rfl rfl rfl ?_ ?_ | refine RunsL.guard_nb rfl rfl rfl ?_ ?_ | refine RunsL.guard_b rfl rfl rfl ?_ ?_ | refine RunsD.guard_dec rfl rfl rfl ?_ ?_ | refine RunsD.guard_ndec rfl rfl rfl ?_ ?_ | refine RunsD.guard_nb rfl rfl rfl ?_ ?_ | refine RunsD.guard_b rfl rfl rfl ?_ ?_) <;> intro h <;> try (exfalso; first | omega | contradiction | (simp only [List.length_map] at h; omega))))
    all_goals exact rr_int (itemF_no fun hh => hK hh.1).symm
end Go.Proofs.Ytignpklaefibaaa
/- The code of a rule: what it is, and the program's own methods that write it. -/
namespace Go.Proofs.Ytignpklaefibaaa
set_option linter.unusedSimpArgs false
set_option linter.unusedVariables false
open Go.RowKit
open AV (Mem Keeps)
set_option maxRecDepth 100000
abbrev w64 (x : Int) : Int := IntKind.i64.wrap x
theorem w64_add (x y : Int) : w64 (w64 x + y) = w64 (x + y) := by simp only [w64, IntKind.wrap, IntKind.bits, IntKind.signed]; simp; omega
theorem w64_add' (x y : Int) : w64 (x + w64 y) = w64 (x + y) := by simp only [w64, IntKind.wrap, IntKind.bits, IntKind.signed]; simp; omega
theorem w64_id {x : Int} (h : -9223372036854775808 ≤ x ∧ x ≤ 9223372036854775807) : w64 x = x := by simp only [w64, IntKind.wrap, IntKind.bits, IntKind.signed]; simp; omega
def callI (en : List Int) (r : Int) : Ins := ⟨9, (en[r.toNat]?).getD 0, 0⟩
def chTags (tags : List Int) (first : Int) (j : Nat) : List Ins := (List.range j).map fun i : Nat => ⟨11, (tags[i]?).getD 0, w64 (first + 2 * (i : Int))⟩
def chCalls (kids : List Int) (en : List Int) (j : Nat) : List Ins := (List.range j).flatMap fun i : Nat => (if i = 0 then [] else [⟨10, 0, 0⟩]) ++ [callI en ((kids[i + 1]?).getD 0)]
def bodyI (x : Rul) (s : Int) (en : List Int) : List Ins :=
  if x.kind = 1 then [⟨1, x.size, if x.little = true then 1 else 0⟩]
  else if x.kind = 2 then x.bytes.map fun b => ⟨2, (b.toNat : Int), 0⟩
  else if x.kind = 3 then [⟨3, x.size, 0⟩]
  else if x.kind = 4 then [callI en (x.kids.headD 0), ⟨4, 0, 0⟩]
  else if x.kind = 5 then [callI en (x.kids.headD 0), ⟨5, 40, 0⟩, ⟨6, 0, 0⟩, ⟨7, w64 (s + 6), 0⟩, callI en ((x.kids[1]?).getD 0), ⟨8, w64 (s + 3), 0⟩]
  else if x.kind = 6 then x.kids.map (callI en)
  else if x.kind = 7 then callI en (x.kids.headD 0) :: (chTags x.tags (s + (x.tags.length : Int) + 2) x.tags.length ++ ⟨12, 3, 0⟩ :: chCalls x.kids en x.tags.length)
  else if x.kind = 8 then [⟨13, w64 (s + 2), 0⟩, callI en (x.kids.headD 0)]
  else if x.kind = 9 then [⟨14, 0, 0⟩, callI en (x.kids.headD 0), ⟨15, 0, 0⟩]
  else [⟨16, (((x.bytes[0]?).getD 0).toNat : Int), 0⟩]
def ruleI (x : Rul) (s : Int) (en : List Int) : List Ins := bodyI x s en ++ [⟨10, 0, 0⟩]
theorem chTags_next {tags : List Int} {first : Int} {j : Nat} {t : Int} (h : tags[j]? = some t) : chTags tags first (j + 1) = chTags tags first j ++ [⟨11, t, w64 (first + 2 * (j : Int))⟩] := by
  unfold chTags
  rw [List.range_succ, List.map_append, List.map_singleton, h]
  rfl
theorem chCalls_next {kids en : List Int} {j : Nat} {z : Int} (h : kids[j + 1]? = some z) : chCalls kids en (j + 1) = chCalls kids en j ++ ((if j = 0 then [] else [⟨10, 0, 0⟩]) ++ [callI en z]) := by
  unfold chCalls
  rw [List.range_succ, List.flatMap_append, List.flatMap_singleton, h]
  rfl
theorem chTags_len (tags : List Int) (first : Int) (j : Nat) : (chTags tags first j).length = j := by simp [chTags]
theorem chCalls_len (kids en : List Int) : ∀ j : Nat, (chCalls kids en j).length ≤ 2 * j
  | 0 => by simp [chCalls]
  | j + 1 => by
    have h := chCalls_len kids en j
    unfold chCalls at h ⊢
    rw [List.range_succ, List.flatMap_append, List.flatMap_singleton, List.length_append, List.length_append, List.length_singleton]
    split
    · simp only [List.length_nil]; omega
    · simp only [List.length_singleton]; omega
instance : TB Try.prog 86 [(0, 1), (1, 1), (2, 1)] [.int .i64 0, .int .i64 0, .int .i64 0] := ⟨_, _, _, rfl, rfl, rfl, rfl, by kernel_rfl, by decide⟩
instance : TB Try.prog 96 [(0, 1), (1, 1), (2, 1), (3, 1)] [.slice none 0 0, .int .i64 0, .slice none 0 0, .slice none 0 0] := ⟨_, _, _, rfl, rfl, rfl, rfl, by kernel_rfl, by decide⟩
/-- What the compiler holds. -/
def cO (d : Des) (s : Int) (en : List Int) (code : List Ins) : List Ob := [⟨96, 0, [.ro (rulsR d), .int s, .ro (intsR en), .own 1]⟩, ⟨86, 3, (code.flatMap insR).map .ro⟩]
theorem onlys_ros (p : Nat → Prop) : ∀ rs : List RV, AV.onlys p (rs.map .ro)
  | [] => by simp [AV.onlys]
  | r :: rs => by simp only [List.map_cons, AV.onlys, AV.only]; exact ⟨trivial, onlys_ros p rs⟩
theorem cO_free (d : Des) (s : Int) (en : List Int) (code : List Ins) : FreeO 2 (cO d s en code) := by
  simp only [cO, FreeO]
  exact ⟨by simp [AV.onlys, AV.only], onlys_ros _ _, trivial⟩
theorem insR_flat (l : List Ins) : (l.flatMap insR).length = l.length * 3 := by
  induction l with
  | nil => rfl
  | cons x l ih => rw [List.flatMap_cons, List.length_append, ih, insR_len, List.length_cons]; omega
theorem Runs.endA {P : Program} {C : Ctx} {fn : Func} {gs : Nat → Nat} {env : Env} {σ σ' more : List Ob} {t : Nat} (hp : look env t = .pin 0 0 (gs 0)) (hσ : σ = σ' ++ more) (hl : 0 < σ'.length) (hc : FreeO σ'.length σ') (hr : fn.results = #[]) :
    Runs P C [] (EndsA P C fn gs [0] σ' (.tup [])) ⟨env, σ⟩ :=
  Runs.shed (E' := [(t, .pin 0 0 (gs 0))]) ⟨hp, trivial⟩ hσ ⟨by simpa only [AV.only] using hl, trivial⟩ hc (Runs.end_ (endsA0 (fun i hi => by simp at hi; subst hi; exact ⟨t, 0, by simp [look]⟩) hr rfl))
set_option maxHeartbeats 2000000 in
theorem add_am (d : Des) (s : Int) (en : List Int) (code : List Ins) (op a b : Int) (hl : code.length ≤ 4194304) : AM Try.prog 76 (cO d s en code) [0] [.obj 0 0, .int op, .int a, .int b] (cO d s en (code ++ [⟨op, a, b⟩])) (.tup []) := by
  refine am_enter Try.func76 rfl _ Try.ntmps76 (by simp) (by simp) fun C gs hn => ?_
  have hfl := insR_flat code
  repeat' (first
    | refine RunsL.junk 0 3 rfl (op_append (n := code.length) (i := 1) rfl rfl rfl rfl rfl rfl (by rw [hfl]) (FreeI.at_ (i := 1) ⟨by simp [AV.onlys, AV.only], onlys_ros _ _, trivial⟩) (by simp; omega) (by simp; omega) (tl hn rfl) ?_)
    | refine RunsL.step tabOk hn rfl ?_
    | refine RunsL.nil ?_
    | refine Runs.toRegion 30 rfl ?_
    | (refine RunsL.pe hn rfl rfl rfl ?_; first
      | refine ⟨_, pu_nilCheckP rfl, ?_⟩
      | refine ⟨_, pu_buildS rfl, ?_⟩)
    | (refine Runs.ctls 30 rfl ?_; first | refine Runs.cond_t rfl ?_ | refine Runs.cond_f rfl ?_ | ((first | refine Runs.cond_yes rfl ?_ ?_ | refine Runs.cond_nno rfl ?_ ?_); · first | omega | rfl | assumption | (simp only [List.length_map]; omega)) | ((first | refine Runs.cond_no rfl ?_ ?_ | refine Runs.cond_nyes rfl ?_ ?_); · first | omega | rfl | assumption | (simp only [List.length_map]; omega)) | refine Runs.cond_dec rfl (fun h => ?_) (fun h => ?_) | refine Runs.cond_ndec rfl (fun h => ?_) (fun h => ?_) | refine Runs.cond_nb rfl (fun h => ?_) (fun h => ?_) | refine Runs.cond_b rfl (fun h => ?_) (fun h => ?_) | refine Runs.ret (ends_ro hm rfl rfl ?_) | exact Runs.ret (ends_cellR hm rfl rfl rfl (Nat.le_of_ble_eq_true rfl) rfl rfl))
    | refine op_box rfl (tl hn rfl) ?_
    | refine op_storeF rfl rfl rfl rfl (Nat.le_of_ble_eq_true rfl) ?_
    | refine op_alloc (tl hn rfl) ?_
    | refine op_storeN rfl rfl rfl rfl (Nat.le_of_ble_eq_true rfl) ?_
    | (refine RunsL.pe hn rfl rfl rfl ?_; first
      | refine ⟨_, pu_add rfl rfl (by omega), ?_⟩
      | refine ⟨_, pu_indexAddr_map rfl rfl (by omega) (by assumption), ?_⟩
      | refine ⟨_, pu_sub rfl rfl (by omega), ?_⟩
      | refine ⟨_, pu_pick_b rfl rfl rfl, ?_⟩
      | refine ⟨_, pu_mul rfl rfl (by omega), ?_⟩
      | refine ⟨_, pu_build rfl rfl rfl rfl rfl rfl, ?_⟩))
  refine Runs.ctls 30 rfl ?_
  refine Runs.endA (more := []) (t := 0) rfl ?_ (by simp [cO]) (cO_free _ _ _ _) rfl
  rw [List.append_nil]
  unfold cO
  rw [List.flatMap_append]
  rfl
theorem cO_app {d : Des} {s : Int} {en : List Int} {code code' : List Ins} {more : List Ob} (h : code = code') : cO d s en code ++ more = cO d s en code' ++ more := by rw [h]
theorem lend_c {C : Ctx} {d : Des} {s : Int} {en : List Int} {code : List Ins} {σ more : List Ob} {g : Nat} (h : σ = cO d s en code ++ more) : Lends C σ (.pin 0 0 g) (.rp [rulsR d, .int s, intsR en, inssR code]) := by
  subst h
  exact Lends.pin rfl (.cons .ro (.cons .ro (.cons .ro (.cons (Lends.own (o := ⟨86, 3, (code.flatMap insR).map .ro⟩) (els := code.map insR) rfl rfl fun x hx => by obtain ⟨y, _, rfl⟩ := List.mem_map.1 hx; rfl) .nil))))
theorem here_ac (d : Des) (s : Int) (en : List Int) (code : List Ins) : ACv Try.prog 91 [.rp [rulsR d, .int s, intsR en, inssR code]] (.int (w64 (s + code.length))) := by
  have hl : (code.map insR).length = code.length := List.length_map ..
  refine ac_enter Try.func91 rfl _ Try.ntmps91 (by simp) fun C hn hm => ?_
  repeat' (first
    | ((first | refine RunsL.pe hn rfl rfl rfl ?_ | refine RunsD.pe rfl rfl ?_); first
      | refine ⟨_, pu_addW rfl rfl, ?_⟩)
    | refine RunsL.step tabOk hn rfl ?_
    | refine RunsL.nil ?_
    | refine Runs.toRegion 30 rfl ?_
    | ((first | refine RunsL.pe hn rfl rfl rfl ?_ | refine RunsD.pe rfl rfl ?_); first
      | refine ⟨_, pu_nilCheck rfl, ?_⟩)
    | (refine Runs.ctls 30 rfl ?_; first | refine Runs.cond_t rfl ?_ | refine Runs.cond_f rfl ?_ | ((first | refine Runs.cond_yes rfl ?_ ?_ | refine Runs.cond_nno rfl ?_ ?_); · first | omega | rfl | assumption | (simp only [List.length_map]; omega)) | ((first | refine Runs.cond_no rfl ?_ ?_ | refine Runs.cond_nyes rfl ?_ ?_); · first | omega | rfl | assumption | (simp only [List.length_map]; omega)) | refine Runs.cond_dec rfl (fun h => ?_) (fun h => ?_) | refine Runs.cond_ndec rfl (fun h => ?_) (fun h => ?_) | refine Runs.cond_nb rfl (fun h => ?_) (fun h => ?_) | refine Runs.cond_b rfl (fun h => ?_) (fun h => ?_) | refine Runs.ret (ends_ro hm rfl rfl ?_) | exact Runs.ret (ends_cellR hm rfl rfl rfl (Nat.le_of_ble_eq_true rfl) rfl rfl))
    | refine op_box rfl (tl hn rfl) ?_
    | refine op_storeF rfl rfl rfl rfl (Nat.le_of_ble_eq_true rfl) ?_
    | refine op_alloc (tl hn rfl) ?_
    | refine op_storeN rfl rfl rfl rfl (Nat.le_of_ble_eq_true rfl) ?_
    | refine RunsD.step tabOk hn rfl rfl ?_
    | refine RunsD.nil ?_
    | refine Runs.toDraw 30 mixed hn rfl (by kernel_rfl) rfl ?_
    | ((first | refine RunsL.pe hn rfl rfl rfl ?_ | refine RunsD.pe rfl rfl ?_); first
      | refine ⟨_, pu_add rfl rfl (by omega), ?_⟩
      | refine ⟨_, pu_indexAddr_map rfl rfl (by omega) (by assumption), ?_⟩
      | refine ⟨_, pu_sub rfl rfl (by omega), ?_⟩
      | refine ⟨_, pu_pick_b rfl rfl rfl, ?_⟩
      | refine ⟨_, pu_mul rfl rfl (by omega), ?_⟩
      | refine ⟨_, pu_build rfl rfl rfl rfl rfl rfl, ?_⟩))
  exact rr_int (by rw [hl])
set_option maxHeartbeats 2000000 in
theorem call_am (d : Des) (s : Int) (en : List Int) (code : List Ins) (r : Int) (hl : code.length ≤ 4194304) (h0 : 0 ≤ r) (h1 : r < en.length) : AM Try.prog 90 (cO d s en code) [0] [.obj 0 0, .int r] (cO d s en (code ++ [callI en r])) (.tup []) := by
  refine am_enter Try.func90 rfl _ Try.ntmps90 (by simp) (by simp) fun C gs hn => ?_
  obtain ⟨z, hz⟩ : ∃ z, en[r.toNat]? = some z := ⟨_, List.getElem?_eq_getElem (by omega)⟩
  have hle : (en.map fun z => [RV.int z]).length = en.length := List.length_map ..
  repeat' (first
    | refine op_callP 2 (add_am d s en _ _ _ _ (by first | omega | (simp only [List.length_append, List.length_cons, List.length_nil]; omega))) rfl (by simp [AV.onlys, AV.only]) (by simp [AV.only, AV.onlys]) (List.append_nil _).symm rfl rfl (cO_free _ _ _ _) (cO_free _ _ _ _) rfl trivial (fun t h => by injection h with h; subst h; exact tl hn rfl) ?_
    | refine RunsL.step tabOk hn rfl ?_
    | refine RunsL.nil ?_
    | refine Runs.toRegion 30 rfl ?_
    | (refine RunsL.pe hn rfl rfl rfl ?_; first
      | refine ⟨_, pu_nilCheckP rfl, ?_⟩)
    | (refine Runs.ctls 30 rfl ?_; first | refine Runs.cond_t rfl ?_ | refine Runs.cond_f rfl ?_ | ((first | refine Runs.cond_yes rfl ?_ ?_ | refine Runs.cond_nno rfl ?_ ?_); · first | omega | rfl | assumption | (simp only [List.length_map]; omega)) | ((first | refine Runs.cond_no rfl ?_ ?_ | refine Runs.cond_nyes rfl ?_ ?_); · first | omega | rfl | assumption | (simp only [List.length_map]; omega)) | refine Runs.cond_dec rfl (fun h => ?_) (fun h => ?_) | refine Runs.cond_ndec rfl (fun h => ?_) (fun h => ?_) | refine Runs.cond_nb rfl (fun h => ?_) (fun h => ?_) | refine Runs.cond_b rfl (fun h => ?_) (fun h => ?_) | refine Runs.ret (ends_ro hm rfl rfl ?_) | exact Runs.ret (ends_cellR hm rfl rfl rfl (Nat.le_of_ble_eq_true rfl) rfl rfl))
    | refine op_box rfl (tl hn rfl) ?_
    | refine op_storeF rfl rfl rfl rfl (Nat.le_of_ble_eq_true rfl) ?_
    | refine op_alloc (tl hn rfl) ?_
    | refine op_storeN rfl rfl rfl rfl (Nat.le_of_ble_eq_true rfl) ?_
    | (refine RunsL.pe hn rfl rfl rfl ?_; first
      | refine ⟨_, pu_add rfl rfl (by omega), ?_⟩
      | refine ⟨_, pu_indexAddr_map rfl rfl (by omega) (by assumption), ?_⟩
      | refine ⟨_, pu_sub rfl rfl (by omega), ?_⟩
      | refine ⟨_, pu_pick_b rfl rfl rfl, ?_⟩
      | refine ⟨_, pu_mul rfl rfl (by omega), ?_⟩
      | refine ⟨_, pu_build rfl rfl rfl rfl rfl rfl, ?_⟩))
  refine Runs.ctls 30 rfl ?_
  refine Runs.endA (more := []) (t := 0) rfl (cO_app ?_) (by simp [cO]) (cO_free _ _ _ _) rfl
  unfold callI
  rw [hz]
  rfl
def RuleOkC (d : Des) (x : Rul) (en : List Int) : Prop := KindOk d x ∧ ∀ (k : Nat) z, x.kids[k]? = some z → 0 ≤ z ∧ z < en.length
theorem kid0 {d : Des} {x : Rul} {en : List Int} (h : RuleOkC d x en) (hl : 0 < x.kids.length) : x.kids[(0 : Int).toNat]? = some (x.kids.headD 0) ∧ 0 ≤ x.kids.headD 0 ∧ x.kids.headD 0 < en.length := by
  have hx : x.kids[(0 : Int).toNat]? = some (x.kids.headD 0) := by
    cases hk : x.kids with
    | nil => rw [hk] at hl; simp at hl
    | cons a l => rfl
  exact ⟨hx, h.2 0 _ hx⟩
set_option maxHeartbeats 4000000 in
theorem integer_am (d : Des) (s : Int) (en : List Int) (x : Rul) (hk : x.kind = 1) : AM Try.prog 66 (cO d s en []) [0] [.obj 0 0, .ro (.agg (rulR x))] (cO d s en (bodyI x s en)) (.tup []) := by
  refine am_enter Try.func66 rfl _ Try.ntmps66 (by simp) (by simp) fun C gs hn => ?_
  obtain ⟨nm, kd, sz, li, bs, ns, tg, ki⟩ := x
  simp only at hk
  subst hk
  cases li
  all_goals
    repeat' (first
      | refine op_callP 2 (add_am d s en _ _ _ _ (by first | omega | (simp only [List.length_append, List.length_cons, List.length_nil]; omega))) rfl (by simp [AV.onlys, AV.only]) (by simp [AV.only, AV.onlys]) rfl rfl rfl (cO_free _ _ _ _) (cO_free _ _ _ _) rfl ⟨rfl, trivial⟩ (fun t h => by injection h with h; subst h; exact tl hn rfl) ?_
      | refine RunsL.step tabOk hn rfl ?_
      | refine RunsL.nil ?_
      | refine Runs.toRegion 30 rfl ?_
      | (refine RunsL.pe hn rfl rfl rfl ?_; first
        | refine ⟨_, pu_nilCheckP rfl, ?_⟩)
      | (refine Runs.ctls 30 rfl ?_; first | refine Runs.cond_t rfl ?_ | refine Runs.cond_f rfl ?_ | ((first | refine Runs.cond_yes rfl ?_ ?_ | refine Runs.cond_nno rfl ?_ ?_); · first | omega | rfl | assumption | (simp only [List.length_map]; omega)) | ((first | refine Runs.cond_no rfl ?_ ?_ | refine Runs.cond_nyes rfl ?_ ?_); · first | omega | rfl | assumption | (simp only [List.length_map]; omega)) | refine Runs.cond_dec rfl (fun h => ?_) (fun h => ?_) | refine Runs.cond_ndec rfl (fun h => ?_) (fun h => ?_) | refine Runs.cond_nb rfl (fun h => ?_) (fun h => ?_) | refine Runs.cond_b rfl (fun h => ?_) (fun h => ?_) | refine Runs.ret (ends_ro hm rfl rfl ?_) | exact Runs.ret (ends_cellR hm rfl rfl rfl (Nat.le_of_ble_eq_true rfl) rfl rfl))
      | refine op_box rfl (tl hn rfl) ?_
      | refine op_storeF rfl rfl rfl rfl (Nat.le_of_ble_eq_true rfl) ?_
      | refine op_alloc (tl hn rfl) ?_
      | refine op_storeN rfl rfl rfl rfl (Nat.le_of_ble_eq_true rfl) ?_
      | (refine RunsL.pe hn rfl rfl rfl ?_; first
        | refine ⟨_, pu_add rfl rfl (by omega), ?_⟩
        | refine ⟨_, pu_indexAddr_map rfl rfl (by omega) (by assumption), ?_⟩
        | refine ⟨_, pu_sub rfl rfl (by omega), ?_⟩
        | refine ⟨_, pu_pick_b rfl rfl rfl, ?_⟩
        | refine ⟨_, pu_mul rfl rfl (by omega), ?_⟩
        | refine ⟨_, pu_build rfl rfl rfl rfl rfl rfl, ?_⟩))
    refine Runs.ctls 30 rfl ?_
    exact Runs.endA (t := 0) rfl (cO_app rfl) (by simp [cO]) (cO_free _ _ _ _) rfl
theorem fixed_am (d : Des) (s : Int) (en : List Int) (x : Rul) (hk : x.kind = 3) : AM Try.prog 68 (cO d s en []) [0] [.obj 0 0, .ro (.agg (rulR x))] (cO d s en (bodyI x s en)) (.tup []) := by
  refine am_enter Try.func68 rfl _ Try.ntmps68 (by simp) (by simp) fun C gs hn => ?_
  repeat' (first
    | refine op_callP 2 (add_am d s en _ _ _ _ (by first | omega | (simp only [List.length_append, List.length_cons, List.length_nil]; omega))) rfl (by simp [AV.onlys, AV.only]) (by simp [AV.only, AV.onlys]) rfl rfl rfl (cO_free _ _ _ _) (cO_free _ _ _ _) rfl ⟨rfl, trivial⟩ (fun t h => by injection h with h; subst h; exact tl hn rfl) ?_
    | refine RunsL.step tabOk hn rfl ?_
    | refine RunsL.nil ?_
    | refine Runs.toRegion 30 rfl ?_
    | (refine RunsL.pe hn rfl rfl rfl ?_; first
      | refine ⟨_, pu_nilCheckP rfl, ?_⟩)
    | (refine Runs.ctls 30 rfl ?_; first | refine Runs.cond_t rfl ?_ | refine Runs.cond_f rfl ?_ | ((first | refine Runs.cond_yes rfl ?_ ?_ | refine Runs.cond_nno rfl ?_ ?_); · first | omega | rfl | assumption | (simp only [List.length_map]; omega)) | ((first | refine Runs.cond_no rfl ?_ ?_ | refine Runs.cond_nyes rfl ?_ ?_); · first | omega | rfl | assumption | (simp only [List.length_map]; omega)) | refine Runs.cond_dec rfl (fun h => ?_) (fun h => ?_) | refine Runs.cond_ndec rfl (fun h => ?_) (fun h => ?_) | refine Runs.cond_nb rfl (fun h => ?_) (fun h => ?_) | refine Runs.cond_b rfl (fun h => ?_) (fun h => ?_) | refine Runs.ret (ends_ro hm rfl rfl ?_) | exact Runs.ret (ends_cellR hm rfl rfl rfl (Nat.le_of_ble_eq_true rfl) rfl rfl))
    | refine op_box rfl (tl hn rfl) ?_
    | refine op_storeF rfl rfl rfl rfl (Nat.le_of_ble_eq_true rfl) ?_
    | refine op_alloc (tl hn rfl) ?_
    | refine op_storeN rfl rfl rfl rfl (Nat.le_of_ble_eq_true rfl) ?_
    | (refine RunsL.pe hn rfl rfl rfl ?_; first
      | refine ⟨_, pu_add rfl rfl (by omega), ?_⟩
      | refine ⟨_, pu_indexAddr_map rfl rfl (by omega) (by assumption), ?_⟩
      | refine ⟨_, pu_sub rfl rfl (by omega), ?_⟩
      | refine ⟨_, pu_pick_b rfl rfl rfl, ?_⟩
      | refine ⟨_, pu_mul rfl rfl (by omega), ?_⟩
      | refine ⟨_, pu_build rfl rfl rfl rfl rfl rfl, ?_⟩))
  refine Runs.ctls 30 rfl ?_
  refine Runs.endA (t := 0) rfl (cO_app ?_) (by simp [cO]) (cO_free _ _ _ _) rfl
  simp [bodyI, hk]
theorem terminated_am (d : Des) (s : Int) (en : List Int) (x : Rul) (hk : x.kind = 10) (hb : x.bytes.length = 1) : AM Try.prog 75 (cO d s en []) [0] [.obj 0 0, .ro (.agg (rulR x))] (cO d s en (bodyI x s en)) (.tup []) := by
  refine am_enter Try.func75 rfl _ Try.ntmps75 (by simp) (by simp) fun C gs hn => ?_
  obtain ⟨b, hx⟩ : ∃ b, x.bytes[(0 : Int).toNat]? = some b := ⟨_, List.getElem?_eq_getElem (by simp; omega)⟩
  have hx' : x.bytes[0]? = some b := hx
  have hle : (x.bytes.map fun z => [RV.u8 z]).length = x.bytes.length := List.length_map ..
  repeat' (first
    | refine op_callP 2 (add_am d s en _ _ _ _ (by first | omega | (simp only [List.length_append, List.length_cons, List.length_nil]; omega))) rfl (by simp [AV.onlys, AV.only]) (by simp [AV.only, AV.onlys]) rfl rfl rfl (cO_free _ _ _ _) (cO_free _ _ _ _) rfl ⟨rfl, trivial⟩ (fun t h => by injection h with h; subst h; exact tl hn rfl) ?_
    | refine RunsL.step tabOk hn rfl ?_
    | refine RunsL.nil ?_
    | refine Runs.toRegion 30 rfl ?_
    | (refine RunsL.pe hn rfl rfl rfl ?_; first
      | refine ⟨_, pu_nilCheckP rfl, ?_⟩
      | refine ⟨_, pu_ofU8 rfl, ?_⟩)
    | (refine Runs.ctls 30 rfl ?_; first | refine Runs.cond_t rfl ?_ | refine Runs.cond_f rfl ?_ | ((first | refine Runs.cond_yes rfl ?_ ?_ | refine Runs.cond_nno rfl ?_ ?_); · first | omega | rfl | assumption | (simp only [List.length_map]; omega)) | ((first | refine Runs.cond_no rfl ?_ ?_ | refine Runs.cond_nyes rfl ?_ ?_); · first | omega | rfl | assumption | (simp only [List.length_map]; omega)) | refine Runs.cond_dec rfl (fun h => ?_) (fun h => ?_) | refine Runs.cond_ndec rfl (fun h => ?_) (fun h => ?_) | refine Runs.cond_nb rfl (fun h => ?_) (fun h => ?_) | refine Runs.cond_b rfl (fun h => ?_) (fun h => ?_) | refine Runs.ret (ends_ro hm rfl rfl ?_) | exact Runs.ret (ends_cellR hm rfl rfl rfl (Nat.le_of_ble_eq_true rfl) rfl rfl))
    | refine op_box rfl (tl hn rfl) ?_
    | refine op_storeF rfl rfl rfl rfl (Nat.le_of_ble_eq_true rfl) ?_
    | refine op_alloc (tl hn rfl) ?_
    | refine op_storeN rfl rfl rfl rfl (Nat.le_of_ble_eq_true rfl) ?_
    | (refine RunsL.pe hn rfl rfl rfl ?_; first
      | refine ⟨_, pu_add rfl rfl (by omega), ?_⟩
      | refine ⟨_, pu_indexAddr_map rfl rfl (by omega) (by assumption), ?_⟩
      | refine ⟨_, pu_sub rfl rfl (by omega), ?_⟩
      | refine ⟨_, pu_pick_b rfl rfl rfl, ?_⟩
      | refine ⟨_, pu_mul rfl rfl (by omega), ?_⟩
      | refine ⟨_, pu_build rfl rfl rfl rfl rfl rfl, ?_⟩))
  refine Runs.ctls 30 rfl ?_
  refine Runs.endA (t := 0) rfl (cO_app ?_) (by simp [cO]) (cO_free _ _ _ _) rfl
  simp [bodyI, hk, hx']
set_option maxHeartbeats 4000000 in
theorem sized_am (d : Des) (s : Int) (en : List Int) (x : Rul) (hk : x.kind = 4) (hr : RuleOkC d x en) : AM Try.prog 69 (cO d s en []) [0] [.obj 0 0, .ro (.agg (rulR x))] (cO d s en (bodyI x s en)) (.tup []) := by
  refine am_enter Try.func69 rfl _ Try.ntmps69 (by simp) (by simp) fun C gs hn => ?_
  obtain ⟨f5, f7, f8, f4⟩ := item_fields hr.1
  have hlk : (x.kids.map fun z => [RV.int z]).length = x.kids.length := List.length_map ..
  obtain ⟨h0, h1, h2⟩ := kid0 hr (by have := f4 hk; omega)
  repeat' (first
    | refine op_callP 2 (add_am d s en _ _ _ _ (by first | omega | (simp only [List.length_append, List.length_cons, List.length_nil]; omega))) rfl (by simp [AV.onlys, AV.only]) (by simp [AV.only, AV.onlys]) rfl rfl rfl (cO_free _ _ _ _) (cO_free _ _ _ _) rfl ⟨rfl, trivial⟩ (fun t h => by injection h with h; subst h; exact tl hn rfl) ?_
    | refine op_callP 2 (call_am d s en _ _ (by first | omega | (simp only [List.length_append, List.length_cons, List.length_nil]; omega)) (by omega) (by omega)) rfl (by simp [AV.onlys, AV.only]) (by simp [AV.only, AV.onlys]) rfl rfl rfl (cO_free _ _ _ _) (cO_free _ _ _ _) rfl ⟨rfl, trivial⟩ (fun t h => by injection h with h; subst h; exact tl hn rfl) ?_
    | refine RunsL.step tabOk hn rfl ?_
    | refine RunsL.nil ?_
    | refine Runs.toRegion 30 rfl ?_
    | (refine RunsL.pe hn rfl rfl rfl ?_; first
      | refine ⟨_, pu_nilCheckP rfl, ?_⟩)
    | (refine Runs.ctls 30 rfl ?_; first | refine Runs.cond_t rfl ?_ | refine Runs.cond_f rfl ?_ | ((first | refine Runs.cond_yes rfl ?_ ?_ | refine Runs.cond_nno rfl ?_ ?_); · first | omega | rfl | assumption | (simp only [List.length_map]; omega)) | ((first | refine Runs.cond_no rfl ?_ ?_ | refine Runs.cond_nyes rfl ?_ ?_); · first | omega | rfl | assumption | (simp only [List.length_map]; omega)) | refine Runs.cond_dec rfl (fun h => ?_) (fun h => ?_) | refine Runs.cond_ndec rfl (fun h => ?_) (fun h => ?_) | refine Runs.cond_nb rfl (fun h => ?_) (fun h => ?_) | refine Runs.cond_b rfl (fun h => ?_) (fun h => ?_) | refine Runs.ret (ends_ro hm rfl rfl ?_) | exact Runs.ret (ends_cellR hm rfl rfl rfl (Nat.le_of_ble_eq_true rfl) rfl rfl))
    | refine op_box rfl (tl hn rfl) ?_
    | refine op_storeF rfl rfl rfl rfl (Nat.le_of_ble_eq_true rfl) ?_
    | refine op_alloc (tl hn rfl) ?_
    | refine op_storeN rfl rfl rfl rfl (Nat.le_of_ble_eq_true rfl) ?_
    | (refine RunsL.pe hn rfl rfl rfl ?_; first
      | refine ⟨_, pu_add rfl rfl (by omega), ?_⟩
      | refine ⟨_, pu_indexAddr_map rfl rfl (by omega) (by assumption), ?_⟩
      | refine ⟨_, pu_sub rfl rfl (by omega), ?_⟩
      | refine ⟨_, pu_pick_b rfl rfl rfl, ?_⟩
      | refine ⟨_, pu_mul rfl rfl (by omega), ?_⟩
      | refine ⟨_, pu_build rfl rfl rfl rfl rfl rfl, ?_⟩))
  refine Runs.ctls 30 rfl ?_
  refine Runs.endA (t := 0) rfl (cO_app ?_) (by simp [cO]) (cO_free _ _ _ _) rfl
  simp [bodyI, hk]
set_option maxHeartbeats 4000000 in
theorem option_am (d : Des) (s : Int) (en : List Int) (x : Rul) (hk : x.kind = 8) (hr : RuleOkC d x en) : AM Try.prog 73 (cO d s en []) [0] [.obj 0 0, .ro (.agg (rulR x))] (cO d s en (bodyI x s en)) (.tup []) := by
  refine am_enter Try.func73 rfl _ Try.ntmps73 (by simp) (by simp) fun C gs hn => ?_
  obtain ⟨f5, f7, f8, f4⟩ := item_fields hr.1
  have hlk : (x.kids.map fun z => [RV.int z]).length = x.kids.length := List.length_map ..
  obtain ⟨h0, h1, h2⟩ := kid0 hr (by have := f8 (.inl hk); omega)
  repeat' (first
    | refine op_callP 2 (add_am d s en _ _ _ _ (by first | omega | (simp only [List.length_append, List.length_cons, List.length_nil]; omega))) rfl (by simp [AV.onlys, AV.only]) (by simp [AV.only, AV.onlys]) rfl rfl rfl (cO_free _ _ _ _) (cO_free _ _ _ _) rfl ⟨rfl, trivial⟩ (fun t h => by injection h with h; subst h; exact tl hn rfl) ?_
    | refine op_callP 2 (call_am d s en _ _ (by first | omega | (simp only [List.length_append, List.length_cons, List.length_nil]; omega)) (by omega) (by omega)) rfl (by simp [AV.onlys, AV.only]) (by simp [AV.only, AV.onlys]) rfl rfl rfl (cO_free _ _ _ _) (cO_free _ _ _ _) rfl ⟨rfl, trivial⟩ (fun t h => by injection h with h; subst h; exact tl hn rfl) ?_
    | (refine RunsL.pe hn rfl rfl rfl ?_; first
      | refine ⟨_, pu_callL (here_ac d s en _) (.cons (lend_c rfl) .nil), ?_⟩
      | refine ⟨_, pu_addW rfl rfl, ?_⟩)
    | refine RunsL.step tabOk hn rfl ?_
    | refine RunsL.nil ?_
    | refine Runs.toRegion 30 rfl ?_
    | (refine RunsL.pe hn rfl rfl rfl ?_; first
      | refine ⟨_, pu_nilCheckP rfl, ?_⟩)
    | (refine Runs.ctls 30 rfl ?_; first | refine Runs.cond_t rfl ?_ | refine Runs.cond_f rfl ?_ | ((first | refine Runs.cond_yes rfl ?_ ?_ | refine Runs.cond_nno rfl ?_ ?_); · first | omega | rfl | assumption | (simp only [List.length_map]; omega)) | ((first | refine Runs.cond_no rfl ?_ ?_ | refine Runs.cond_nyes rfl ?_ ?_); · first | omega | rfl | assumption | (simp only [List.length_map]; omega)) | refine Runs.cond_dec rfl (fun h => ?_) (fun h => ?_) | refine Runs.cond_ndec rfl (fun h => ?_) (fun h => ?_) | refine Runs.cond_nb rfl (fun h => ?_) (fun h => ?_) | refine Runs.cond_b rfl (fun h => ?_) (fun h => ?_) | refine Runs.ret (ends_ro hm rfl rfl ?_) | exact Runs.ret (ends_cellR hm rfl rfl rfl (Nat.le_of_ble_eq_true rfl) rfl rfl))
    | refine op_box rfl (tl hn rfl) ?_
    | refine op_storeF rfl rfl rfl rfl (Nat.le_of_ble_eq_true rfl) ?_
    | refine op_alloc (tl hn rfl) ?_
    | refine op_storeN rfl rfl rfl rfl (Nat.le_of_ble_eq_true rfl) ?_
    | (refine RunsL.pe hn rfl rfl rfl ?_; first
      | refine ⟨_, pu_add rfl rfl (by omega), ?_⟩
      | refine ⟨_, pu_indexAddr_map rfl rfl (by omega) (by assumption), ?_⟩
      | refine ⟨_, pu_sub rfl rfl (by omega), ?_⟩
      | refine ⟨_, pu_pick_b rfl rfl rfl, ?_⟩
      | refine ⟨_, pu_mul rfl rfl (by omega), ?_⟩
      | refine ⟨_, pu_build rfl rfl rfl rfl rfl rfl, ?_⟩))
  refine Runs.ctls 30 rfl ?_
  refine Runs.endA (t := 0) rfl (cO_app ?_) (by simp [cO]) (cO_free _ _ _ _) rfl
  have := w64_add (s + 0) 2
  simp [bodyI, hk]
  simpa using this
set_option maxHeartbeats 4000000 in
theorem checked_am (d : Des) (s : Int) (en : List Int) (x : Rul) (hk : x.kind = 9) (hr : RuleOkC d x en) : AM Try.prog 74 (cO d s en []) [0] [.obj 0 0, .ro (.agg (rulR x))] (cO d s en (bodyI x s en)) (.tup []) := by
  refine am_enter Try.func74 rfl _ Try.ntmps74 (by simp) (by simp) fun C gs hn => ?_
  obtain ⟨f5, f7, f8, f4⟩ := item_fields hr.1
  have hlk : (x.kids.map fun z => [RV.int z]).length = x.kids.length := List.length_map ..
  obtain ⟨h0, h1, h2⟩ := kid0 hr (by have := f8 (.inr hk); omega)
  repeat' (first
    | refine op_callP 2 (add_am d s en _ _ _ _ (by first | omega | (simp only [List.length_append, List.length_cons, List.length_nil]; omega))) rfl (by simp [AV.onlys, AV.only]) (by simp [AV.only, AV.onlys]) rfl rfl rfl (cO_free _ _ _ _) (cO_free _ _ _ _) rfl ⟨rfl, trivial⟩ (fun t h => by injection h with h; subst h; exact tl hn rfl) ?_
    | refine op_callP 2 (call_am d s en _ _ (by first | omega | (simp only [List.length_append, List.length_cons, List.length_nil]; omega)) (by omega) (by omega)) rfl (by simp [AV.onlys, AV.only]) (by simp [AV.only, AV.onlys]) rfl rfl rfl (cO_free _ _ _ _) (cO_free _ _ _ _) rfl ⟨rfl, trivial⟩ (fun t h => by injection h with h; subst h; exact tl hn rfl) ?_
    | refine RunsL.step tabOk hn rfl ?_
    | refine RunsL.nil ?_
    | refine Runs.toRegion 30 rfl ?_
    | (refine RunsL.pe hn rfl rfl rfl ?_; first
      | refine ⟨_, pu_nilCheckP rfl, ?_⟩)
    | (refine Runs.ctls 30 rfl ?_; first | refine Runs.cond_t rfl ?_ | refine Runs.cond_f rfl ?_ | ((first | refine Runs.cond_yes rfl ?_ ?_ | refine Runs.cond_nno rfl ?_ ?_); · first | omega | rfl | assumption | (simp only [List.length_map]; omega)) | ((first | refine Runs.cond_no rfl ?_ ?_ | refine Runs.cond_nyes rfl ?_ ?_); · first | omega | rfl | assumption | (simp only [List.length_map]; omega)) | refine Runs.cond_dec rfl (fun h => ?_) (fun h => ?_) | refine Runs.cond_ndec rfl (fun h => ?_) (fun h => ?_) | refine Runs.cond_nb rfl (fun h => ?_) (fun h => ?_) | refine Runs.cond_b rfl (fun h => ?_) (fun h => ?_) | refine Runs.ret (ends_ro hm rfl rfl ?_) | exact Runs.ret (ends_cellR hm rfl rfl rfl (Nat.le_of_ble_eq_true rfl) rfl rfl))
    | refine op_box rfl (tl hn rfl) ?_
    | refine op_storeF rfl rfl rfl rfl (Nat.le_of_ble_eq_true rfl) ?_
    | refine op_alloc (tl hn rfl) ?_
    | refine op_storeN rfl rfl rfl rfl (Nat.le_of_ble_eq_true rfl) ?_
    | (refine RunsL.pe hn rfl rfl rfl ?_; first
      | refine ⟨_, pu_add rfl rfl (by omega), ?_⟩
      | refine ⟨_, pu_indexAddr_map rfl rfl (by omega) (by assumption), ?_⟩
      | refine ⟨_, pu_sub rfl rfl (by omega), ?_⟩
      | refine ⟨_, pu_pick_b rfl rfl rfl, ?_⟩
      | refine ⟨_, pu_mul rfl rfl (by omega), ?_⟩
      | refine ⟨_, pu_build rfl rfl rfl rfl rfl rfl, ?_⟩))
  refine Runs.ctls 30 rfl ?_
  refine Runs.endA (t := 0) rfl (cO_app ?_) (by simp [cO]) (cO_free _ _ _ _) rfl
  simp [bodyI, hk]
set_option maxHeartbeats 8000000 in
theorem array_am (d : Des) (s : Int) (en : List Int) (x : Rul) (hk : x.kind = 5) (hr : RuleOkC d x en) : AM Try.prog 70 (cO d s en []) [0] [.obj 0 0, .ro (.agg (rulR x))] (cO d s en (bodyI x s en)) (.tup []) := by
  refine am_enter Try.func70 rfl _ Try.ntmps70 (by simp) (by simp) fun C gs hn => ?_
  obtain ⟨f5, f7, f8, f4⟩ := item_fields hr.1
  have hlk : (x.kids.map fun z => [RV.int z]).length = x.kids.length := List.length_map ..
  have hk2 := f5 hk
  obtain ⟨h0, h1, h2⟩ := kid0 hr (by omega)
  obtain ⟨z, hz⟩ : ∃ z, x.kids[(1 : Int).toNat]? = some z := ⟨_, List.getElem?_eq_getElem (by simp; omega)⟩
  have hz' : x.kids[1]? = some z := hz
  obtain ⟨h3, h4⟩ := hr.2 1 z hz'
  repeat' (first
    | refine op_callP 2 (add_am d s en _ _ _ _ (by first | omega | (simp only [List.length_append, List.length_cons, List.length_nil]; omega))) rfl (by simp [AV.onlys, AV.only]) (by simp [AV.only, AV.onlys]) rfl rfl rfl (cO_free _ _ _ _) (cO_free _ _ _ _) rfl ⟨rfl, trivial⟩ (fun t h => by injection h with h; subst h; exact tl hn rfl) ?_
    | refine op_callP 2 (call_am d s en _ _ (by first | omega | (simp only [List.length_append, List.length_cons, List.length_nil]; omega)) (by omega) (by omega)) rfl (by simp [AV.onlys, AV.only]) (by simp [AV.only, AV.onlys]) rfl rfl rfl (cO_free _ _ _ _) (cO_free _ _ _ _) rfl ⟨rfl, trivial⟩ (fun t h => by injection h with h; subst h; exact tl hn rfl) ?_
    | (refine RunsL.pe hn rfl rfl rfl ?_; first
      | refine ⟨_, pu_callL (here_ac d s en _) (.cons (lend_c rfl) .nil), ?_⟩
      | refine ⟨_, pu_addW rfl rfl, ?_⟩)
    | refine RunsL.step tabOk hn rfl ?_
    | refine RunsL.nil ?_
    | refine Runs.toRegion 30 rfl ?_
    | (refine RunsL.pe hn rfl rfl rfl ?_; first
      | refine ⟨_, pu_nilCheckP rfl, ?_⟩)
    | (refine Runs.ctls 30 rfl ?_; first | refine Runs.cond_t rfl ?_ | refine Runs.cond_f rfl ?_ | ((first | refine Runs.cond_yes rfl ?_ ?_ | refine Runs.cond_nno rfl ?_ ?_); · first | omega | rfl | assumption | (simp only [List.length_map]; omega)) | ((first | refine Runs.cond_no rfl ?_ ?_ | refine Runs.cond_nyes rfl ?_ ?_); · first | omega | rfl | assumption | (simp only [List.length_map]; omega)) | refine Runs.cond_dec rfl (fun h => ?_) (fun h => ?_) | refine Runs.cond_ndec rfl (fun h => ?_) (fun h => ?_) | refine Runs.cond_nb rfl (fun h => ?_) (fun h => ?_) | refine Runs.cond_b rfl (fun h => ?_) (fun h => ?_) | refine Runs.ret (ends_ro hm rfl rfl ?_) | exact Runs.ret (ends_cellR hm rfl rfl rfl (Nat.le_of_ble_eq_true rfl) rfl rfl))
    | refine op_box rfl (tl hn rfl) ?_
    | refine op_storeF rfl rfl rfl rfl (Nat.le_of_ble_eq_true rfl) ?_
    | refine op_alloc (tl hn rfl) ?_
    | refine op_storeN rfl rfl rfl rfl (Nat.le_of_ble_eq_true rfl) ?_
    | (refine RunsL.pe hn rfl rfl rfl ?_; first
      | refine ⟨_, pu_add rfl rfl (by omega), ?_⟩
      | refine ⟨_, pu_indexAddr_map rfl rfl (by omega) (by assumption), ?_⟩
      | refine ⟨_, pu_sub rfl rfl (by omega), ?_⟩
      | refine ⟨_, pu_pick_b rfl rfl rfl, ?_⟩
      | refine ⟨_, pu_mul rfl rfl (by omega), ?_⟩
      | refine ⟨_, pu_build rfl rfl rfl rfl rfl rfl, ?_⟩))
  refine Runs.ctls 30 rfl ?_
  refine Runs.endA (t := 0) rfl (cO_app ?_) (by simp [cO]) (cO_free _ _ _ _) rfl
  have := w64_add (s + 3) 3
  simp [bodyI, hk, hz']
  simpa [Int.add_assoc] using this
end Go.Proofs.Ytignpklaefibaaa
