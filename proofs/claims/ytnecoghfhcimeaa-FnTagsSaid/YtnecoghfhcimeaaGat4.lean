/- Gathered texts. -/
import Derived.Test.YtnecoghfhcimeaaGat0
import Derived.Test.YtnecoghfhcimeaaGat1
import Derived.Test.YtnecoghfhcimeaaGat2
import Derived.Test.YtnecoghfhcimeaaGat3
/- Regions that draw their order, walked as a tree, with draws of an int among the operations. Over any program. -/
namespace Go.Proofs.Ytnecoghfhcimeaa
set_option linter.unusedSimpArgs false
set_option linter.unusedVariables false
set_option linter.unusedSectionVars false
open Go.RowKit
open AV (Mem Keeps)
section
variable {P : Program} {C : Ctx} {l : List Oper} {k : List Item} {R : Act → World → Prop} {env : Env} {σ : List Ob} {f j t : Nat} {listed : Array Bool} {ct : TypeId} {b : List UInt8} {u : Value} {i h : Int} {more : List Ob}
theorem StepA.drawI {ty : TypeId} {pos : String} {after : Array Edge} {fi : FuncId} {fn : Func} {x0 : Operand} {xs : List Operand} {ats : Array TypeId} {args : List RV} {p : Int → Prop} [hfn : FN P fi fn] (hf : Drw P ct fi b args (QI p)) (hc : unpin (ev env x0) = .obj 0 0) (hu : HU C b u) (hi : CurOk b i) (hσ : σ = curOb ct u i h :: more) (ha : LendsPL C σ (xs.map (ev env)) args)
    (hce : clnE env = true) (hcl : clnO more = true) (ht : t < C.n) (hk : ∀ (i' h' x : Int), CurOk b i' → p x → RunsA P C l k R f (listed.setIfInBounds j true) ⟨(t, .int x) :: env, curOb ct u i' h' :: more⟩) :
    StepA P C l k R f listed j ⟨some t, .call { callee := .value (.func fi), args := (x0 :: xs).toArray, argTypes := ats }, ty, pos, after, none⟩ ⟨env, σ⟩ := by
  refine ⟨fun a w ⟨s1, s2, φ, hG, hH⟩ => ?_⟩
  refine draw_wpF hf (fun rr h => (qi_ok rr h).1) hc hu hi (m := ⟨w, φ, σ, C.ok⟩) hG hσ ha (fun x _ => ev_rel hH x) fun rr v w' i' h' bs g hQ hD => ?_
  obtain ⟨_, r, hs, x, rfl, hx⟩ := qi_ok rr hQ
  obtain ⟨g1, g2, g3⟩ := hD.simS hG hσ hu.one hcl hs
  exact (hk i' h' x hD.ok hx).run _ _ (sim_put (S := ⟨env, σ⟩) s1 s2 hH g1 rfl hce g2 ht g3)
structure StW (P : Program) (C : Ctx) (o : Oper) (env : Env) (σ σ' : List Ob) : Prop where
  run : ∀ (a : Act) (w : World) (φ : Nat → Option Nat), Good C ⟨w, φ, σ, C.ok⟩ → (∀ x, x ∈ o.op.operands → AV.rel ⟨w, φ, σ, C.ok⟩ (ev env x) (a.eval x)) →
    ∃ w' φ', (execOp a.eval o).run P w = .ok .skip w' ∧ Good C ⟨w', φ', σ', C.ok⟩ ∧ Keeps (fun _ => True) ⟨w, φ, σ, C.ok⟩ ⟨w', φ', σ', C.ok⟩
theorem sw_storeN {tt : TypeId} {x y : Operand} {i off n : Nat} {o : Ob} {vs : List AV} {ty : TypeId} {pos : String} {after : Array Edge} [TN P tt n] (hx : ev env x = .obj i off) (hy : cells? (ev env y) = some vs) (hn : vs.length = n) (ho : σ[i]? = some o) (hlt : off + n ≤ o.cs.length) :
    StW P C ⟨none, .store tt x y, ty, pos, after, none⟩ env σ (σ.set i ⟨o.t, o.sz, setsAt o.cs off vs⟩) := ⟨fun a w φ hG hH => by
  have h := hH x (by simp [Op.operands])
  rw [hx] at h
  simp only [AV.rel] at h
  obtain ⟨hi, g, hg, e⟩ := h
  obtain ⟨c1, c2⟩ := cells_rel (hH y (by simp [Op.operands])) hy
  obtain ⟨w', hw, g2, k2⟩ := good_stores (P := P) (C := C) hg vs (a.eval y).cells.toList w σ o off ho (by omega) (by simpa using c1) (fun j x hj => by simpa using c2 j x hj) hG
  refine ⟨w', φ, ?_, g2, k2⟩
  simp [execOp, e, Instr.storeAt, Instr.sureAddr, storeVar, c1, hn, run_sizeN (P := P) (t := tt) (n := n), hw off 0 rfl]⟩
theorem StepA.st {o : Oper} {σ' : List Ob} (hs : StW P C o env σ σ') (hd : o.dst = none) (hk : RunsA P C l k R f (listed.setIfInBounds j true) ⟨env, σ'⟩) : StepA P C l k R f listed j o ⟨env, σ⟩ := by
  refine ⟨fun a w ⟨h1, h2, φ, h3, h4⟩ => ?_⟩
  obtain ⟨w', φ', hr, hG, hK⟩ := hs.run a w φ h3 fun x _ => ev_rel h4 x
  unfold Oper.wp
  rw [hr]
  simp only [Oper.upon]
  rw [hd]
  exact hk.run a w' ⟨h1, h2, φ', hG, h4.keeps hK⟩
theorem RunsA.tail {S : St} (n : Nat) (X : Env → List Ob → Prop) (tail : ∀ env σ, X env σ → RunsL P C l.toArray (l.drop n) k R ⟨env, σ⟩) (main : (∀ env σ, X env σ → RunsL P C l.toArray (l.drop n) k R ⟨env, σ⟩) → RunsA P C l k R f listed S) : RunsA P C l k R f listed S := main tail
end
end Go.Proofs.Ytnecoghfhcimeaa
/- The draw of FnTags, but for the description's. -/
namespace Go.Proofs.Ytnecoghfhcimeaa
set_option linter.unusedSimpArgs false
set_option linter.unusedVariables false
set_option linter.unusedSectionVars false
open Go.RowKit
open AV (Mem Keeps)
theorem bel5 {x : Int} (h : Bel 5 x) : -9223372036854775808 ≤ x - 1 ∧ x - 1 ≤ 9223372036854775807 := by
  have := h.2 (by decide)
  omega
set_option maxHeartbeats 16000000 in
theorem drawTag_of (b : List UInt8) (hb : b.length ≤ 1048576) (hA : Drw Try.prog 123 73 b [] QAny) : AC Try.prog 25 [bytesR b] QTag := by
  refine acu_enter Try.func25 rfl _ Try.ntmps25 (by simp) fun C u hn hm hu => ?_
  have hmu : ∀ x, C.mu x → x = 0 := fun x h => (hm x h).elim
  have hL := l1Below_d b hb 5 (by omega)
  repeat' (first
 | (refine op_newU (l1New_u b hb) rfl hu (tl hn rfl) ?_; intro h hi)
 | (refine op_drawN hA qany_ok rfl hu hi rfl rfl rfl (by first | rfl | repeat' (first | rfl | exact clns_ro _ | refine clnO_cons ?_ ?_)) (tl hn rfl) ?_; rintro i h _ hi ⟨d, rfl, hd1, hd2, hd3⟩; have hlm : (d.map rulR).length = d.length := List.length_map ..)
 | (refine op_drawI (t := 18) (l1Below_d b hb ((d.length : Int) + 2) (by omega)) rfl hu hi rfl (LendsPL.ros [.int ((d.length : Int) + 2)]) rfl (by first | rfl | repeat' (first | rfl | exact clns_ro _ | refine clnO_cons ?_ ?_)) (tl hn rfl) ?_; intro i h x hi hx; obtain ⟨hxa, hxb⟩ := hx.2 (by omega))
 | (refine RunsL.pe hn rfl rfl rfl ?_; first
 | refine ⟨_, pu_len_seqN d.length rfl hlm, ?_⟩)
 | refine RunsL.step tabOk hn rfl ?_
 | refine RunsL.nil ?_
 | refine Runs.toRegion 30 rfl ?_
 | (refine Runs.ctls 30 rfl ?_; first | refine Runs.cond_t rfl ?_ | refine Runs.cond_f rfl ?_ | refine Runs.cond_dec rfl (fun h => ?_) (fun h => ?_) | refine Runs.ret (ends_ro hm rfl rfl ?_) | exact Runs.ret (ends_cellR hm rfl rfl rfl (Nat.le_of_ble_eq_true rfl) rfl rfl))
 | refine op_alloc (tl hn rfl) ?_
 | refine op_storeN rfl rfl rfl rfl (Nat.le_of_ble_eq_true rfl) ?_
 | (refine RunsL.pe hn rfl rfl rfl ?_; first
 | refine ⟨_, pu_add rfl rfl (by omega), ?_⟩
 | refine ⟨_, pu_indexAddr_map rfl rfl (by omega) (by assumption), ?_⟩
 | refine ⟨_, pu_sub rfl rfl (by omega), ?_⟩)
 | (refine RunsL.guard_dec rfl rfl rfl ?_ ?_ <;> intro h <;> try (exfalso; first | omega | contradiction | (simp only [List.length_map] at h; omega))))
  refine Runs.loopI 30 rfl (fun m E z => ∃ (j : Nat) (r i h : Int), j + m = d.length ∧ -1 ≤ r ∧ r ≤ 24 ∧ CurOk b i ∧ E = [(2, .obj 1 0), (3, .int 0), (4, .int 0), (5, .obj 0 0), (6, .obj 2 0), (7, .int r), (8, .int (j : Int))] ∧
    z = [curOb 123 u i h, ⟨38, 0, [.nil]⟩, ⟨38, 0, [.ro (rulsR d)]⟩]) d.length [(2, .obj 1 0), (3, .int 0), (4, .int 0), (5, .obj 0 0), (6, .obj 2 0), (7, .int (x - 1)), (8, .int 0)] ⟨rfl, rfl, rfl, rfl, rfl, rfl, rfl, trivial⟩ ⟨0, x - 1, i, h, by omega, by omega, by omega, hi, rfl, rfl⟩ fun m E z ⟨j, r, i, h, hj, hr1, hr2, hi, hE, hz⟩ ih => ?_
  subst hE; subst hz
  clear hxa hxb hx
  have hor : (∃ y, d[(j : Int).toNat]? = some y ∧ j < d.length) ∨ ¬ j < d.length := by
    by_cases hlt : j < d.length
    · exact .inl ⟨_, List.getElem?_eq_getElem (by omega), hlt⟩
    · exact .inr hlt
  rcases hor with ⟨y, hy, hlt⟩ | hlt
  all_goals
    repeat' (first
 | refine Runs.toTree (id := 9) 30 mixed rfl ?_
 | (refine op_drawB (l1Once_d b hb 3 (by decide)) rfl hu hi rfl (LendsPL.ros [.int 3]) rfl (by first | rfl | repeat' (first | rfl | exact clns_ro _ | refine clnO_cons ?_ ?_)) (tl hn rfl) ?_; intro i h y1 hi; cases y1)
 | (refine RunsL.pe hn rfl rfl rfl ?_; first
 | refine ⟨_, pu_len_seqN d.length rfl hlm, ?_⟩)
 | refine RunsL.step tabOk hn rfl ?_
 | refine RunsL.nil ?_
 | refine Runs.toRegion 30 rfl ?_
 | (refine Runs.ctls 30 rfl ?_; first | refine Runs.cond_t rfl ?_ | refine Runs.cond_f rfl ?_ | refine Runs.cond_dec rfl (fun h => ?_) (fun h => ?_) | refine Runs.ret (ends_ro hm rfl rfl ?_) | exact Runs.ret (ends_cellR hm rfl rfl rfl (Nat.le_of_ble_eq_true rfl) rfl rfl))
 | refine op_alloc (tl hn rfl) ?_
 | refine op_storeN rfl rfl rfl rfl (Nat.le_of_ble_eq_true rfl) ?_
 | (refine RunsL.pe hn rfl rfl rfl ?_; first
 | refine ⟨_, pu_add rfl rfl (by omega), ?_⟩
 | refine ⟨_, pu_indexAddr_map rfl rfl (by omega) (by assumption), ?_⟩
 | refine ⟨_, pu_sub rfl rfl (by omega), ?_⟩)
 | (refine RunsL.guard_dec rfl rfl rfl ?_ ?_ <;> intro h <;> try (exfalso; first | omega | contradiction | (simp only [List.length_map] at h; omega))))
  all_goals try first
    | exact ih (m - 1) _ _ _ (by omega) ⟨j + 1, r, _, _, by omega, by omega, by omega, hi, rfl, rfl⟩ ⟨rfl, rfl, rfl, rfl, rfl, rfl, rfl, trivial⟩
    | exact ih (m - 1) _ _ _ (by omega) ⟨j + 1, (j : Int), _, _, by omega, by omega, by omega, hi, rfl, rfl⟩ ⟨rfl, rfl, rfl, rfl, rfl, rfl, rfl, trivial⟩
  all_goals
    refine RunsA.tail 7 (fun env σ => ∃ i h x, CurOk b i ∧ Bel 5 x ∧ Sub [(2, .obj 1 0), (3, .int r), (44, .int (x - 1))] env ∧ σ = [curOb 123 u i h, ⟨38, 0, [.ro (rulsR d)]⟩, ⟨38, 0, [.ro (rulsR d)]⟩]) (fun env σ ⟨i, h, x, hi, hx, hs, hσ⟩ => ?_) fun tail => ?_
    · subst hσ
      refine RunsL.keep _ hs ?_
      have h5 := hx.2 (by decide)
      repeat' (first
 | refine RunsL.step tabOk hn rfl ?_
 | refine RunsL.nil ?_
 | refine Runs.toRegion 30 rfl ?_
 | (refine Runs.ctls 30 rfl ?_; first | refine Runs.cond_t rfl ?_ | refine Runs.cond_f rfl ?_ | refine Runs.cond_dec rfl (fun h => ?_) (fun h => ?_) | refine Runs.ret (ends_ro hm rfl rfl ?_) | exact Runs.ret (ends_cellR hm rfl rfl rfl (Nat.le_of_ble_eq_true rfl) rfl rfl))
 | refine op_alloc (tl hn rfl) ?_
 | refine op_storeN rfl rfl rfl rfl (Nat.le_of_ble_eq_true rfl) ?_
 | (refine RunsL.pe hn rfl rfl rfl ?_; first
 | refine ⟨_, pu_add rfl rfl (by omega), ?_⟩
 | refine ⟨_, pu_indexAddr_map rfl rfl (by omega) (by assumption), ?_⟩
 | refine ⟨_, pu_sub rfl rfl (by omega), ?_⟩)
 | (refine RunsL.guard_dec rfl rfl rfl ?_ ?_ <;> intro h <;> try (exfalso; first | omega | contradiction | (simp only [List.length_map] at h; omega))))
      refine Runs.ctls 30 rfl (Runs.ret fun a w hs => ?_)
      exact endsN hm (xs := [.cell 2 38, .tmp 3, .tmp 4]) rfl (by simp) [.agg [.ro (rulsR d)], .ro (.int r), .ro (.int (x - 1))] ⟨_, _, rfl, by simp only [ResV]; exact ⟨1, 0, _, rfl, rfl, .inr ⟨1, inferInstance, Nat.le_refl _, rfl⟩⟩, _, _, rfl, by simp only [ResV]; rfl, _, _, rfl, by simp only [ResV]; rfl, rfl⟩ [.agg [.ro (rulsR d)], .ro (.int r), .ro (.int (x - 1))] [] (by
        simp only [Harvs, Harv]
        exact ⟨_, _, [], [], rfl, rfl, ⟨_, rfl, _, _, [], [], rfl, rfl, ⟨rfl, rfl⟩, rfl, rfl⟩, _, _, [], [], rfl, rfl, ⟨rfl, rfl⟩, _, _, [], [], rfl, rfl, ⟨rfl, rfl⟩, rfl, rfl⟩) (by simp) ⟨d, r, x - 1, rfl, hd1, hd2, by constructor <;> omega, by constructor <;> omega⟩ a w hs
    · refine RunsA.node [0, 1, 2] (by kernel_rfl) rfl rfl ⟨?_, ?_, ?_, trivial⟩
      · refine StepA.pur (pu_loadN_objR (rs := [rulsR d]) rfl rfl rfl rfl) rfl (tl hn rfl) ?_
        refine RunsA.node [1, 2] (by kernel_rfl) rfl rfl ⟨?_, ?_, trivial⟩
        · refine StepA.pur (pu_auto tabOk rfl) rfl (tl hn rfl) ?_
          refine RunsA.node [2] (by kernel_rfl) rfl rfl ⟨?_, trivial⟩
          refine StepA.pur (pu_auto tabOk rfl) rfl (tl hn rfl) ?_
          refine RunsA.node [3] (by kernel_rfl) rfl rfl ⟨?_, trivial⟩
          refine StepA.drawI hL rfl hu hi rfl (LendsPL.ros [.int 5]) rfl (by first | rfl | repeat' (first | rfl | exact clns_ro _ | refine clnO_cons ?_ ?_)) (tl hn rfl) fun i h x hi hx => ?_
          refine RunsA.node [4, 5] (by kernel_rfl) rfl rfl ⟨?_, ?_, trivial⟩
          · refine StepA.pur (pu_sub rfl rfl (bel5 hx)) rfl (tl hn rfl) ?_
            refine RunsA.node [5] (by kernel_rfl) rfl rfl ⟨?_, trivial⟩
            refine StepA.st (sw_storeN rfl rfl rfl rfl (Nat.le_of_ble_eq_true rfl)) rfl ?_
            refine RunsA.node [6] (by kernel_rfl) rfl rfl ⟨?_, trivial⟩
            refine StepA.pur (pu_auto tabOk rfl) rfl (tl hn rfl) ?_
            exact RunsA.seq 7 rfl (by kernel_rfl) (tail _ _ ⟨i, h, x, hi, hx, ⟨rfl, rfl, rfl, trivial⟩, rfl⟩)
          · refine StepA.st (sw_storeN rfl rfl rfl rfl (Nat.le_of_ble_eq_true rfl)) rfl ?_
            refine RunsA.node [4, 6] (by kernel_rfl) rfl rfl ⟨?_, ?_, trivial⟩
            · refine StepA.pur (pu_sub rfl rfl (bel5 hx)) rfl (tl hn rfl) ?_
              refine RunsA.node [6] (by kernel_rfl) rfl rfl ⟨?_, trivial⟩
              refine StepA.pur (pu_auto tabOk rfl) rfl (tl hn rfl) ?_
              exact RunsA.seq 7 rfl (by kernel_rfl) (tail _ _ ⟨i, h, x, hi, hx, ⟨rfl, rfl, rfl, trivial⟩, rfl⟩)
            · refine StepA.pur (pu_auto tabOk rfl) rfl (tl hn rfl) ?_
              refine RunsA.node [4] (by kernel_rfl) rfl rfl ⟨?_, trivial⟩
              refine StepA.pur (pu_sub rfl rfl (bel5 hx)) rfl (tl hn rfl) ?_
              exact RunsA.seq 7 rfl (by kernel_rfl) (tail _ _ ⟨i, h, x, hi, hx, ⟨rfl, rfl, rfl, trivial⟩, rfl⟩)
        · refine StepA.pur (pu_auto tabOk rfl) rfl (tl hn rfl) ?_
          refine RunsA.node [1, 3] (by kernel_rfl) rfl rfl ⟨?_, ?_, trivial⟩
          · refine StepA.pur (pu_auto tabOk rfl) rfl (tl hn rfl) ?_
            refine RunsA.node [3] (by kernel_rfl) rfl rfl ⟨?_, trivial⟩
            refine StepA.drawI hL rfl hu hi rfl (LendsPL.ros [.int 5]) rfl (by first | rfl | repeat' (first | rfl | exact clns_ro _ | refine clnO_cons ?_ ?_)) (tl hn rfl) fun i h x hi hx => ?_
            refine RunsA.node [4, 5] (by kernel_rfl) rfl rfl ⟨?_, ?_, trivial⟩
            · refine StepA.pur (pu_sub rfl rfl (bel5 hx)) rfl (tl hn rfl) ?_
              refine RunsA.node [5] (by kernel_rfl) rfl rfl ⟨?_, trivial⟩
              refine StepA.st (sw_storeN rfl rfl rfl rfl (Nat.le_of_ble_eq_true rfl)) rfl ?_
              refine RunsA.node [6] (by kernel_rfl) rfl rfl ⟨?_, trivial⟩
              refine StepA.pur (pu_auto tabOk rfl) rfl (tl hn rfl) ?_
              exact RunsA.seq 7 rfl (by kernel_rfl) (tail _ _ ⟨i, h, x, hi, hx, ⟨rfl, rfl, rfl, trivial⟩, rfl⟩)
            · refine StepA.st (sw_storeN rfl rfl rfl rfl (Nat.le_of_ble_eq_true rfl)) rfl ?_
              refine RunsA.node [4, 6] (by kernel_rfl) rfl rfl ⟨?_, ?_, trivial⟩
              · refine StepA.pur (pu_sub rfl rfl (bel5 hx)) rfl (tl hn rfl) ?_
                refine RunsA.node [6] (by kernel_rfl) rfl rfl ⟨?_, trivial⟩
                refine StepA.pur (pu_auto tabOk rfl) rfl (tl hn rfl) ?_
                exact RunsA.seq 7 rfl (by kernel_rfl) (tail _ _ ⟨i, h, x, hi, hx, ⟨rfl, rfl, rfl, trivial⟩, rfl⟩)
              · refine StepA.pur (pu_auto tabOk rfl) rfl (tl hn rfl) ?_
                refine RunsA.node [4] (by kernel_rfl) rfl rfl ⟨?_, trivial⟩
                refine StepA.pur (pu_sub rfl rfl (bel5 hx)) rfl (tl hn rfl) ?_
                exact RunsA.seq 7 rfl (by kernel_rfl) (tail _ _ ⟨i, h, x, hi, hx, ⟨rfl, rfl, rfl, trivial⟩, rfl⟩)
          · refine StepA.drawI hL rfl hu hi rfl (LendsPL.ros [.int 5]) rfl (by first | rfl | repeat' (first | rfl | exact clns_ro _ | refine clnO_cons ?_ ?_)) (tl hn rfl) fun i h x hi hx => ?_
            refine RunsA.node [1, 4, 5] (by kernel_rfl) rfl rfl ⟨?_, ?_, ?_, trivial⟩
            · refine StepA.pur (pu_auto tabOk rfl) rfl (tl hn rfl) ?_
              refine RunsA.node [4, 5] (by kernel_rfl) rfl rfl ⟨?_, ?_, trivial⟩
              · refine StepA.pur (pu_sub rfl rfl (bel5 hx)) rfl (tl hn rfl) ?_
                refine RunsA.node [5] (by kernel_rfl) rfl rfl ⟨?_, trivial⟩
                refine StepA.st (sw_storeN rfl rfl rfl rfl (Nat.le_of_ble_eq_true rfl)) rfl ?_
                refine RunsA.node [6] (by kernel_rfl) rfl rfl ⟨?_, trivial⟩
                refine StepA.pur (pu_auto tabOk rfl) rfl (tl hn rfl) ?_
                exact RunsA.seq 7 rfl (by kernel_rfl) (tail _ _ ⟨i, h, x, hi, hx, ⟨rfl, rfl, rfl, trivial⟩, rfl⟩)
              · refine StepA.st (sw_storeN rfl rfl rfl rfl (Nat.le_of_ble_eq_true rfl)) rfl ?_
                refine RunsA.node [4, 6] (by kernel_rfl) rfl rfl ⟨?_, ?_, trivial⟩
                · refine StepA.pur (pu_sub rfl rfl (bel5 hx)) rfl (tl hn rfl) ?_
                  refine RunsA.node [6] (by kernel_rfl) rfl rfl ⟨?_, trivial⟩
                  refine StepA.pur (pu_auto tabOk rfl) rfl (tl hn rfl) ?_
                  exact RunsA.seq 7 rfl (by kernel_rfl) (tail _ _ ⟨i, h, x, hi, hx, ⟨rfl, rfl, rfl, trivial⟩, rfl⟩)
                · refine StepA.pur (pu_auto tabOk rfl) rfl (tl hn rfl) ?_
                  refine RunsA.node [4] (by kernel_rfl) rfl rfl ⟨?_, trivial⟩
                  refine StepA.pur (pu_sub rfl rfl (bel5 hx)) rfl (tl hn rfl) ?_
                  exact RunsA.seq 7 rfl (by kernel_rfl) (tail _ _ ⟨i, h, x, hi, hx, ⟨rfl, rfl, rfl, trivial⟩, rfl⟩)
            · refine StepA.pur (pu_sub rfl rfl (bel5 hx)) rfl (tl hn rfl) ?_
              refine RunsA.node [1, 5] (by kernel_rfl) rfl rfl ⟨?_, ?_, trivial⟩
              · refine StepA.pur (pu_auto tabOk rfl) rfl (tl hn rfl) ?_
                refine RunsA.node [5] (by kernel_rfl) rfl rfl ⟨?_, trivial⟩
                refine StepA.st (sw_storeN rfl rfl rfl rfl (Nat.le_of_ble_eq_true rfl)) rfl ?_
                refine RunsA.node [6] (by kernel_rfl) rfl rfl ⟨?_, trivial⟩
                refine StepA.pur (pu_auto tabOk rfl) rfl (tl hn rfl) ?_
                exact RunsA.seq 7 rfl (by kernel_rfl) (tail _ _ ⟨i, h, x, hi, hx, ⟨rfl, rfl, rfl, trivial⟩, rfl⟩)
              · refine StepA.st (sw_storeN rfl rfl rfl rfl (Nat.le_of_ble_eq_true rfl)) rfl ?_
                refine RunsA.node [1] (by kernel_rfl) rfl rfl ⟨?_, trivial⟩
                refine StepA.pur (pu_auto tabOk rfl) rfl (tl hn rfl) ?_
                refine RunsA.node [6] (by kernel_rfl) rfl rfl ⟨?_, trivial⟩
                refine StepA.pur (pu_auto tabOk rfl) rfl (tl hn rfl) ?_
                exact RunsA.seq 7 rfl (by kernel_rfl) (tail _ _ ⟨i, h, x, hi, hx, ⟨rfl, rfl, rfl, trivial⟩, rfl⟩)
            · refine StepA.st (sw_storeN rfl rfl rfl rfl (Nat.le_of_ble_eq_true rfl)) rfl ?_
              refine RunsA.node [1, 4] (by kernel_rfl) rfl rfl ⟨?_, ?_, trivial⟩
              · refine StepA.pur (pu_auto tabOk rfl) rfl (tl hn rfl) ?_
                refine RunsA.node [4, 6] (by kernel_rfl) rfl rfl ⟨?_, ?_, trivial⟩
                · refine StepA.pur (pu_sub rfl rfl (bel5 hx)) rfl (tl hn rfl) ?_
                  refine RunsA.node [6] (by kernel_rfl) rfl rfl ⟨?_, trivial⟩
                  refine StepA.pur (pu_auto tabOk rfl) rfl (tl hn rfl) ?_
                  exact RunsA.seq 7 rfl (by kernel_rfl) (tail _ _ ⟨i, h, x, hi, hx, ⟨rfl, rfl, rfl, trivial⟩, rfl⟩)
                · refine StepA.pur (pu_auto tabOk rfl) rfl (tl hn rfl) ?_
                  refine RunsA.node [4] (by kernel_rfl) rfl rfl ⟨?_, trivial⟩
                  refine StepA.pur (pu_sub rfl rfl (bel5 hx)) rfl (tl hn rfl) ?_
                  exact RunsA.seq 7 rfl (by kernel_rfl) (tail _ _ ⟨i, h, x, hi, hx, ⟨rfl, rfl, rfl, trivial⟩, rfl⟩)
              · refine StepA.pur (pu_sub rfl rfl (bel5 hx)) rfl (tl hn rfl) ?_
                refine RunsA.node [1] (by kernel_rfl) rfl rfl ⟨?_, trivial⟩
                refine StepA.pur (pu_auto tabOk rfl) rfl (tl hn rfl) ?_
                refine RunsA.node [6] (by kernel_rfl) rfl rfl ⟨?_, trivial⟩
                refine StepA.pur (pu_auto tabOk rfl) rfl (tl hn rfl) ?_
                exact RunsA.seq 7 rfl (by kernel_rfl) (tail _ _ ⟨i, h, x, hi, hx, ⟨rfl, rfl, rfl, trivial⟩, rfl⟩)
      · refine StepA.pur (pu_auto tabOk rfl) rfl (tl hn rfl) ?_
        refine RunsA.node [0, 2] (by kernel_rfl) rfl rfl ⟨?_, ?_, trivial⟩
        · refine StepA.pur (pu_loadN_objR (rs := [rulsR d]) rfl rfl rfl rfl) rfl (tl hn rfl) ?_
          refine RunsA.node [2] (by kernel_rfl) rfl rfl ⟨?_, trivial⟩
          refine StepA.pur (pu_auto tabOk rfl) rfl (tl hn rfl) ?_
          refine RunsA.node [3] (by kernel_rfl) rfl rfl ⟨?_, trivial⟩
          refine StepA.drawI hL rfl hu hi rfl (LendsPL.ros [.int 5]) rfl (by first | rfl | repeat' (first | rfl | exact clns_ro _ | refine clnO_cons ?_ ?_)) (tl hn rfl) fun i h x hi hx => ?_
          refine RunsA.node [4, 5] (by kernel_rfl) rfl rfl ⟨?_, ?_, trivial⟩
          · refine StepA.pur (pu_sub rfl rfl (bel5 hx)) rfl (tl hn rfl) ?_
            refine RunsA.node [5] (by kernel_rfl) rfl rfl ⟨?_, trivial⟩
            refine StepA.st (sw_storeN rfl rfl rfl rfl (Nat.le_of_ble_eq_true rfl)) rfl ?_
            refine RunsA.node [6] (by kernel_rfl) rfl rfl ⟨?_, trivial⟩
            refine StepA.pur (pu_auto tabOk rfl) rfl (tl hn rfl) ?_
            exact RunsA.seq 7 rfl (by kernel_rfl) (tail _ _ ⟨i, h, x, hi, hx, ⟨rfl, rfl, rfl, trivial⟩, rfl⟩)
          · refine StepA.st (sw_storeN rfl rfl rfl rfl (Nat.le_of_ble_eq_true rfl)) rfl ?_
            refine RunsA.node [4, 6] (by kernel_rfl) rfl rfl ⟨?_, ?_, trivial⟩
            · refine StepA.pur (pu_sub rfl rfl (bel5 hx)) rfl (tl hn rfl) ?_
              refine RunsA.node [6] (by kernel_rfl) rfl rfl ⟨?_, trivial⟩
              refine StepA.pur (pu_auto tabOk rfl) rfl (tl hn rfl) ?_
              exact RunsA.seq 7 rfl (by kernel_rfl) (tail _ _ ⟨i, h, x, hi, hx, ⟨rfl, rfl, rfl, trivial⟩, rfl⟩)
            · refine StepA.pur (pu_auto tabOk rfl) rfl (tl hn rfl) ?_
              refine RunsA.node [4] (by kernel_rfl) rfl rfl ⟨?_, trivial⟩
              refine StepA.pur (pu_sub rfl rfl (bel5 hx)) rfl (tl hn rfl) ?_
              exact RunsA.seq 7 rfl (by kernel_rfl) (tail _ _ ⟨i, h, x, hi, hx, ⟨rfl, rfl, rfl, trivial⟩, rfl⟩)
        · refine StepA.pur (pu_auto tabOk rfl) rfl (tl hn rfl) ?_
          refine RunsA.node [0, 3] (by kernel_rfl) rfl rfl ⟨?_, ?_, trivial⟩
          · refine StepA.pur (pu_loadN_objR (rs := [rulsR d]) rfl rfl rfl rfl) rfl (tl hn rfl) ?_
            refine RunsA.node [3] (by kernel_rfl) rfl rfl ⟨?_, trivial⟩
            refine StepA.drawI hL rfl hu hi rfl (LendsPL.ros [.int 5]) rfl (by first | rfl | repeat' (first | rfl | exact clns_ro _ | refine clnO_cons ?_ ?_)) (tl hn rfl) fun i h x hi hx => ?_
            refine RunsA.node [4, 5] (by kernel_rfl) rfl rfl ⟨?_, ?_, trivial⟩
            · refine StepA.pur (pu_sub rfl rfl (bel5 hx)) rfl (tl hn rfl) ?_
              refine RunsA.node [5] (by kernel_rfl) rfl rfl ⟨?_, trivial⟩
              refine StepA.st (sw_storeN rfl rfl rfl rfl (Nat.le_of_ble_eq_true rfl)) rfl ?_
              refine RunsA.node [6] (by kernel_rfl) rfl rfl ⟨?_, trivial⟩
              refine StepA.pur (pu_auto tabOk rfl) rfl (tl hn rfl) ?_
              exact RunsA.seq 7 rfl (by kernel_rfl) (tail _ _ ⟨i, h, x, hi, hx, ⟨rfl, rfl, rfl, trivial⟩, rfl⟩)
            · refine StepA.st (sw_storeN rfl rfl rfl rfl (Nat.le_of_ble_eq_true rfl)) rfl ?_
              refine RunsA.node [4, 6] (by kernel_rfl) rfl rfl ⟨?_, ?_, trivial⟩
              · refine StepA.pur (pu_sub rfl rfl (bel5 hx)) rfl (tl hn rfl) ?_
                refine RunsA.node [6] (by kernel_rfl) rfl rfl ⟨?_, trivial⟩
                refine StepA.pur (pu_auto tabOk rfl) rfl (tl hn rfl) ?_
                exact RunsA.seq 7 rfl (by kernel_rfl) (tail _ _ ⟨i, h, x, hi, hx, ⟨rfl, rfl, rfl, trivial⟩, rfl⟩)
              · refine StepA.pur (pu_auto tabOk rfl) rfl (tl hn rfl) ?_
                refine RunsA.node [4] (by kernel_rfl) rfl rfl ⟨?_, trivial⟩
                refine StepA.pur (pu_sub rfl rfl (bel5 hx)) rfl (tl hn rfl) ?_
                exact RunsA.seq 7 rfl (by kernel_rfl) (tail _ _ ⟨i, h, x, hi, hx, ⟨rfl, rfl, rfl, trivial⟩, rfl⟩)
          · refine StepA.drawI hL rfl hu hi rfl (LendsPL.ros [.int 5]) rfl (by first | rfl | repeat' (first | rfl | exact clns_ro _ | refine clnO_cons ?_ ?_)) (tl hn rfl) fun i h x hi hx => ?_
            refine RunsA.node [0, 4] (by kernel_rfl) rfl rfl ⟨?_, ?_, trivial⟩
            · refine StepA.pur (pu_loadN_objR (rs := [rulsR d]) rfl rfl rfl rfl) rfl (tl hn rfl) ?_
              refine RunsA.node [4, 5] (by kernel_rfl) rfl rfl ⟨?_, ?_, trivial⟩
              · refine StepA.pur (pu_sub rfl rfl (bel5 hx)) rfl (tl hn rfl) ?_
                refine RunsA.node [5] (by kernel_rfl) rfl rfl ⟨?_, trivial⟩
                refine StepA.st (sw_storeN rfl rfl rfl rfl (Nat.le_of_ble_eq_true rfl)) rfl ?_
                refine RunsA.node [6] (by kernel_rfl) rfl rfl ⟨?_, trivial⟩
                refine StepA.pur (pu_auto tabOk rfl) rfl (tl hn rfl) ?_
                exact RunsA.seq 7 rfl (by kernel_rfl) (tail _ _ ⟨i, h, x, hi, hx, ⟨rfl, rfl, rfl, trivial⟩, rfl⟩)
              · refine StepA.st (sw_storeN rfl rfl rfl rfl (Nat.le_of_ble_eq_true rfl)) rfl ?_
                refine RunsA.node [4, 6] (by kernel_rfl) rfl rfl ⟨?_, ?_, trivial⟩
                · refine StepA.pur (pu_sub rfl rfl (bel5 hx)) rfl (tl hn rfl) ?_
                  refine RunsA.node [6] (by kernel_rfl) rfl rfl ⟨?_, trivial⟩
                  refine StepA.pur (pu_auto tabOk rfl) rfl (tl hn rfl) ?_
                  exact RunsA.seq 7 rfl (by kernel_rfl) (tail _ _ ⟨i, h, x, hi, hx, ⟨rfl, rfl, rfl, trivial⟩, rfl⟩)
                · refine StepA.pur (pu_auto tabOk rfl) rfl (tl hn rfl) ?_
                  refine RunsA.node [4] (by kernel_rfl) rfl rfl ⟨?_, trivial⟩
                  refine StepA.pur (pu_sub rfl rfl (bel5 hx)) rfl (tl hn rfl) ?_
                  exact RunsA.seq 7 rfl (by kernel_rfl) (tail _ _ ⟨i, h, x, hi, hx, ⟨rfl, rfl, rfl, trivial⟩, rfl⟩)
            · refine StepA.pur (pu_sub rfl rfl (bel5 hx)) rfl (tl hn rfl) ?_
              refine RunsA.node [0] (by kernel_rfl) rfl rfl ⟨?_, trivial⟩
              refine StepA.pur (pu_loadN_objR (rs := [rulsR d]) rfl rfl rfl rfl) rfl (tl hn rfl) ?_
              refine RunsA.node [5] (by kernel_rfl) rfl rfl ⟨?_, trivial⟩
              refine StepA.st (sw_storeN rfl rfl rfl rfl (Nat.le_of_ble_eq_true rfl)) rfl ?_
              refine RunsA.node [6] (by kernel_rfl) rfl rfl ⟨?_, trivial⟩
              refine StepA.pur (pu_auto tabOk rfl) rfl (tl hn rfl) ?_
              exact RunsA.seq 7 rfl (by kernel_rfl) (tail _ _ ⟨i, h, x, hi, hx, ⟨rfl, rfl, rfl, trivial⟩, rfl⟩)
      · refine StepA.pur (pu_auto tabOk rfl) rfl (tl hn rfl) ?_
        refine RunsA.node [0, 1, 3] (by kernel_rfl) rfl rfl ⟨?_, ?_, ?_, trivial⟩
        · refine StepA.pur (pu_loadN_objR (rs := [rulsR d]) rfl rfl rfl rfl) rfl (tl hn rfl) ?_
          refine RunsA.node [1, 3] (by kernel_rfl) rfl rfl ⟨?_, ?_, trivial⟩
          · refine StepA.pur (pu_auto tabOk rfl) rfl (tl hn rfl) ?_
            refine RunsA.node [3] (by kernel_rfl) rfl rfl ⟨?_, trivial⟩
            refine StepA.drawI hL rfl hu hi rfl (LendsPL.ros [.int 5]) rfl (by first | rfl | repeat' (first | rfl | exact clns_ro _ | refine clnO_cons ?_ ?_)) (tl hn rfl) fun i h x hi hx => ?_
            refine RunsA.node [4, 5] (by kernel_rfl) rfl rfl ⟨?_, ?_, trivial⟩
            · refine StepA.pur (pu_sub rfl rfl (bel5 hx)) rfl (tl hn rfl) ?_
              refine RunsA.node [5] (by kernel_rfl) rfl rfl ⟨?_, trivial⟩
              refine StepA.st (sw_storeN rfl rfl rfl rfl (Nat.le_of_ble_eq_true rfl)) rfl ?_
              refine RunsA.node [6] (by kernel_rfl) rfl rfl ⟨?_, trivial⟩
              refine StepA.pur (pu_auto tabOk rfl) rfl (tl hn rfl) ?_
              exact RunsA.seq 7 rfl (by kernel_rfl) (tail _ _ ⟨i, h, x, hi, hx, ⟨rfl, rfl, rfl, trivial⟩, rfl⟩)
            · refine StepA.st (sw_storeN rfl rfl rfl rfl (Nat.le_of_ble_eq_true rfl)) rfl ?_
              refine RunsA.node [4, 6] (by kernel_rfl) rfl rfl ⟨?_, ?_, trivial⟩
              · refine StepA.pur (pu_sub rfl rfl (bel5 hx)) rfl (tl hn rfl) ?_
                refine RunsA.node [6] (by kernel_rfl) rfl rfl ⟨?_, trivial⟩
                refine StepA.pur (pu_auto tabOk rfl) rfl (tl hn rfl) ?_
                exact RunsA.seq 7 rfl (by kernel_rfl) (tail _ _ ⟨i, h, x, hi, hx, ⟨rfl, rfl, rfl, trivial⟩, rfl⟩)
              · refine StepA.pur (pu_auto tabOk rfl) rfl (tl hn rfl) ?_
                refine RunsA.node [4] (by kernel_rfl) rfl rfl ⟨?_, trivial⟩
                refine StepA.pur (pu_sub rfl rfl (bel5 hx)) rfl (tl hn rfl) ?_
                exact RunsA.seq 7 rfl (by kernel_rfl) (tail _ _ ⟨i, h, x, hi, hx, ⟨rfl, rfl, rfl, trivial⟩, rfl⟩)
          · refine StepA.drawI hL rfl hu hi rfl (LendsPL.ros [.int 5]) rfl (by first | rfl | repeat' (first | rfl | exact clns_ro _ | refine clnO_cons ?_ ?_)) (tl hn rfl) fun i h x hi hx => ?_
            refine RunsA.node [1, 4, 5] (by kernel_rfl) rfl rfl ⟨?_, ?_, ?_, trivial⟩
            · refine StepA.pur (pu_auto tabOk rfl) rfl (tl hn rfl) ?_
              refine RunsA.node [4, 5] (by kernel_rfl) rfl rfl ⟨?_, ?_, trivial⟩
              · refine StepA.pur (pu_sub rfl rfl (bel5 hx)) rfl (tl hn rfl) ?_
                refine RunsA.node [5] (by kernel_rfl) rfl rfl ⟨?_, trivial⟩
                refine StepA.st (sw_storeN rfl rfl rfl rfl (Nat.le_of_ble_eq_true rfl)) rfl ?_
                refine RunsA.node [6] (by kernel_rfl) rfl rfl ⟨?_, trivial⟩
                refine StepA.pur (pu_auto tabOk rfl) rfl (tl hn rfl) ?_
                exact RunsA.seq 7 rfl (by kernel_rfl) (tail _ _ ⟨i, h, x, hi, hx, ⟨rfl, rfl, rfl, trivial⟩, rfl⟩)
              · refine StepA.st (sw_storeN rfl rfl rfl rfl (Nat.le_of_ble_eq_true rfl)) rfl ?_
                refine RunsA.node [4, 6] (by kernel_rfl) rfl rfl ⟨?_, ?_, trivial⟩
                · refine StepA.pur (pu_sub rfl rfl (bel5 hx)) rfl (tl hn rfl) ?_
                  refine RunsA.node [6] (by kernel_rfl) rfl rfl ⟨?_, trivial⟩
                  refine StepA.pur (pu_auto tabOk rfl) rfl (tl hn rfl) ?_
                  exact RunsA.seq 7 rfl (by kernel_rfl) (tail _ _ ⟨i, h, x, hi, hx, ⟨rfl, rfl, rfl, trivial⟩, rfl⟩)
                · refine StepA.pur (pu_auto tabOk rfl) rfl (tl hn rfl) ?_
                  refine RunsA.node [4] (by kernel_rfl) rfl rfl ⟨?_, trivial⟩
                  refine StepA.pur (pu_sub rfl rfl (bel5 hx)) rfl (tl hn rfl) ?_
                  exact RunsA.seq 7 rfl (by kernel_rfl) (tail _ _ ⟨i, h, x, hi, hx, ⟨rfl, rfl, rfl, trivial⟩, rfl⟩)
            · refine StepA.pur (pu_sub rfl rfl (bel5 hx)) rfl (tl hn rfl) ?_
              refine RunsA.node [1, 5] (by kernel_rfl) rfl rfl ⟨?_, ?_, trivial⟩
              · refine StepA.pur (pu_auto tabOk rfl) rfl (tl hn rfl) ?_
                refine RunsA.node [5] (by kernel_rfl) rfl rfl ⟨?_, trivial⟩
                refine StepA.st (sw_storeN rfl rfl rfl rfl (Nat.le_of_ble_eq_true rfl)) rfl ?_
                refine RunsA.node [6] (by kernel_rfl) rfl rfl ⟨?_, trivial⟩
                refine StepA.pur (pu_auto tabOk rfl) rfl (tl hn rfl) ?_
                exact RunsA.seq 7 rfl (by kernel_rfl) (tail _ _ ⟨i, h, x, hi, hx, ⟨rfl, rfl, rfl, trivial⟩, rfl⟩)
              · refine StepA.st (sw_storeN rfl rfl rfl rfl (Nat.le_of_ble_eq_true rfl)) rfl ?_
                refine RunsA.node [1] (by kernel_rfl) rfl rfl ⟨?_, trivial⟩
                refine StepA.pur (pu_auto tabOk rfl) rfl (tl hn rfl) ?_
                refine RunsA.node [6] (by kernel_rfl) rfl rfl ⟨?_, trivial⟩
                refine StepA.pur (pu_auto tabOk rfl) rfl (tl hn rfl) ?_
                exact RunsA.seq 7 rfl (by kernel_rfl) (tail _ _ ⟨i, h, x, hi, hx, ⟨rfl, rfl, rfl, trivial⟩, rfl⟩)
            · refine StepA.st (sw_storeN rfl rfl rfl rfl (Nat.le_of_ble_eq_true rfl)) rfl ?_
              refine RunsA.node [1, 4] (by kernel_rfl) rfl rfl ⟨?_, ?_, trivial⟩
              · refine StepA.pur (pu_auto tabOk rfl) rfl (tl hn rfl) ?_
                refine RunsA.node [4, 6] (by kernel_rfl) rfl rfl ⟨?_, ?_, trivial⟩
                · refine StepA.pur (pu_sub rfl rfl (bel5 hx)) rfl (tl hn rfl) ?_
                  refine RunsA.node [6] (by kernel_rfl) rfl rfl ⟨?_, trivial⟩
                  refine StepA.pur (pu_auto tabOk rfl) rfl (tl hn rfl) ?_
                  exact RunsA.seq 7 rfl (by kernel_rfl) (tail _ _ ⟨i, h, x, hi, hx, ⟨rfl, rfl, rfl, trivial⟩, rfl⟩)
                · refine StepA.pur (pu_auto tabOk rfl) rfl (tl hn rfl) ?_
                  refine RunsA.node [4] (by kernel_rfl) rfl rfl ⟨?_, trivial⟩
                  refine StepA.pur (pu_sub rfl rfl (bel5 hx)) rfl (tl hn rfl) ?_
                  exact RunsA.seq 7 rfl (by kernel_rfl) (tail _ _ ⟨i, h, x, hi, hx, ⟨rfl, rfl, rfl, trivial⟩, rfl⟩)
              · refine StepA.pur (pu_sub rfl rfl (bel5 hx)) rfl (tl hn rfl) ?_
                refine RunsA.node [1] (by kernel_rfl) rfl rfl ⟨?_, trivial⟩
                refine StepA.pur (pu_auto tabOk rfl) rfl (tl hn rfl) ?_
                refine RunsA.node [6] (by kernel_rfl) rfl rfl ⟨?_, trivial⟩
                refine StepA.pur (pu_auto tabOk rfl) rfl (tl hn rfl) ?_
                exact RunsA.seq 7 rfl (by kernel_rfl) (tail _ _ ⟨i, h, x, hi, hx, ⟨rfl, rfl, rfl, trivial⟩, rfl⟩)
        · refine StepA.pur (pu_auto tabOk rfl) rfl (tl hn rfl) ?_
          refine RunsA.node [0, 3] (by kernel_rfl) rfl rfl ⟨?_, ?_, trivial⟩
          · refine StepA.pur (pu_loadN_objR (rs := [rulsR d]) rfl rfl rfl rfl) rfl (tl hn rfl) ?_
            refine RunsA.node [3] (by kernel_rfl) rfl rfl ⟨?_, trivial⟩
            refine StepA.drawI hL rfl hu hi rfl (LendsPL.ros [.int 5]) rfl (by first | rfl | repeat' (first | rfl | exact clns_ro _ | refine clnO_cons ?_ ?_)) (tl hn rfl) fun i h x hi hx => ?_
            refine RunsA.node [4, 5] (by kernel_rfl) rfl rfl ⟨?_, ?_, trivial⟩
            · refine StepA.pur (pu_sub rfl rfl (bel5 hx)) rfl (tl hn rfl) ?_
              refine RunsA.node [5] (by kernel_rfl) rfl rfl ⟨?_, trivial⟩
              refine StepA.st (sw_storeN rfl rfl rfl rfl (Nat.le_of_ble_eq_true rfl)) rfl ?_
              refine RunsA.node [6] (by kernel_rfl) rfl rfl ⟨?_, trivial⟩
              refine StepA.pur (pu_auto tabOk rfl) rfl (tl hn rfl) ?_
              exact RunsA.seq 7 rfl (by kernel_rfl) (tail _ _ ⟨i, h, x, hi, hx, ⟨rfl, rfl, rfl, trivial⟩, rfl⟩)
            · refine StepA.st (sw_storeN rfl rfl rfl rfl (Nat.le_of_ble_eq_true rfl)) rfl ?_
              refine RunsA.node [4, 6] (by kernel_rfl) rfl rfl ⟨?_, ?_, trivial⟩
              · refine StepA.pur (pu_sub rfl rfl (bel5 hx)) rfl (tl hn rfl) ?_
                refine RunsA.node [6] (by kernel_rfl) rfl rfl ⟨?_, trivial⟩
                refine StepA.pur (pu_auto tabOk rfl) rfl (tl hn rfl) ?_
                exact RunsA.seq 7 rfl (by kernel_rfl) (tail _ _ ⟨i, h, x, hi, hx, ⟨rfl, rfl, rfl, trivial⟩, rfl⟩)
              · refine StepA.pur (pu_auto tabOk rfl) rfl (tl hn rfl) ?_
                refine RunsA.node [4] (by kernel_rfl) rfl rfl ⟨?_, trivial⟩
                refine StepA.pur (pu_sub rfl rfl (bel5 hx)) rfl (tl hn rfl) ?_
                exact RunsA.seq 7 rfl (by kernel_rfl) (tail _ _ ⟨i, h, x, hi, hx, ⟨rfl, rfl, rfl, trivial⟩, rfl⟩)
          · refine StepA.drawI hL rfl hu hi rfl (LendsPL.ros [.int 5]) rfl (by first | rfl | repeat' (first | rfl | exact clns_ro _ | refine clnO_cons ?_ ?_)) (tl hn rfl) fun i h x hi hx => ?_
            refine RunsA.node [0, 4] (by kernel_rfl) rfl rfl ⟨?_, ?_, trivial⟩
            · refine StepA.pur (pu_loadN_objR (rs := [rulsR d]) rfl rfl rfl rfl) rfl (tl hn rfl) ?_
              refine RunsA.node [4, 5] (by kernel_rfl) rfl rfl ⟨?_, ?_, trivial⟩
              · refine StepA.pur (pu_sub rfl rfl (bel5 hx)) rfl (tl hn rfl) ?_
                refine RunsA.node [5] (by kernel_rfl) rfl rfl ⟨?_, trivial⟩
                refine StepA.st (sw_storeN rfl rfl rfl rfl (Nat.le_of_ble_eq_true rfl)) rfl ?_
                refine RunsA.node [6] (by kernel_rfl) rfl rfl ⟨?_, trivial⟩
                refine StepA.pur (pu_auto tabOk rfl) rfl (tl hn rfl) ?_
                exact RunsA.seq 7 rfl (by kernel_rfl) (tail _ _ ⟨i, h, x, hi, hx, ⟨rfl, rfl, rfl, trivial⟩, rfl⟩)
              · refine StepA.st (sw_storeN rfl rfl rfl rfl (Nat.le_of_ble_eq_true rfl)) rfl ?_
                refine RunsA.node [4, 6] (by kernel_rfl) rfl rfl ⟨?_, ?_, trivial⟩
                · refine StepA.pur (pu_sub rfl rfl (bel5 hx)) rfl (tl hn rfl) ?_
                  refine RunsA.node [6] (by kernel_rfl) rfl rfl ⟨?_, trivial⟩
                  refine StepA.pur (pu_auto tabOk rfl) rfl (tl hn rfl) ?_
                  exact RunsA.seq 7 rfl (by kernel_rfl) (tail _ _ ⟨i, h, x, hi, hx, ⟨rfl, rfl, rfl, trivial⟩, rfl⟩)
                · refine StepA.pur (pu_auto tabOk rfl) rfl (tl hn rfl) ?_
                  refine RunsA.node [4] (by kernel_rfl) rfl rfl ⟨?_, trivial⟩
                  refine StepA.pur (pu_sub rfl rfl (bel5 hx)) rfl (tl hn rfl) ?_
                  exact RunsA.seq 7 rfl (by kernel_rfl) (tail _ _ ⟨i, h, x, hi, hx, ⟨rfl, rfl, rfl, trivial⟩, rfl⟩)
            · refine StepA.pur (pu_sub rfl rfl (bel5 hx)) rfl (tl hn rfl) ?_
              refine RunsA.node [0] (by kernel_rfl) rfl rfl ⟨?_, trivial⟩
              refine StepA.pur (pu_loadN_objR (rs := [rulsR d]) rfl rfl rfl rfl) rfl (tl hn rfl) ?_
              refine RunsA.node [5] (by kernel_rfl) rfl rfl ⟨?_, trivial⟩
              refine StepA.st (sw_storeN rfl rfl rfl rfl (Nat.le_of_ble_eq_true rfl)) rfl ?_
              refine RunsA.node [6] (by kernel_rfl) rfl rfl ⟨?_, trivial⟩
              refine StepA.pur (pu_auto tabOk rfl) rfl (tl hn rfl) ?_
              exact RunsA.seq 7 rfl (by kernel_rfl) (tail _ _ ⟨i, h, x, hi, hx, ⟨rfl, rfl, rfl, trivial⟩, rfl⟩)
        · refine StepA.drawI hL rfl hu hi rfl (LendsPL.ros [.int 5]) rfl (by first | rfl | repeat' (first | rfl | exact clns_ro _ | refine clnO_cons ?_ ?_)) (tl hn rfl) fun i h x hi hx => ?_
          refine RunsA.node [0, 1, 4] (by kernel_rfl) rfl rfl ⟨?_, ?_, ?_, trivial⟩
          · refine StepA.pur (pu_loadN_objR (rs := [rulsR d]) rfl rfl rfl rfl) rfl (tl hn rfl) ?_
            refine RunsA.node [1, 4, 5] (by kernel_rfl) rfl rfl ⟨?_, ?_, ?_, trivial⟩
            · refine StepA.pur (pu_auto tabOk rfl) rfl (tl hn rfl) ?_
              refine RunsA.node [4, 5] (by kernel_rfl) rfl rfl ⟨?_, ?_, trivial⟩
              · refine StepA.pur (pu_sub rfl rfl (bel5 hx)) rfl (tl hn rfl) ?_
                refine RunsA.node [5] (by kernel_rfl) rfl rfl ⟨?_, trivial⟩
                refine StepA.st (sw_storeN rfl rfl rfl rfl (Nat.le_of_ble_eq_true rfl)) rfl ?_
                refine RunsA.node [6] (by kernel_rfl) rfl rfl ⟨?_, trivial⟩
                refine StepA.pur (pu_auto tabOk rfl) rfl (tl hn rfl) ?_
                exact RunsA.seq 7 rfl (by kernel_rfl) (tail _ _ ⟨i, h, x, hi, hx, ⟨rfl, rfl, rfl, trivial⟩, rfl⟩)
              · refine StepA.st (sw_storeN rfl rfl rfl rfl (Nat.le_of_ble_eq_true rfl)) rfl ?_
                refine RunsA.node [4, 6] (by kernel_rfl) rfl rfl ⟨?_, ?_, trivial⟩
                · refine StepA.pur (pu_sub rfl rfl (bel5 hx)) rfl (tl hn rfl) ?_
                  refine RunsA.node [6] (by kernel_rfl) rfl rfl ⟨?_, trivial⟩
                  refine StepA.pur (pu_auto tabOk rfl) rfl (tl hn rfl) ?_
                  exact RunsA.seq 7 rfl (by kernel_rfl) (tail _ _ ⟨i, h, x, hi, hx, ⟨rfl, rfl, rfl, trivial⟩, rfl⟩)
                · refine StepA.pur (pu_auto tabOk rfl) rfl (tl hn rfl) ?_
                  refine RunsA.node [4] (by kernel_rfl) rfl rfl ⟨?_, trivial⟩
                  refine StepA.pur (pu_sub rfl rfl (bel5 hx)) rfl (tl hn rfl) ?_
                  exact RunsA.seq 7 rfl (by kernel_rfl) (tail _ _ ⟨i, h, x, hi, hx, ⟨rfl, rfl, rfl, trivial⟩, rfl⟩)
            · refine StepA.pur (pu_sub rfl rfl (bel5 hx)) rfl (tl hn rfl) ?_
              refine RunsA.node [1, 5] (by kernel_rfl) rfl rfl ⟨?_, ?_, trivial⟩
              · refine StepA.pur (pu_auto tabOk rfl) rfl (tl hn rfl) ?_
                refine RunsA.node [5] (by kernel_rfl) rfl rfl ⟨?_, trivial⟩
                refine StepA.st (sw_storeN rfl rfl rfl rfl (Nat.le_of_ble_eq_true rfl)) rfl ?_
                refine RunsA.node [6] (by kernel_rfl) rfl rfl ⟨?_, trivial⟩
                refine StepA.pur (pu_auto tabOk rfl) rfl (tl hn rfl) ?_
                exact RunsA.seq 7 rfl (by kernel_rfl) (tail _ _ ⟨i, h, x, hi, hx, ⟨rfl, rfl, rfl, trivial⟩, rfl⟩)
              · refine StepA.st (sw_storeN rfl rfl rfl rfl (Nat.le_of_ble_eq_true rfl)) rfl ?_
                refine RunsA.node [1] (by kernel_rfl) rfl rfl ⟨?_, trivial⟩
                refine StepA.pur (pu_auto tabOk rfl) rfl (tl hn rfl) ?_
                refine RunsA.node [6] (by kernel_rfl) rfl rfl ⟨?_, trivial⟩
                refine StepA.pur (pu_auto tabOk rfl) rfl (tl hn rfl) ?_
                exact RunsA.seq 7 rfl (by kernel_rfl) (tail _ _ ⟨i, h, x, hi, hx, ⟨rfl, rfl, rfl, trivial⟩, rfl⟩)
            · refine StepA.st (sw_storeN rfl rfl rfl rfl (Nat.le_of_ble_eq_true rfl)) rfl ?_
              refine RunsA.node [1, 4] (by kernel_rfl) rfl rfl ⟨?_, ?_, trivial⟩
              · refine StepA.pur (pu_auto tabOk rfl) rfl (tl hn rfl) ?_
                refine RunsA.node [4, 6] (by kernel_rfl) rfl rfl ⟨?_, ?_, trivial⟩
                · refine StepA.pur (pu_sub rfl rfl (bel5 hx)) rfl (tl hn rfl) ?_
                  refine RunsA.node [6] (by kernel_rfl) rfl rfl ⟨?_, trivial⟩
                  refine StepA.pur (pu_auto tabOk rfl) rfl (tl hn rfl) ?_
                  exact RunsA.seq 7 rfl (by kernel_rfl) (tail _ _ ⟨i, h, x, hi, hx, ⟨rfl, rfl, rfl, trivial⟩, rfl⟩)
                · refine StepA.pur (pu_auto tabOk rfl) rfl (tl hn rfl) ?_
                  refine RunsA.node [4] (by kernel_rfl) rfl rfl ⟨?_, trivial⟩
                  refine StepA.pur (pu_sub rfl rfl (bel5 hx)) rfl (tl hn rfl) ?_
                  exact RunsA.seq 7 rfl (by kernel_rfl) (tail _ _ ⟨i, h, x, hi, hx, ⟨rfl, rfl, rfl, trivial⟩, rfl⟩)
              · refine StepA.pur (pu_sub rfl rfl (bel5 hx)) rfl (tl hn rfl) ?_
                refine RunsA.node [1] (by kernel_rfl) rfl rfl ⟨?_, trivial⟩
                refine StepA.pur (pu_auto tabOk rfl) rfl (tl hn rfl) ?_
                refine RunsA.node [6] (by kernel_rfl) rfl rfl ⟨?_, trivial⟩
                refine StepA.pur (pu_auto tabOk rfl) rfl (tl hn rfl) ?_
                exact RunsA.seq 7 rfl (by kernel_rfl) (tail _ _ ⟨i, h, x, hi, hx, ⟨rfl, rfl, rfl, trivial⟩, rfl⟩)
          · refine StepA.pur (pu_auto tabOk rfl) rfl (tl hn rfl) ?_
            refine RunsA.node [0, 4] (by kernel_rfl) rfl rfl ⟨?_, ?_, trivial⟩
            · refine StepA.pur (pu_loadN_objR (rs := [rulsR d]) rfl rfl rfl rfl) rfl (tl hn rfl) ?_
              refine RunsA.node [4, 5] (by kernel_rfl) rfl rfl ⟨?_, ?_, trivial⟩
              · refine StepA.pur (pu_sub rfl rfl (bel5 hx)) rfl (tl hn rfl) ?_
                refine RunsA.node [5] (by kernel_rfl) rfl rfl ⟨?_, trivial⟩
                refine StepA.st (sw_storeN rfl rfl rfl rfl (Nat.le_of_ble_eq_true rfl)) rfl ?_
                refine RunsA.node [6] (by kernel_rfl) rfl rfl ⟨?_, trivial⟩
                refine StepA.pur (pu_auto tabOk rfl) rfl (tl hn rfl) ?_
                exact RunsA.seq 7 rfl (by kernel_rfl) (tail _ _ ⟨i, h, x, hi, hx, ⟨rfl, rfl, rfl, trivial⟩, rfl⟩)
              · refine StepA.st (sw_storeN rfl rfl rfl rfl (Nat.le_of_ble_eq_true rfl)) rfl ?_
                refine RunsA.node [4, 6] (by kernel_rfl) rfl rfl ⟨?_, ?_, trivial⟩
                · refine StepA.pur (pu_sub rfl rfl (bel5 hx)) rfl (tl hn rfl) ?_
                  refine RunsA.node [6] (by kernel_rfl) rfl rfl ⟨?_, trivial⟩
                  refine StepA.pur (pu_auto tabOk rfl) rfl (tl hn rfl) ?_
                  exact RunsA.seq 7 rfl (by kernel_rfl) (tail _ _ ⟨i, h, x, hi, hx, ⟨rfl, rfl, rfl, trivial⟩, rfl⟩)
                · refine StepA.pur (pu_auto tabOk rfl) rfl (tl hn rfl) ?_
                  refine RunsA.node [4] (by kernel_rfl) rfl rfl ⟨?_, trivial⟩
                  refine StepA.pur (pu_sub rfl rfl (bel5 hx)) rfl (tl hn rfl) ?_
                  exact RunsA.seq 7 rfl (by kernel_rfl) (tail _ _ ⟨i, h, x, hi, hx, ⟨rfl, rfl, rfl, trivial⟩, rfl⟩)
            · refine StepA.pur (pu_sub rfl rfl (bel5 hx)) rfl (tl hn rfl) ?_
              refine RunsA.node [0] (by kernel_rfl) rfl rfl ⟨?_, trivial⟩
              refine StepA.pur (pu_loadN_objR (rs := [rulsR d]) rfl rfl rfl rfl) rfl (tl hn rfl) ?_
              refine RunsA.node [5] (by kernel_rfl) rfl rfl ⟨?_, trivial⟩
              refine StepA.st (sw_storeN rfl rfl rfl rfl (Nat.le_of_ble_eq_true rfl)) rfl ?_
              refine RunsA.node [6] (by kernel_rfl) rfl rfl ⟨?_, trivial⟩
              refine StepA.pur (pu_auto tabOk rfl) rfl (tl hn rfl) ?_
              exact RunsA.seq 7 rfl (by kernel_rfl) (tail _ _ ⟨i, h, x, hi, hx, ⟨rfl, rfl, rfl, trivial⟩, rfl⟩)
          · refine StepA.pur (pu_sub rfl rfl (bel5 hx)) rfl (tl hn rfl) ?_
            refine RunsA.node [0, 1] (by kernel_rfl) rfl rfl ⟨?_, ?_, trivial⟩
            · refine StepA.pur (pu_loadN_objR (rs := [rulsR d]) rfl rfl rfl rfl) rfl (tl hn rfl) ?_
              refine RunsA.node [1, 5] (by kernel_rfl) rfl rfl ⟨?_, ?_, trivial⟩
              · refine StepA.pur (pu_auto tabOk rfl) rfl (tl hn rfl) ?_
                refine RunsA.node [5] (by kernel_rfl) rfl rfl ⟨?_, trivial⟩
                refine StepA.st (sw_storeN rfl rfl rfl rfl (Nat.le_of_ble_eq_true rfl)) rfl ?_
                refine RunsA.node [6] (by kernel_rfl) rfl rfl ⟨?_, trivial⟩
                refine StepA.pur (pu_auto tabOk rfl) rfl (tl hn rfl) ?_
                exact RunsA.seq 7 rfl (by kernel_rfl) (tail _ _ ⟨i, h, x, hi, hx, ⟨rfl, rfl, rfl, trivial⟩, rfl⟩)
              · refine StepA.st (sw_storeN rfl rfl rfl rfl (Nat.le_of_ble_eq_true rfl)) rfl ?_
                refine RunsA.node [1] (by kernel_rfl) rfl rfl ⟨?_, trivial⟩
                refine StepA.pur (pu_auto tabOk rfl) rfl (tl hn rfl) ?_
                refine RunsA.node [6] (by kernel_rfl) rfl rfl ⟨?_, trivial⟩
                refine StepA.pur (pu_auto tabOk rfl) rfl (tl hn rfl) ?_
                exact RunsA.seq 7 rfl (by kernel_rfl) (tail _ _ ⟨i, h, x, hi, hx, ⟨rfl, rfl, rfl, trivial⟩, rfl⟩)
            · refine StepA.pur (pu_auto tabOk rfl) rfl (tl hn rfl) ?_
              refine RunsA.node [0] (by kernel_rfl) rfl rfl ⟨?_, trivial⟩
              refine StepA.pur (pu_loadN_objR (rs := [rulsR d]) rfl rfl rfl rfl) rfl (tl hn rfl) ?_
              refine RunsA.node [5] (by kernel_rfl) rfl rfl ⟨?_, trivial⟩
              refine StepA.st (sw_storeN rfl rfl rfl rfl (Nat.le_of_ble_eq_true rfl)) rfl ?_
              refine RunsA.node [6] (by kernel_rfl) rfl rfl ⟨?_, trivial⟩
              refine StepA.pur (pu_auto tabOk rfl) rfl (tl hn rfl) ?_
              exact RunsA.seq 7 rfl (by kernel_rfl) (tail _ _ ⟨i, h, x, hi, hx, ⟨rfl, rfl, rfl, trivial⟩, rfl⟩)
end Go.Proofs.Ytnecoghfhcimeaa
/- Drawn regions with late loads, where a call may leave memory of its own behind: the context may change. Over any program. -/
namespace Go.Proofs.Ytnecoghfhcimeaa
set_option linter.unusedSimpArgs false
set_option linter.unusedVariables false
set_option linter.unusedSectionVars false
open Go.RowKit
open AV (Mem Keeps)
def ctxG (C : Ctx) (w : World) (φ : Nat → Option Nat) (n : Nat) (bs : List Nat) : Ctx := ⟨w, fun b => C.ok b ∧ b ∉ bs, mine φ n, C.n⟩
section
variable {P : Program} {C : Ctx} {ct : TypeId} {b : List UInt8} {u : Value} {i h : Int} {more : List Ob}
theorem draw_goodG {i' h' : Int} {w w' : World} {φ : Nat → Option Nat} {g : Nat} {bs : List Nat} (hG : Good C ⟨w, φ, curOb ct u i h :: more, C.ok⟩) (hg : φ 0 = some g) (hu : u.oneCell' = true) (hat : CurAt ct w' g u i' h') (hb : Bx g w w') (hcl : clnO more = true) (hbs : ∀ x ∈ bs, w.heap.size ≤ x ∧ x < w'.heap.size) :
    Good (ctxG C w' φ (more.length + 1) bs) ⟨w', φ, curOb ct u i' h' :: more, (ctxG C w' φ (more.length + 1) bs).ok⟩ ∧ (∀ v x, cln v = true → AV.rel ⟨w, φ, curOb ct u i h :: more, C.ok⟩ v x → AV.rel ⟨w', φ, curOb ct u i' h' :: more, (ctxG C w' φ (more.length + 1) bs).ok⟩ v x) ∧ Nx C (ctxG C w' φ (more.length + 1) bs) [] := by
  have hlt : ∀ j x, j < more.length + 1 → φ j = some x → x < w.heap.size := fun j x hj hx => hG.lt (m := ⟨w, φ, curOb ct u i h :: more, C.ok⟩) (by simpa using hj) hx
  have hne : ∀ j x, j ≠ 0 → j < more.length + 1 → φ j = some x → x ≠ g := fun j x h0 hj hx e => h0 (hG.inj j 0 g (by simpa using hj) (by simp) (e ▸ hx) hg)
  have hro : RV.Kept w (AV.Mem.ok ⟨w, φ, curOb ct u i h :: more, C.ok⟩) w' (AV.Mem.ok ⟨w', φ, curOb ct u i' h' :: more, (ctxG C w' φ (more.length + 1) bs).ok⟩) := ⟨hb.size, fun x hx ho => ⟨⟨⟨ho.1, fun hm => by have := (hbs x hm).1; omega⟩, fun j hj e => ho.2 j (by simpa using hj) e⟩, hb.block x hx fun e => ho.2 0 (by simp) (e ▸ hg)⟩⟩
  have key : ∀ v x, cln v = true → AV.rel ⟨w, φ, curOb ct u i h :: more, C.ok⟩ v x → AV.rel ⟨w', φ, curOb ct u i' h' :: more, (ctxG C w' φ (more.length + 1) bs).ok⟩ v x :=
    rel_cln (m := ⟨w, φ, curOb ct u i h :: more, C.ok⟩) (m' := ⟨w', φ, curOb ct u i' h' :: more, (ctxG C w' φ (more.length + 1) bs).ok⟩) hro (by simp) (fun j _ => rfl) (fun j h0 hj => by
      cases j with
      | zero => exact absurd rfl h0
      | succ j => rfl) (fun j x h0 hj hx => hb.block x (hlt j x (by simpa using hj) hx) (hne j x h0 (by simpa using hj) hx))
  have hblk : ∀ x, x < C.w0.heap.size → ¬ C.mu x → w'.heap[x]? = C.w0.heap[x]? := fun x hx hm => by
    have hgm := hG.mine 0 g (by simp) hg
    refine (hb.block x (Nat.lt_of_lt_of_le hx hG.frm.size) fun e => ?_).trans (hG.frm.block x hx hm)
    subst e
    rcases hgm with k | k
    · exact hm k
    · omega
  refine ⟨⟨rfl, fun a c x ha hc e1 e2 => hG.inj a c x ha hc e1 e2, fun j o hj => ?_, fun j x hj hx => .inl ⟨j, by simpa using hj, hx⟩, ⟨rfl, rfl, rfl, Nat.le_refl _, fun _ _ _ => rfl, fun x hx => ⟨hG.frm.new x (Nat.le_trans hG.frm.size (Nat.le_trans hb.size hx)), fun hm => by have := (hbs x hm).2; simp only [ctxG] at hx; omega⟩⟩⟩, key, ⟨rfl, hb.os.trans hG.frm.os, hb.tape.trans hG.frm.tape, hb.output.trans hG.frm.output, Nat.le_trans hG.frm.size hb.size, fun x hx hm _ => hblk x hx hm, fun x hx => ?_, fun x hx => hx.1⟩⟩
  · cases j with
    | zero =>
      simp only [List.getElem?_cons_zero, Option.some.injEq] at hj
      subst hj
      show ObRel _ _ (φ 0)
      rw [hg]
      obtain ⟨us, q0, q1, q2, q3⟩ := hat
      refine ⟨us, q0, ?_, fun p v hp => ?_⟩
      · have := (Array.getElem?_eq_some_iff.1 q3).1
        simp [curOb]; omega
      · simp only [curOb] at hp
        match p, hp with
        | 0, hp => simp at hp; subst hp; exact ⟨u, q1, hu, by simp [AV.rel, RV.rel]⟩
        | 1, hp => simp at hp; subst hp; exact ⟨_, q2, rfl, by simp [AV.rel, RV.rel]⟩
        | 2, hp => simp at hp; subst hp; exact ⟨_, q3, rfl, by simp [AV.rel, RV.rel]⟩
        | p + 3, hp => simp at hp
    | succ j =>
      have hj' : more[j]? = some o := by simpa using hj
      have hjl := (List.getElem?_eq_some_iff.1 hj').1
      have h0 := hG.ob (j + 1) o (by simpa using hj')
      show ObRel _ _ (φ (j + 1))
      simp only at h0
      cases hx : φ (j + 1) with
      | none => rw [hx] at h0; exact h0
      | some x =>
        rw [hx] at h0
        obtain ⟨us, q1, q2, q3⟩ := h0
        refine ⟨us, (hb.block x (hlt _ x (by omega) hx) (hne _ x (by omega) (by omega) hx)).trans q1, q2, fun p v hp => ?_⟩
        obtain ⟨y, e1, e2, e3⟩ := q3 p v hp
        exact ⟨y, e1, e2, key v y (clns_at (clnO_at hcl j o hj') p v hp) e3⟩
  · obtain ⟨j, hj, hx⟩ := hx
    exact hG.mine j x (by simpa using hj) hx
def LendsG (C : Ctx) (σ : List Ob) (v : AV) (r : RV) : Prop := ∀ (m : Mem) (x : Value) (g : Nat), Good C m → m.σ = σ → 0 < σ.length → m.φ 0 = some g → AV.rel m v x → RV.rel m.w (fun z => z ≠ g) r x
inductive LendsGL (C : Ctx) (σ : List Ob) : List AV → List RV → Prop
  | nil : LendsGL C σ [] []
  | cons {v : AV} {r : RV} {vs : List AV} {rs : List RV} : LendsG C σ v r → LendsGL C σ vs rs → LendsGL C σ (v :: vs) (r :: rs)
theorem LendsG.of {σ : List Ob} {v : AV} {r : RV} (hl : LendsP C σ v r) : LendsG C σ v r := fun m x g hG hσ h0 hg hx =>
  hl m x (fun z => z ≠ g) hG hσ (fun z hz e => hz.2 0 (by rw [hσ]; exact h0) (e ▸ hg)) (fun j z hj hjl hz e => by
    have := hG.inj j 0 g (by rw [hσ]; exact hjl) (by rw [hσ]; exact h0) (e ▸ hz) hg
    omega) hx
theorem LendsG.ro {σ : List Ob} {r : RV} : LendsG C σ (.ro r) r := LendsG.of LendsP.ro
theorem LendsGL.rels {σ : List Ob} {m : Mem} {g : Nat} (hG : Good C m) (hσ : m.σ = σ) (h0 : 0 < σ.length) (hg : m.φ 0 = some g) {vs : List AV} {rs : List RV} (hl : LendsGL C σ vs rs) : ∀ us, AV.rels m vs us → RV.rels m.w (fun z => z ≠ g) rs us := by
  induction hl with
  | nil => intro us hu; simpa [AV.rels, RV.rels] using hu
  | cons h1 _ ih =>
    intro us hu
    simp only [AV.rels] at hu
    obtain ⟨x, us', rfl, k3, k4⟩ := hu
    simp only [RV.rels]
    exact ⟨x, us', rfl, h1 m x g hG hσ h0 hg k3, ih us' k4⟩
theorem LendsG.agg {σ : List Ob} {vs : List AV} {rs : List RV} (hl : LendsGL C σ vs rs) : LendsG C σ (.agg vs) (.agg rs) := fun m x g hG hσ h0 hg hx => by
  simp only [AV.rel] at hx
  obtain ⟨us, rfl, hx⟩ := hx
  simp only [RV.rel]
  exact ⟨us, rfl, hl.rels hG hσ h0 hg _ hx⟩
theorem draw_wpG {env : Env} {t : Nat} {ty : TypeId} {pos : String} {after : Array Edge} {f : FuncId} {fn : Func} {x0 : Operand} {xs : List Operand} {ats : Array TypeId} {args : List RV} {Q : RR → Prop} {Q' : OV → Prop} {gd : Option (Nat × Bool)} [hfn : FN P f fn] (hf : Drw P ct f b args Q) (hq : ∀ rr, Q rr → ∃ ov, RO rr ov ∧ Q' ov) (hc : unpin (ev env x0) = .obj 0 0) (hu : HU C b u) (hi : CurOk b i) (hcl : clnO more = true)
    {m : Mem} {a : Act} (hG : Good C m) (hσ : m.σ = curOb ct u i h :: more) (ha : LendsGL C m.σ (xs.map (ev env)) args) (hH : ∀ x ∈ x0 :: xs, AV.rel m (ev env x) (a.eval x)) {K : Act → World → Prop} {QE : Exit → Act → World → Prop}
    (hK : ∀ C' v w' i' h' bs ov, C'.n = C.n → CurOk b i' → Q' ov → Gh C' ov v bs → bs.Nodup → (∀ x ∈ bs, C.w0.heap.size ≤ x) → Nx C C' [] → HU C' b u → Good C' ⟨w', m.φ, curOb ct u i' h' :: more, C'.ok⟩ → (∀ y x, cln y = true → AV.rel m y x → AV.rel ⟨w', m.φ, curOb ct u i' h' :: more, C'.ok⟩ y x) → K (a.put (some t) v) w') :
    (⟨some t, .call { callee := .value (.func f), args := (x0 :: xs).toArray, argTypes := ats }, ty, pos, after, gd⟩ : Oper).wp P a m.w K QE := by
  obtain ⟨g, hg⟩ := cur_block hG hσ
  have hp := unpin_rel (hH x0 (by simp))
  rw [hc] at hp
  simp only [AV.rel] at hp
  obtain ⟨_, g', hg', ep⟩ := hp
  rw [hg] at hg'; injection hg' with hg'; subst hg'
  have h0 : 0 < m.σ.length := by rw [hσ]; simp
  have hr := ha.rels hG rfl h0 hg _ (rels_eval (a := a) (m := m) xs fun x hx => hH x (by simp [hx]))
  have hun := hu.now hG
  unfold Oper.wp
  rw [execOp_call_go, run_call hfn]
  simp only [Oper.upon]
  have e0 : ((x0 :: xs).toArray.map a.eval) = (.pointer (some ⟨g, 0, none⟩) :: xs.map a.eval).toArray := by simp [ep]
  rw [e0]
  simp only [Array.empty_append, Array.append_empty]
  refine (hf m.w (fun _ => True) g u i h _ (fun _ _ => trivial) (cur_at hG hσ hg) (RV.rel_mono ⟨Nat.le_refl _, fun z _ hz => ⟨⟨trivial, fun e => hz.2 0 h0 (e ▸ hg)⟩, rfl⟩⟩ _ _ hun) hi (RV.rels_mono ⟨Nat.le_refl _, fun z _ hz => ⟨⟨trivial, hz⟩, rfl⟩⟩ _ _ hr)).mono ?_
  rintro e w' ⟨v, rr, bs, i', h', rfl, hQ, q1, q2, q3, q4, q5, q6⟩
  obtain ⟨ov, ho, hq'⟩ := hq rr hQ
  obtain ⟨w, φ, s, ok0⟩ := m
  have k0 := hG.ok0
  simp only at k0 hσ
  subst k0; subst hσ
  obtain ⟨g1, g2, g3⟩ := draw_goodG (bs := bs) hG hg hu.one q5 q6 hcl q3
  refine hK (ctxG C w' φ (more.length + 1) bs) v w' i' h' bs ov rfl q4 hq' ⟨ro_rel rr ov v bs ho q1, fun x hx => ⟨(q3 x hx).2, fun ⟨j, hj, e⟩ => ?_, fun hk => hk.2 hx⟩⟩ q2 (fun x hx => Nat.le_trans hG.frm.size (q3 x hx).1) g3 ?_ g1 g2
  · have := hG.lt (by simpa using hj) e
    have := (q3 x hx).1
    simp only at *
    omega
  · refine RV.rel_mono ⟨Nat.le_refl _, fun z _ hz => ⟨hz, rfl⟩⟩ _ _ (RV.rel_mono (w' := w') ⟨q6.size, fun z hz ho => ⟨⟨⟨ho.1, fun hm => ?_⟩, fun ⟨j, hj, e⟩ => ho.2 j (by simpa using hj) e⟩, q6.block z hz fun e => ho.2 0 h0 (e ▸ hg)⟩⟩ _ _ hun)
    have := (q3 z hm).1
    simp only at hz this
    omega
end
section
variable {P : Program} {C : Ctx} {ct : TypeId} {u : Value} {more : List Ob} {l : List Oper} {H T : List IOq} {k : List Item} {R : Act → World → Prop}
structure RunsG (P : Program) (C : Ctx) (ct : TypeId) (u : Value) (more : List Ob) (l : List Oper) (H T : List IOq) (k : List Item) (R : Act → World → Prop) (i h : Int) (env : Env) : Prop where
  run : LatB l H T → ∀ (late : List LO) (E0 : Nat → AV), (∀ p ∈ late, (p.1, p.2.1) ∈ H) → (∀ p ∈ late, ∀ C' : Ctx, C'.n = C.n → LFact P C' ct u more E0 p) → (∀ s ∈ keysOf H, look env s = E0 s) → ∀ (n : Nat) (pd : List LO) (listed : Array Bool) (a : Act) (w : World), pd.length = n → (∀ p ∈ pd, p ∈ late) → listed.size = l.length → ClosedL l listed →
    (∀ j, j < l.length → (listed.getD j true = false ↔ ((∃ p ∈ pd, p.1 = j) ∨ ∃ p ∈ T, p.1 = j))) → SimM C (maskE pd env) (curOb ct u i h :: more) a w → wpAny P .any l.toArray (nrm (Fin P k R)) (n + T.length) listed a w
variable {i h : Int} {env : Env} {n t : Nat} {ty : TypeId} {pos : String} {after : Array Edge} {b : List UInt8}
theorem RunsG.eff {o : Oper} {T' : List IOq} (X : AV → Int → Int → Ctx → Prop) (hg : o.guard = none) (hd : o.dst = some t) (ht : t < C.n) (hce : clnE env = true)
    (hs : ∀ (a : Act) (m : Mem), Good C m → m.σ = curOb ct u i h :: more → (∀ x ∈ o.op.operands, AV.rel m (ev env x) (a.eval x)) → ∀ (K : Act → World → Prop) (Q : Exit → Act → World → Prop),
      (∀ y i' h' C' v w', X y i' h' C' → C'.n = C.n → Good C' ⟨w', m.φ, curOb ct u i' h' :: more, C'.ok⟩ → (∀ y x, cln y = true → AV.rel m y x → AV.rel ⟨w', m.φ, curOb ct u i' h' :: more, C'.ok⟩ y x) → AV.rel ⟨w', m.φ, curOb ct u i' h' :: more, C'.ok⟩ y v → K (a.put (some t) v) w') → o.wp P a m.w K Q)
    (hk : ∀ y i' h' C', X y i' h' C' → C'.n = C.n → RunsG P C' ct u more l H T' k R i' h' ((t, y) :: env)) : RunsG P C ct u more l H ((n, o) :: T') k R i h env := by
  refine ⟨fun hB late E0 hlH hF hE0 => runsP_step hB hlH (fun p hp => hF p hp C rfl) hE0 (fun pd listed a w p r e hpd hls hcls hch hr hS hops => ?_) (by simp)⟩
  injection e with e1 e2
  subst e1; subst e2
  refine wpOp_at (by simpa using hB.tat (n, o) (by simp)) hg ?_
  obtain ⟨s1, s2, φ, hG, hE⟩ := hS
  refine hs a ⟨w, φ, curOb ct u i h :: more, C.ok⟩ hG rfl (ev_tmps fun s hs => by rw [← hops s hs]; exact hE s) _ _ fun y i' h' C' v w' hX hn g1 g2 g3 => ?_
  have hfr := hB.fresh (n, o) (by simp) t hd
  refine (hk y i' h' C' hX hn).run hB.tail late E0 hlH (fun p hp C'' e => hF p hp C'' (e.trans hn)) (fun s hs => ?_) pd.length pd _ _ w' rfl hpd (by simpa using hls) (hcls.next hr hls) (listed_next hB (fun q hq => hlH q (hpd q hq)) hls hch) ⟨s1, by simp [Act.put, s2, hn], φ, g1, fun s => ?_⟩
  · rw [look_put, if_neg (fun (e : t = s) => hfr (by rw [e]; exact hs))]; exact hE0 s hs
  · rw [getD_put a t s v (by rw [s2]; exact ht)]
    split
    · rename_i e; subst e
      unfold maskE
      split
      · simp [AV.rel]
      · rw [look_put, if_pos rfl]; exact g3
    · rename_i e
      rw [maskE_put (Ne.symm e)]
      exact g2 _ _ (cln_mask hce s) (hE s)
theorem RunsG.pur {o : Oper} {T' : List IOq} {y : AV} (hp : Pur P C o env (curOb ct u i h :: more) y) (hg : o.guard = none) (hd : o.dst = some t) (ht : t < C.n) (hce : clnE env = true) (hk : RunsG P C ct u more l H T' k R i h ((t, y) :: env)) : RunsG P C ct u more l H ((n, o) :: T') k R i h env :=
  RunsG.eff (fun y' i' h' C' => y' = y ∧ i' = i ∧ h' = h ∧ C' = C) hg hd ht hce (fun a m hG hσ hH K Q hK => hp.run a m hG hσ hH K Q fun v w' hb hv => by
    obtain ⟨w, φ, s, ok0⟩ := m
    have h0 := hG.ok0
    simp only at h0 hσ
    subst h0; subst hσ
    obtain ⟨g1, g2⟩ := good_below hG hb
    rw [hd]
    exact hK y i h C v w' ⟨rfl, rfl, rfl, rfl⟩ rfl g1 (fun z x _ hz => AV.rel_keeps g2 _ _ (AV.only_true _) hz) hv) (by rintro _ _ _ _ ⟨rfl, rfl, rfl, rfl⟩ _; exact hk)
theorem RunsG.drawF {f : FuncId} {fn : Func} {x0 : Operand} {xs : List Operand} {ats : Array TypeId} {args : List RV} {Q : RR → Prop} {Q' : RV → Prop} {T' : List IOq} [hfn : FN P f fn] (hf : Drw P ct f b args Q) (hq : ∀ rr, Q rr → flatR rr = true ∧ ∃ r, Seals rr r ∧ Q' r) (hc : unpin (ev env x0) = .obj 0 0) (hu : HU C b u) (hi : CurOk b i) (ha : ∀ h : Int, LendsPL C (curOb ct u i h :: more) (xs.map (ev env)) args)
    (hce : clnE env = true) (hcl : clnO more = true) (ht : t < C.n) (hk : ∀ i' h' r, CurOk b i' → Q' r → RunsG P C ct u more l H T' k R i' h' ((t, .ro r) :: env)) :
    RunsG P C ct u more l H ((n, ⟨some t, .call { callee := .value (.func f), args := (x0 :: xs).toArray, argTypes := ats }, ty, pos, after, none⟩) :: T') k R i h env :=
  RunsG.eff (fun y i' h' C' => C' = C ∧ ∃ r, y = .ro r ∧ CurOk b i' ∧ Q' r) rfl rfl ht hce (fun a m hG hσ hH K Q hK =>
    draw_wpF hf (fun rr h => (hq rr h).1) hc hu hi hG hσ (by rw [hσ]; exact ha h) (fun x hx => hH x (by simp [Op.operands, Call.operands] at hx ⊢; exact .inr hx)) fun rr v w' i' h' bs g hQ hD => by
      obtain ⟨_, r, hs, hr⟩ := hq rr hQ
      obtain ⟨g1, g2, g3⟩ := hD.simS hG hσ hu.one hcl hs
      exact hK (.ro r) i' h' C v w' ⟨rfl, r, rfl, hD.ok, hr⟩ rfl g1 g2 g3) (by rintro _ i' h' _ ⟨rfl, r, rfl, h1, h2⟩ _; exact hk i' h' r h1 h2)
theorem RunsG.drawI {f : FuncId} {fn : Func} {x0 : Operand} {xs : List Operand} {ats : Array TypeId} {args : List RV} {p : Int → Prop} {T' : List IOq} [hfn : FN P f fn] (hf : Drw P ct f b args (QI p)) (hc : unpin (ev env x0) = .obj 0 0) (hu : HU C b u) (hi : CurOk b i) (ha : ∀ h : Int, LendsPL C (curOb ct u i h :: more) (xs.map (ev env)) args)
    (hce : clnE env = true) (hcl : clnO more = true) (ht : t < C.n) (hk : ∀ (i' h' x : Int), CurOk b i' → p x → RunsG P C ct u more l H T' k R i' h' ((t, .int x) :: env)) :
    RunsG P C ct u more l H ((n, ⟨some t, .call { callee := .value (.func f), args := (x0 :: xs).toArray, argTypes := ats }, ty, pos, after, none⟩) :: T') k R i h env :=
  RunsG.drawF hf qi_ok hc hu hi ha hce hcl ht (by rintro i' h' _ h1 ⟨x, rfl, hx⟩; exact hk i' h' x h1 hx)
theorem RunsG.drawG {f : FuncId} {fn : Func} {x0 : Operand} {xs : List Operand} {ats : Array TypeId} {args : List RV} {Q : RR → Prop} {Q' : OV → Prop} {T' : List IOq} [hfn : FN P f fn] (hf : Drw P ct f b args Q) (hq : ∀ rr, Q rr → ∃ ov, RO rr ov ∧ Q' ov) (hc : unpin (ev env x0) = .obj 0 0) (hu : HU C b u) (hi : CurOk b i) (ha : ∀ h : Int, LendsGL C (curOb ct u i h :: more) (xs.map (ev env)) args)
    (hce : clnE env = true) (hcl : clnO more = true) (ht : t < C.n) (hk : ∀ C' i' h' v bs ov, Nx C C' [] → HU C' b u → CurOk b i' → Q' ov → Gh C' ov v bs → bs.Nodup → (∀ x ∈ bs, C.w0.heap.size ≤ x) → RunsG P C' ct u more l H T' k R i' h' ((t, .ro (constRV v)) :: env)) :
    RunsG P C ct u more l H ((n, ⟨some t, .call { callee := .value (.func f), args := (x0 :: xs).toArray, argTypes := ats }, ty, pos, after, none⟩) :: T') k R i h env :=
  RunsG.eff (fun y i' h' C' => ∃ v bs ov, y = .ro (constRV v) ∧ Nx C C' [] ∧ HU C' b u ∧ CurOk b i' ∧ Q' ov ∧ Gh C' ov v bs ∧ bs.Nodup ∧ ∀ x ∈ bs, C.w0.heap.size ≤ x) rfl rfl ht hce (fun a m hG hσ hH K Q hK =>
    draw_wpG hf hq hc hu hi hcl hG hσ (by rw [hσ]; exact ha h) (fun x hx => hH x (by simp [Op.operands, Call.operands] at hx ⊢; exact .inr hx)) fun C' v w' i' h' bs ov hn h1 h2 h3 h4 h5 h6 h7 h8 h9 => by
      refine hK _ i' h' C' v w' ⟨v, bs, ov, rfl, h6, h7, h1, h2, h3, h4, h5⟩ hn h8 h9 ?_
      simp only [AV.rel]
      exact rel_constRV v) (by rintro _ i' h' C' ⟨v, bs, ov, rfl, h1, h2, h3, h4, h5, h6, h7⟩ _; exact hk C' i' h' v bs ov h1 h2 h3 h4 h5 h6 h7)
theorem RunsG.done (hk : RunsP P C ct u more l H T k R i h env) : RunsG P C ct u more l H T k R i h env :=
  ⟨fun hB late E0 hlH hF hE0 => hk.run hB late E0 hlH (fun p hp => hF p hp C rfl) hE0⟩
structure RunsI (P : Program) (C : Ctx) (ct : TypeId) (u : Value) (more : List Ob) (l : List Oper) (H T : List IOq) (k : List Item) (R : Act → World → Prop) (i h : Int) (keys : List Nat) (rest : List IOq) (env : Env) : Prop where
  run : ∃ (late : List LO) (env' : Env), late.length = rest.length ∧ (∀ p ∈ late, (p.1, p.2.1) ∈ rest) ∧ (∀ p ∈ rest, ∃ q ∈ late, q.1 = p.1 ∧ q.2.1 = p.2) ∧ (∀ s ∈ keys, look env' s = look env s) ∧ (∀ s, (∀ p ∈ late, p.2.2.1 ≠ s) → look env' s = look env s) ∧ (∀ p ∈ late, ∀ C' : Ctx, C'.n = C.n → LFact P C' ct u more (look env') p) ∧ RunsG P C ct u more l H T k R i h env'
variable {keys : List Nat} {rest : List IOq}
theorem RunsI.nil (hk : RunsG P C ct u more l H T k R i h env) : RunsI P C ct u more l H T k R i h keys [] env := ⟨⟨[], env, rfl, by simp, by simp, fun _ _ => rfl, fun _ _ => rfl, by simp, hk⟩⟩
theorem RunsI.pur {o : Oper} {v : AV} (hp : ∀ (C' : Ctx) (i h : Int), C'.n = C.n → Pur P C' o env (curOb ct u i h :: more) v) (hd : o.dst = some t) (ht : t < C.n) (hf : (keys ++ tmpsOf o).contains t = false)
    (hk : RunsI P C ct u more l H T k R i h (keys ++ tmpsOf o ++ [t]) rest ((t, v) :: env)) : RunsI P C ct u more l H T k R i h keys ((n, o) :: rest) env := by
  obtain ⟨late, env', h0, h1, h2, h3, h4, h5, h6⟩ := hk.run
  have hfr : ∀ s ∈ keys ++ tmpsOf o, s ≠ t := fun s hs e => by
    subst e
    have : (keys ++ tmpsOf o).contains s = true := List.contains_iff_mem.2 hs
    rw [hf] at this; cases this
  refine ⟨⟨(n, o, t, v) :: late, env', by simp [h0], fun p hp => ?_, fun p hp => ?_, fun s hs => ?_, fun s hs => ?_, fun p hp' C' hn => ?_, h6⟩⟩
  · rcases List.mem_cons.1 hp with rfl | hp
    · simp
    · exact List.mem_cons_of_mem _ (h1 p hp)
  · rcases List.mem_cons.1 hp with rfl | hp
    · exact ⟨_, List.mem_cons_self, rfl, rfl⟩
    · obtain ⟨q, hq, e⟩ := h2 p hp
      exact ⟨q, List.mem_cons_of_mem _ hq, e⟩
  · rw [h3 s (by simp [hs]), look_put, if_neg (Ne.symm (hfr s (by simp [hs])))]
  · rw [h4 s (fun p hp => hs p (List.mem_cons_of_mem _ hp)), look_put, if_neg (hs (n, o, t, v) List.mem_cons_self)]
  · rcases List.mem_cons.1 hp' with rfl | hp'
    · refine ⟨fun a m i h hG hσ hH K Q hK => ?_, ?_, hd, by rw [hn]; exact ht⟩
      · exact (hp C' i h hn).run a m hG hσ (ev_tmps fun s hs => by
          have := hH s hs
          rwa [h3 s (by simp [hs]), look_put, if_neg (Ne.symm (hfr s (by simp [hs])))] at this) K Q hK
      · show look env' t = v
        rw [h3 t (by simp), look_put, if_pos rfl]
    · exact h5 p hp' C' hn
theorem Runs.toLag {id : Nat} {k0 : List Item} {σ : List Ob} (m : Nat) (hs ts : List Nat) (hf : P.follows .mixedOrders = true) (hσ : σ = curOb ct u i h :: more) (hc : Proofs.Ytnecoghfhcimeaa.ctls m k0 = .code (.region id l.toArray true) :: k) (hB : lateB l.length (pick l hs) (pick l ts) = true) (hnd : nodupB ((pick l ts).map (·.1)) = true) (hle : Nat.ble ((pick l hs).length + (pick l ts).length) l.length = true)
    (hk : RunsI P C ct u more l (pick l hs) (pick l ts) k R i h [] (pick l hs) env) : Runs P C k0 R ⟨env, σ⟩ := by
  subst hσ
  refine Runs.ctls m hc ⟨fun a w hs' => Fin.of_wp (wp_region_any hf ?_)⟩
  obtain ⟨s1, s2, φ, hG, hE⟩ := hs'
  have hb : Below w.heap.size w { w with drawn := w.drawn + 1 } := ⟨rfl, rfl, rfl, Nat.le_refl _, fun _ _ => rfl⟩
  obtain ⟨g1, g2⟩ := good_below hG hb
  obtain ⟨late, env', h0, h1, h2, _, h4, h5, h6⟩ := hk.run
  have hL := latB_of hB hnd
  have hall : ∀ j, j < l.length → (∃ p ∈ late, p.1 = j) ∨ ∃ p ∈ pick l ts, p.1 = j := fun j hj => by
    unfold lateB at hB
    simp only [Bool.and_eq_true] at hB
    have := List.all_eq_true.1 hB.2 j (List.mem_range.2 hj)
    rw [Bool.or_eq_true, memI_iff, memI_iff] at this
    rcases this with ⟨p, hp, e⟩ | h
    · obtain ⟨q, hq, e1, _⟩ := h2 p hp
      exact .inl ⟨q, hq, e1.trans e⟩
    · exact .inr h
  have hrun := h6.run hL late (look env') h1 h5 (fun _ _ => rfl) late.length late (Array.replicate l.length false) a { w with drawn := w.drawn + 1 } rfl (fun _ h => h) (by simp) (fun j o _ hl => by rw [getD_replicate_false] at hl; cases hl) (fun j hj => ⟨fun _ => hall j hj, fun _ => getD_in (by simpa using hj) (getD_replicate_false _ _)⟩) ⟨s1, s2, φ, g1, fun s => ?_⟩
  · have hmono : ∀ (n1 n2 : Nat) (listed : Array Bool) a w, n1 = n2 → wpAny P .any l.toArray (nrm (Fin P k R)) n1 listed a w → wpAny P .any l.toArray (nrm (Fin P k R)) n2 listed a w := fun _ _ _ _ _ e h => e ▸ h
    have hup : ∀ (n1 n2 : Nat) (listed : Array Bool) a w, n1 ≤ n2 → wpAny P .any l.toArray (nrm (Fin P k R)) n1 listed a w → wpAny P .any l.toArray (nrm (Fin P k R)) n2 listed a w := by
      intro n1
      induction n1 with
      | zero =>
        intro n2 listed a w _ hw
        cases n2 with
        | zero => exact hw
        | succ n2 => exact ⟨fun _ => hw.2, fun i hi => by rw [hw.1] at hi; cases hi⟩
      | succ n1 im =>
        intro n2 listed a w hle hw
        obtain ⟨n2, rfl⟩ : ∃ m, n2 = m + 1 := ⟨n2 - 1, by omega⟩
        exact ⟨hw.1, fun i hi => wpOp_mono (fun a w => im n2 _ a w (by omega)) (hw.2 i hi)⟩
    have hle' := Nat.le_of_ble_eq_true hle
    have := hup _ l.toArray.size _ _ _ (by simp; omega) hrun
    simpa using this
  · unfold maskE
    split
    · simp [AV.rel]
    · rename_i hn
      rw [h4 s fun p hp e => hn (List.any_eq_true.2 ⟨p, hp, by rw [e]; exact Nat.beq_refl _⟩)]
      exact AV.rel_keeps g2 _ _ (AV.only_true _) (hE s)
end
end Go.Proofs.Ytnecoghfhcimeaa
/- Descriptions that the laws' helpers make: all in memory of their own. -/
namespace Go.Proofs.Ytnecoghfhcimeaa
set_option linter.unusedSimpArgs false
set_option linter.unusedVariables false
set_option linter.unusedSectionVars false
open Go.RowKit
theorem nodup_two {a b : List Nat} (k : Nat) (h1 : a.Nodup) (h2 : b.Nodup) (h3 : ∀ x ∈ a, x < k) (h4 : ∀ x ∈ b, k ≤ x) : (a ++ b).Nodup := by
  rw [List.nodup_append]
  exact ⟨h1, h2, fun x hx y hy e => by have := h3 x hx; have := h4 y hy; omega⟩
end Go.Proofs.Ytnecoghfhcimeaa
/- Marks: functions that write into a value that they are handed. Steps on memory that is known by its block. Over any program. -/
namespace Go.Proofs.Ytnecoghfhcimeaa
set_option linter.unusedSimpArgs false
set_option linter.unusedVariables false
set_option linter.unusedSectionVars false
open Go.RowKit
open AV (Mem Keeps)
structure Bk (C : Ctx) (g : Nat) (us : Array Value) (e : TypeId) : Prop where
  cells : C.w0.heap[g]? = some (.cells us e (0, 0))
  mu : ¬ C.mu g
  ok : ¬ C.ok g
theorem Bk.lt {C : Ctx} {g : Nat} {us : Array Value} {e : TypeId} (h : Bk C g us e) : g < C.w0.heap.size := (Array.getElem?_eq_some_iff.1 h.cells).1
theorem Bk.now {C : Ctx} {m : Mem} {g : Nat} {us : Array Value} {e : TypeId} (h : Bk C g us e) (hG : Good C m) : m.w.heap[g]? = some (.cells us e (0, 0)) := (hG.frm.block g h.lt h.mu).trans h.cells
theorem Bk.next {C C' : Ctx} {g : Nat} {us : Array Value} {e : TypeId} {ds : List Nat} (h : Bk C g us e) (k : Nx C C' ds) (hd : g ∉ ds) : Bk C' g us e :=
  ⟨(k.block g h.lt h.mu hd).trans h.cells, fun hm => (k.mu g hm).elim h.mu fun h1 => by have := h.lt; omega, fun ho => h.ok (k.ok g ho)⟩
section
variable {P : Program} {C : Ctx} {ops : Array Oper} {rest : List Oper} {k : List Item} {R : Act → World → Prop} {env : Env} {σ : List Ob} {t : Nat} {ty : TypeId} {pos : String} {after : Array Edge} {gd : Option (Nat × Bool)}
end
structure Up (w w' : World) (bs : List Nat) : Prop where
  os : w'.os = w.os
  tape : w'.tape = w.tape
  output : w'.output = w.output
  size : w.heap.size ≤ w'.heap.size
  block : ∀ b, b < w.heap.size → b ∉ bs → w'.heap[b]? = w.heap[b]?
def MK (P : Program) (f : FuncId) (ov : OV) (k k' : Int) (ov' : OV) : Prop :=
  ∀ (w : World) (u : Value) (bs : List Nat), OV.rel w ov u bs → bs.Nodup → (∀ b ∈ bs, b < w.heap.size) →
    Calls P f #[u, .int .i64 k] w fun e w' => e = .returned (.int .i64 k') ∧ OV.rel w' ov' u bs ∧ Up w w' bs
def MX (P : Program) (f : FuncId) (ov : OV) (k k' : Int) : Prop :=
  ∀ (w : World) (u : Value) (bs : List Nat), OV.rel w ov u bs → bs.Nodup → (∀ b ∈ bs, b < w.heap.size) →
    Calls P f #[u, .int .i64 k] w fun e w' => e = .returned (.int .i64 k') ∧ Up w w' bs
theorem MK.mx {P : Program} {f : FuncId} {ov ov' : OV} {k k' : Int} (h : MK P f ov k k' ov') : MX P f ov k k' := fun w u bs h1 h2 h3 => (h w u bs h1 h2 h3).mono fun _ _ h => ⟨h.1, h.2.2⟩
theorem Nx.sub {C C' : Ctx} {bs ds : List Nat} (h : Nx C C' bs) (hs : ∀ b ∈ bs, b ∈ ds) : Nx C C' ds :=
  ⟨h.n, h.os, h.tape, h.output, h.size, fun b h1 h2 h3 => h.block b h1 h2 fun hm => h3 (hs b hm), h.mu, h.ok⟩
theorem Nx.refl (C : Ctx) (bs : List Nat) : Nx C C bs := ⟨rfl, rfl, rfl, rfl, Nat.le_refl _, fun _ _ _ _ => rfl, fun _ h => .inl h, fun _ h => h⟩
theorem Nx.up {C C' : Ctx} {bs : List Nat} (h : Nx C C' bs) (hm : ∀ b, ¬ C.mu b) {m : Mem} (hG : Good C' m) : Up C.w0 m.w bs :=
  ⟨hG.frm.os.trans h.os, hG.frm.tape.trans h.tape, hG.frm.output.trans h.output, Nat.le_trans h.size hG.frm.size, fun b hb hn => (hG.frm.block b (Nat.lt_of_lt_of_le hb h.size) fun hmu => (h.mu b hmu).elim (hm b) fun h1 => by omega).trans (h.block b hb (hm b) hn)⟩
section
variable {P : Program} {C C0 : Ctx} {S : St} {fn : Func}
end
section
variable {P : Program} {C : Ctx} {ops : Array Oper} {rest : List Oper} {k : List Item} {R : Act → World → Prop} {env : Env} {σ : List Ob} {t : Nat} {ty : TypeId} {pos : String} {after : Array Edge} {gd : Option (Nat × Bool)}
end
end Go.Proofs.Ytnecoghfhcimeaa
/- Marks on flat rows: written, and found again. -/
namespace Go.Proofs.Ytnecoghfhcimeaa
set_option linter.unusedSimpArgs false
set_option linter.unusedVariables false
set_option linter.unusedSectionVars false
open Go.RowKit
open AV (Mem Keeps)
theorem rels_cs {w : World} : ∀ (vs us : List Value) (bs : List Nat), OV.rels w (vs.map .c) us bs → us = vs ∧ bs = []
  | [], us, bs, h => by simpa [OV.rels] using h
  | v :: vs, us, bs, h => by
    simp only [List.map_cons, OV.rels, OV.rel] at h
    obtain ⟨u, us', b, bs', rfl, rfl, ⟨rfl, rfl⟩, h2⟩ := h
    obtain ⟨rfl, rfl⟩ := rels_cs vs us' bs' h2
    exact ⟨rfl, rfl⟩
def seqI (k : Int) (n : Nat) : List Int := (List.range n).map fun (i : Nat) => k + (i : Int)
end Go.Proofs.Ytnecoghfhcimeaa
/- Marks on rows of bytes. -/
namespace Go.Proofs.Ytnecoghfhcimeaa
set_option linter.unusedSimpArgs false
set_option linter.unusedVariables false
set_option linter.unusedSectionVars false
open Go.RowKit
open AV (Mem Keeps)
def seqB (k : Int) (n : Nat) : List UInt8 := (seqI k n).map fun z => UInt8.ofNat (IntKind.u8.wrap z).toNat
end Go.Proofs.Ytnecoghfhcimeaa
/- Marks on rows of texts. -/
namespace Go.Proofs.Ytnecoghfhcimeaa
set_option linter.unusedSimpArgs false
set_option linter.unusedVariables false
set_option linter.unusedSectionVars false
open Go.RowKit
open AV (Mem Keeps)
end Go.Proofs.Ytnecoghfhcimeaa
/- Marks: calls that write into values of the frame's. Over any program. -/
namespace Go.Proofs.Ytnecoghfhcimeaa
set_option linter.unusedSimpArgs false
set_option linter.unusedVariables false
set_option linter.unusedSectionVars false
open Go.RowKit
open AV (Mem Keeps)
section
variable {P : Program} {C : Ctx} {ops : Array Oper} {rest : List Oper} {k : List Item} {R : Act → World → Prop} {env : Env} {σ : List Ob} {t : Nat} {ty : TypeId} {pos : String} {after : Array Edge}
end
theorem Gh.rels {C : Ctx} {os : List OV} {us : List Value} {bs : List Nat} (h : Gh C (.agg os) (.agg us.toArray) bs) : OV.rels C.w0 os us bs := by
  have := h.rel
  simp only [OV.rel] at this
  obtain ⟨vs, e, h1⟩ := this
  injection e with e
  subst e
  simpa using h1
end Go.Proofs.Ytnecoghfhcimeaa
/- Marks on descriptions. -/
namespace Go.Proofs.Ytnecoghfhcimeaa
set_option linter.unusedSimpArgs false
set_option linter.unusedVariables false
set_option linter.unusedSectionVars false
open Go.RowKit
open AV (Mem Keeps)
end Go.Proofs.Ytnecoghfhcimeaa
/- Marks: what the laws want. -/
namespace Go.Proofs.Ytnecoghfhcimeaa
set_option linter.unusedSimpArgs false
set_option linter.unusedVariables false
set_option linter.unusedSectionVars false
open Go.RowKit
open AV (Mem Keeps)
theorem seals_cs : ∀ vs : List Value, OV.Seals (vs.map .c) (vs.map .c)
  | [] => by simp [OV.Seals]
  | v :: vs => by simp only [List.map_cons, OV.Seals]; exact ⟨_, _, rfl, by simp [OV.Seal], seals_cs vs⟩
theorem seal_row1 (e : TypeId) (vs : List Value) : OV.Seal (.row e 1 (vs.map .c)) (.seq 1 (vs.map fun v => [.c v])) := by
  simp only [OV.Seal]
  refine ⟨_, rfl, by simp, ?_⟩
  have : (vs.map fun v => [RV.c v]).flatten = vs.map .c := by
    induction vs with
    | nil => rfl
    | cons v vs ih => simp [ih]
  rw [this]
  exact seals_cs vs
theorem seals_app : ∀ {os os' : List OV} {rs rs' : List RV}, OV.Seals os rs → OV.Seals os' rs' → OV.Seals (os ++ os') (rs ++ rs')
  | [], os', rs, rs', h, h' => by simp only [OV.Seals] at h; subst h; simpa using h'
  | x :: os, os', rs, rs', h, h' => by
    simp only [OV.Seals] at h
    obtain ⟨r, rt, rfl, h1, h2⟩ := h
    simp only [List.cons_append, OV.Seals]
    exact ⟨r, rt ++ rs', rfl, h1, seals_app h2 h'⟩
end Go.Proofs.Ytnecoghfhcimeaa
/- The draw of a rule: l4Make. -/
namespace Go.Proofs.Ytnecoghfhcimeaa
set_option linter.unusedSimpArgs false
set_option linter.unusedVariables false
set_option linter.unusedSectionVars false
open Go.RowKit
open AV (Mem Keeps)
set_option maxHeartbeats 8000000 in
theorem l4Make1_d (b : List UInt8) (hb : b.length ≤ 1048576) (d : Des) (hd : d.length ≤ 24) : Drw Try.prog 123 117 b [desR d, .int 1] (QRul (RuleD d 1)) := by
  have hlm : (d.map rulR).length = d.length := List.length_map ..
  have hF := spec_FormatInt (d.length : Int) (by constructor <;> omega)
  have hlen := itoa_len (d.length : Int) (by omega) (by omega)
  have hfs : (⟨(Lib.itoa (d.length : Int)).toArray⟩ : ByteArray).size ≤ 20 := by rw [ba_size]; exact hlen
  refine drw_enter Try.func117 rfl _ Try.ntmps117 (by simp) fun C g u i h hn hm hu hi => ?_
  repeat' (first
 | (refine op_drawS (l1Str_d b hb baseA (by decide) (by decide)) rfl hu hi rfl (LendsPL.ros [strsR baseA]) rfl (by first | rfl | repeat' (first | rfl | exact clns_ro _ | refine clnO_cons ?_ ?_)) (tl hn rfl) ?_; intro i h a hi ha; have hsz := baseA_size a ha)
 | (refine op_drawI (l1Below_d b hb _ (by omega)) rfl hu hi rfl (LendsPL.ros [.int _]) rfl (by first | rfl | repeat' (first | rfl | exact clns_ro _ | refine clnO_cons ?_ ?_)) (tl hn rfl) ?_; intro i h x hi hx; obtain ⟨hxa, hxb⟩ := hx.2 (by omega))
 | refine RunsL.guard_t rfl rfl rfl ?_
 | (refine op_drawB (l1Once_d b hb 2 (by decide)) rfl hu hi rfl (LendsPL.ros [.int 2]) rfl (by first | rfl | repeat' (first | rfl | exact clns_ro _ | refine clnO_cons ?_ ?_)) (tl hn rfl) ?_; intro i h lt hi)
 | (refine RunsL.pe hn rfl rfl rfl ?_; first
 | refine ⟨_, pu_len_seqN d.length rfl hlm, ?_⟩)
 | refine RunsL.step tabOk hn rfl ?_
 | refine RunsL.nil ?_
 | refine Runs.toRegion 30 rfl ?_
 | (refine RunsL.pe hn rfl rfl rfl ?_; first
 | refine ⟨_, pu_callR hF rfl, ?_⟩
 | refine ⟨_, pu_cat rfl rfl (by omega), ?_⟩
 | refine ⟨_, pu_buildS rfl, ?_⟩)
 | (refine Runs.ctls 30 rfl ?_; first | refine Runs.cond_t rfl ?_ | refine Runs.ret (ends_ro hm rfl rfl ?_) | exact Runs.ret (ends_cellR hm rfl rfl rfl (Nat.le_of_ble_eq_true rfl) rfl rfl))
 | refine op_box rfl (tl hn rfl) ?_
 | refine op_storeF rfl rfl rfl rfl (Nat.le_of_ble_eq_true rfl) ?_
 | refine op_alloc (tl hn rfl) ?_
 | refine op_storeN rfl rfl rfl rfl (Nat.le_of_ble_eq_true rfl) ?_
 | (refine RunsL.pe hn rfl rfl rfl ?_; first
 | refine ⟨_, pu_add rfl rfl (by omega), ?_⟩
 | refine ⟨_, pu_build rfl rfl rfl rfl rfl rfl, ?_⟩)
 | (refine RunsL.guard_dec rfl rfl rfl ?_ ?_ <;> intro h <;> try (exfalso; first | omega | contradiction | (simp only [List.length_map] at h; omega))))
  all_goals (
    refine Runs.nilCell (e := 5) (sz := 1) 2 4 (by decide) rfl rfl ?_
    refine Runs.nilCell (e := 9) (sz := 1) 2 5 (by decide) rfl rfl ?_
    refine Runs.nilCell (e := 3) (sz := 1) 2 6 (by decide) rfl rfl ?_
    refine Runs.nilCell (e := 3) (sz := 1) 2 7 (by decide) rfl rfl ?_)
  all_goals first
    | exact Runs.ctls 30 rfl (Runs.ret (ends_rul (r := ⟨a ++ itoaS d.length, 1, 1 + x, lt, [], [], [], []⟩) (x := 4) (y := 5) (z := 6) (w := 7) hm rfl rfl rfl hi rfl rfl rfl rfl rfl rfl (by decide) (by decide) (ruleD1 ha (by omega) (fun _ => by omega))))
    | exact Runs.ctls 30 rfl (Runs.ret (ends_rul (r := ⟨a ++ itoaS d.length, 1, 1 + x, false, [], [], [], []⟩) (x := 4) (y := 5) (z := 6) (w := 7) hm rfl rfl rfl hi rfl rfl rfl rfl rfl rfl (by decide) (by decide) (ruleD1 ha (by omega) (by simp))))
set_option maxHeartbeats 8000000 in
theorem l4Make2_d (b : List UInt8) (hb : b.length ≤ 1048576) (d : Des) (hd : d.length ≤ 24) : Drw Try.prog 123 117 b [desR d, .int 2] (QRul (RuleD d 2)) := by
  have hlm : (d.map rulR).length = d.length := List.length_map ..
  have hF := spec_FormatInt (d.length : Int) (by constructor <;> omega)
  have hlen := itoa_len (d.length : Int) (by omega) (by omega)
  have hfs : (⟨(Lib.itoa (d.length : Int)).toArray⟩ : ByteArray).size ≤ 20 := by rw [ba_size]; exact hlen
  refine drw_enter Try.func117 rfl _ Try.ntmps117 (by simp) fun C g u i h hn hm hu hi => ?_
  repeat' (first
 | (refine op_drawS (l1Str_d b hb baseA (by decide) (by decide)) rfl hu hi rfl (LendsPL.ros [strsR baseA]) rfl (by first | rfl | repeat' (first | rfl | exact clns_ro _ | refine clnO_cons ?_ ?_)) (tl hn rfl) ?_; intro i h a hi ha; have hsz := baseA_size a ha)
 | (refine op_drawI (l1Below_d b hb _ (by omega)) rfl hu hi rfl (LendsPL.ros [.int _]) rfl (by first | rfl | repeat' (first | rfl | exact clns_ro _ | refine clnO_cons ?_ ?_)) (tl hn rfl) ?_; intro i h x hi hx; obtain ⟨hxa, hxb⟩ := hx.2 (by omega); obtain ⟨n3, rfl⟩ : ∃ n3 : Nat, x = n3 := ⟨x.toNat, by omega⟩)
 | (refine op_drawO (l1Bytes_d b hb (1 + n3) (by omega)) rfl hu hi rfl rfl rfl (by first | rfl | repeat' (first | rfl | exact clns_ro _ | refine clnO_cons ?_ ?_)) (tl hn rfl) ?_; rintro i h _ hi ⟨z, rfl, hz⟩)
 | (refine RunsL.pe hn rfl rfl rfl ?_; first
 | refine ⟨_, pu_len_seqN d.length rfl hlm, ?_⟩)
 | refine RunsL.step tabOk hn rfl ?_
 | refine RunsL.nil ?_
 | refine Runs.toRegion 30 rfl ?_
 | (refine RunsL.pe hn rfl rfl rfl ?_; first
 | refine ⟨_, pu_callR hF rfl, ?_⟩
 | refine ⟨_, pu_cat rfl rfl (by omega), ?_⟩
 | refine ⟨_, pu_buildS rfl, ?_⟩)
 | (refine Runs.ctls 30 rfl ?_; first | refine Runs.cond_t rfl ?_ | refine Runs.cond_f rfl ?_ | refine Runs.ret (ends_ro hm rfl rfl ?_) | exact Runs.ret (ends_cellR hm rfl rfl rfl (Nat.le_of_ble_eq_true rfl) rfl rfl))
 | refine op_box rfl (tl hn rfl) ?_
 | refine op_storeF rfl rfl rfl rfl (Nat.le_of_ble_eq_true rfl) ?_
 | refine op_alloc (tl hn rfl) ?_
 | refine op_storeN rfl rfl rfl rfl (Nat.le_of_ble_eq_true rfl) ?_
 | (refine RunsL.pe hn rfl rfl rfl ?_; first
 | refine ⟨_, pu_add rfl rfl (by omega), ?_⟩
 | refine ⟨_, pu_build rfl rfl rfl rfl rfl rfl, ?_⟩)
    )
  all_goals (
    refine Runs.nilCell (e := 9) (sz := 1) 2 5 (by decide) rfl rfl ?_
    refine Runs.nilCell (e := 3) (sz := 1) 2 6 (by decide) rfl rfl ?_
    refine Runs.nilCell (e := 3) (sz := 1) 2 7 (by decide) rfl rfl ?_)
  all_goals first
    | exact Runs.ctls 30 rfl (Runs.ret (ends_rul (r := ⟨a ++ itoaS d.length, 2, 0, false, z, [], [], []⟩) (x := 4) (y := 5) (z := 6) (w := 7) hm rfl rfl rfl hi rfl rfl rfl rfl rfl rfl (by decide) (by decide) (ruleD2 ha (by omega))))
set_option maxHeartbeats 8000000 in
theorem l4Make3_d (b : List UInt8) (hb : b.length ≤ 1048576) (d : Des) (hd : d.length ≤ 24) : Drw Try.prog 123 117 b [desR d, .int 3] (QRul (RuleD d 3)) := by
  have hlm : (d.map rulR).length = d.length := List.length_map ..
  have hF := spec_FormatInt (d.length : Int) (by constructor <;> omega)
  have hlen := itoa_len (d.length : Int) (by omega) (by omega)
  have hfs : (⟨(Lib.itoa (d.length : Int)).toArray⟩ : ByteArray).size ≤ 20 := by rw [ba_size]; exact hlen
  refine drw_enter Try.func117 rfl _ Try.ntmps117 (by simp) fun C g u i h hn hm hu hi => ?_
  repeat' (first
 | (refine op_drawS (l1Str_d b hb baseA (by decide) (by decide)) rfl hu hi rfl (LendsPL.ros [strsR baseA]) rfl (by first | rfl | repeat' (first | rfl | exact clns_ro _ | refine clnO_cons ?_ ?_)) (tl hn rfl) ?_; intro i h a hi ha; have hsz := baseA_size a ha)
 | (refine op_drawI (l1Below_d b hb _ (by omega)) rfl hu hi rfl (LendsPL.ros [.int _]) rfl (by first | rfl | repeat' (first | rfl | exact clns_ro _ | refine clnO_cons ?_ ?_)) (tl hn rfl) ?_; intro i h x hi hx; obtain ⟨hxa, hxb⟩ := hx.2 (by omega))
 | (refine RunsL.pe hn rfl rfl rfl ?_; first
 | refine ⟨_, pu_len_seqN d.length rfl hlm, ?_⟩)
 | refine RunsL.step tabOk hn rfl ?_
 | refine RunsL.nil ?_
 | refine Runs.toRegion 30 rfl ?_
 | (refine RunsL.pe hn rfl rfl rfl ?_; first
 | refine ⟨_, pu_callR hF rfl, ?_⟩
 | refine ⟨_, pu_cat rfl rfl (by omega), ?_⟩
 | refine ⟨_, pu_buildS rfl, ?_⟩)
 | (refine Runs.ctls 30 rfl ?_; first | refine Runs.cond_t rfl ?_ | refine Runs.cond_f rfl ?_ | refine Runs.ret (ends_ro hm rfl rfl ?_) | exact Runs.ret (ends_cellR hm rfl rfl rfl (Nat.le_of_ble_eq_true rfl) rfl rfl))
 | refine op_box rfl (tl hn rfl) ?_
 | refine op_storeF rfl rfl rfl rfl (Nat.le_of_ble_eq_true rfl) ?_
 | refine op_alloc (tl hn rfl) ?_
 | refine op_storeN rfl rfl rfl rfl (Nat.le_of_ble_eq_true rfl) ?_
 | (refine RunsL.pe hn rfl rfl rfl ?_; first
 | refine ⟨_, pu_add rfl rfl (by omega), ?_⟩
 | refine ⟨_, pu_build rfl rfl rfl rfl rfl rfl, ?_⟩)
    )
  all_goals (
    refine Runs.nilCell (e := 5) (sz := 1) 2 4 (by decide) rfl rfl ?_
    refine Runs.nilCell (e := 9) (sz := 1) 2 5 (by decide) rfl rfl ?_
    refine Runs.nilCell (e := 3) (sz := 1) 2 6 (by decide) rfl rfl ?_
    refine Runs.nilCell (e := 3) (sz := 1) 2 7 (by decide) rfl rfl ?_)
  all_goals first
    | exact Runs.ctls 30 rfl (Runs.ret (ends_rul (r := ⟨a ++ itoaS d.length, 3, 1 + x, false, [], [], [], []⟩) (x := 4) (y := 5) (z := 6) (w := 7) hm rfl rfl rfl hi rfl rfl rfl rfl rfl rfl (by decide) (by decide) (ruleD3 ha (by omega))))
set_option maxHeartbeats 8000000 in
theorem l4Make4_d (b : List UInt8) (hb : b.length ≤ 1048576) (d : Des) (hd : d.length ≤ 24) (r0 : Rul) (h0 : d[0]? = some r0) (hk0 : r0.kind = 1) : Drw Try.prog 123 117 b [desR d, .int 4] (QRul (RuleD d 4)) := by
  have hlm : (d.map rulR).length = d.length := List.length_map ..
  have hF := spec_FormatInt (d.length : Int) (by constructor <;> omega)
  have hlen := itoa_len (d.length : Int) (by omega) (by omega)
  have hfs : (⟨(Lib.itoa (d.length : Int)).toArray⟩ : ByteArray).size ≤ 20 := by rw [ba_size]; exact hlen
  refine drw_enter Try.func117 rfl _ Try.ntmps117 (by simp) fun C g u i h hn hm hu hi => ?_
  repeat' (first
 | (refine op_drawS (l1Str_d b hb baseA (by decide) (by decide)) rfl hu hi rfl (LendsPL.ros [strsR baseA]) rfl (by first | rfl | repeat' (first | rfl | exact clns_ro _ | refine clnO_cons ?_ ?_)) (tl hn rfl) ?_; intro i h a hi ha; have hsz := baseA_size a ha)
 | (refine op_drawI (l4Integer_d b hb d hd r0 h0 hk0) rfl hu hi rfl (LendsPL.ros [desR d]) rfl (by first | rfl | repeat' (first | rfl | exact clns_ro _ | refine clnO_cons ?_ ?_)) (tl hn rfl) ?_; intro i h x hi hx)
 | refine op_build (t := 56) rfl rfl rfl rfl rfl (tl hn rfl) ?_
 | (refine RunsL.pe hn rfl rfl rfl ?_; first
 | refine ⟨_, pu_len_seqN d.length rfl hlm, ?_⟩)
 | refine RunsL.step tabOk hn rfl ?_
 | refine RunsL.nil ?_
 | refine Runs.toRegion 30 rfl ?_
 | (refine RunsL.pe hn rfl rfl rfl ?_; first
 | refine ⟨_, pu_callR hF rfl, ?_⟩
 | refine ⟨_, pu_cat rfl rfl (by omega), ?_⟩
 | refine ⟨_, pu_buildS rfl, ?_⟩)
 | (refine Runs.ctls 30 rfl ?_; first | refine Runs.cond_t rfl ?_ | refine Runs.cond_f rfl ?_ | refine Runs.ret (ends_ro hm rfl rfl ?_) | exact Runs.ret (ends_cellR hm rfl rfl rfl (Nat.le_of_ble_eq_true rfl) rfl rfl))
 | refine op_box rfl (tl hn rfl) ?_
 | refine op_storeF rfl rfl rfl rfl (Nat.le_of_ble_eq_true rfl) ?_
 | refine op_alloc (tl hn rfl) ?_
 | refine op_storeN rfl rfl rfl rfl (Nat.le_of_ble_eq_true rfl) ?_
 | (refine RunsL.pe hn rfl rfl rfl ?_; first
 | refine ⟨_, pu_build rfl rfl rfl rfl rfl rfl, ?_⟩)
    )
  all_goals (
    refine Runs.nilCell (e := 5) (sz := 1) 2 4 (by decide) rfl rfl ?_
    refine Runs.nilCell (e := 9) (sz := 1) 2 5 (by decide) rfl rfl ?_
    refine Runs.nilCell (e := 3) (sz := 1) 2 6 (by decide) rfl rfl ?_)
  all_goals first
    | exact Runs.ctls 30 rfl (Runs.ret (ends_rul (r := ⟨a ++ itoaS d.length, 4, 0, false, [], [], [], [x]⟩) (x := 5) (y := 6) (z := 7) (w := 4) hm rfl rfl rfl hi rfl rfl rfl rfl rfl rfl (by decide) (by decide) (ruleD4 ha hx)))
set_option maxHeartbeats 8000000 in
theorem l4Make5_d (b : List UInt8) (hb : b.length ≤ 1048576) (d : Des) (hd : d.length ≤ 24) (r0 : Rul) (h0 : d[0]? = some r0) (hk0 : r0.kind = 1) : Drw Try.prog 123 117 b [desR d, .int 5] (QRul (RuleD d 5)) := by
  have hlm : (d.map rulR).length = d.length := List.length_map ..
  have hF := spec_FormatInt (d.length : Int) (by constructor <;> omega)
  have hlen := itoa_len (d.length : Int) (by omega) (by omega)
  have hfs : (⟨(Lib.itoa (d.length : Int)).toArray⟩ : ByteArray).size ≤ 20 := by rw [ba_size]; exact hlen
  refine drw_enter Try.func117 rfl _ Try.ntmps117 (by simp) fun C g u i h hn hm hu hi => ?_
  repeat' (first
 | (refine op_drawS (l1Str_d b hb baseA (by decide) (by decide)) rfl hu hi rfl (LendsPL.ros [strsR baseA]) rfl (by first | rfl | repeat' (first | rfl | exact clns_ro _ | refine clnO_cons ?_ ?_)) (tl hn rfl) ?_; intro i h a hi ha; have hsz := baseA_size a ha)
 | (refine op_drawI (l4Integer_d b hb d hd r0 h0 hk0) rfl hu hi rfl (LendsPL.ros [desR d]) rfl (by first | rfl | repeat' (first | rfl | exact clns_ro _ | refine clnO_cons ?_ ?_)) (tl hn rfl) ?_; intro i h x hi hx)
 | (refine op_drawI (l1Below_d b hb (d.length : Int) (by omega)) rfl hu hi rfl (LendsPL.ros [.int (d.length : Int)]) rfl (by first | rfl | repeat' (first | rfl | exact clns_ro _ | refine clnO_cons ?_ ?_)) (tl hn rfl) ?_; intro i h y hi hy; have hyd : InD d y := ⟨fun e => hy.1 (by omega), fun e => hy.2 (by omega)⟩)
 | refine op_build (t := 66) rfl rfl rfl rfl rfl (tl hn rfl) ?_
 | (refine RunsL.pe hn rfl rfl rfl ?_; first
 | refine ⟨_, pu_len_seqN d.length rfl hlm, ?_⟩)
 | refine RunsL.step tabOk hn rfl ?_
 | refine RunsL.nil ?_
 | refine Runs.toRegion 30 rfl ?_
 | (refine RunsL.pe hn rfl rfl rfl ?_; first
 | refine ⟨_, pu_callR hF rfl, ?_⟩
 | refine ⟨_, pu_cat rfl rfl (by omega), ?_⟩
 | refine ⟨_, pu_buildS rfl, ?_⟩)
 | (refine Runs.ctls 30 rfl ?_; first | refine Runs.cond_t rfl ?_ | refine Runs.cond_f rfl ?_ | refine Runs.ret (ends_ro hm rfl rfl ?_) | exact Runs.ret (ends_cellR hm rfl rfl rfl (Nat.le_of_ble_eq_true rfl) rfl rfl))
 | refine op_box rfl (tl hn rfl) ?_
 | refine op_storeF rfl rfl rfl rfl (Nat.le_of_ble_eq_true rfl) ?_
 | refine op_alloc (tl hn rfl) ?_
 | refine op_storeN rfl rfl rfl rfl (Nat.le_of_ble_eq_true rfl) ?_
 | (refine RunsL.pe hn rfl rfl rfl ?_; first
 | refine ⟨_, pu_build rfl rfl rfl rfl rfl rfl, ?_⟩)
    )
  all_goals (
    refine Runs.nilCell (e := 5) (sz := 1) 2 4 (by decide) rfl rfl ?_
    refine Runs.nilCell (e := 9) (sz := 1) 2 5 (by decide) rfl rfl ?_
    refine Runs.nilCell (e := 3) (sz := 1) 2 6 (by decide) rfl rfl ?_)
  all_goals first
    | exact Runs.ctls 30 rfl (Runs.ret (ends_rul (r := ⟨a ++ itoaS d.length, 5, 0, false, [], [], [], [x, y]⟩) (x := 5) (y := 6) (z := 7) (w := 4) hm rfl rfl rfl hi rfl rfl rfl rfl rfl rfl (by decide) (by decide) (ruleD5 ha hx hyd)))
set_option maxHeartbeats 8000000 in
theorem l4Make8_d (b : List UInt8) (hb : b.length ≤ 1048576) (d : Des) (hd : d.length ≤ 24) : Drw Try.prog 123 117 b [desR d, .int 8] (QRul (RuleD d 8)) := by
  have hlm : (d.map rulR).length = d.length := List.length_map ..
  have hF := spec_FormatInt (d.length : Int) (by constructor <;> omega)
  have hlen := itoa_len (d.length : Int) (by omega) (by omega)
  have hfs : (⟨(Lib.itoa (d.length : Int)).toArray⟩ : ByteArray).size ≤ 20 := by rw [ba_size]; exact hlen
  refine drw_enter Try.func117 rfl _ Try.ntmps117 (by simp) fun C g u i h hn hm hu hi => ?_
  repeat' (first
 | (refine op_drawS (l1Str_d b hb baseA (by decide) (by decide)) rfl hu hi rfl (LendsPL.ros [strsR baseA]) rfl (by first | rfl | repeat' (first | rfl | exact clns_ro _ | refine clnO_cons ?_ ?_)) (tl hn rfl) ?_; intro i h a hi ha; have hsz := baseA_size a ha)
 | (refine op_drawI (l1Below_d b hb (d.length : Int) (by omega)) rfl hu hi rfl (LendsPL.ros [.int (d.length : Int)]) rfl (by first | rfl | repeat' (first | rfl | exact clns_ro _ | refine clnO_cons ?_ ?_)) (tl hn rfl) ?_; intro i h y hi hy; have hyd : InD d y := ⟨fun e => hy.1 (by omega), fun e => hy.2 (by omega)⟩)
 | refine op_build (t := 136) rfl rfl rfl rfl rfl (tl hn rfl) ?_
 | (refine RunsL.pe hn rfl rfl rfl ?_; first
 | refine ⟨_, pu_len_seqN d.length rfl hlm, ?_⟩)
 | refine RunsL.step tabOk hn rfl ?_
 | refine RunsL.nil ?_
 | refine Runs.toRegion 30 rfl ?_
 | (refine RunsL.pe hn rfl rfl rfl ?_; first
 | refine ⟨_, pu_callR hF rfl, ?_⟩
 | refine ⟨_, pu_cat rfl rfl (by omega), ?_⟩
 | refine ⟨_, pu_buildS rfl, ?_⟩)
 | (refine Runs.ctls 30 rfl ?_; first | refine Runs.cond_t rfl ?_ | refine Runs.cond_f rfl ?_ | refine Runs.ret (ends_ro hm rfl rfl ?_) | exact Runs.ret (ends_cellR hm rfl rfl rfl (Nat.le_of_ble_eq_true rfl) rfl rfl))
 | refine op_box rfl (tl hn rfl) ?_
 | refine op_storeF rfl rfl rfl rfl (Nat.le_of_ble_eq_true rfl) ?_
 | refine op_alloc (tl hn rfl) ?_
 | refine op_storeN rfl rfl rfl rfl (Nat.le_of_ble_eq_true rfl) ?_
 | (refine RunsL.pe hn rfl rfl rfl ?_; first
 | refine ⟨_, pu_build rfl rfl rfl rfl rfl rfl, ?_⟩)
    )
  all_goals (
    refine Runs.nilCell (e := 5) (sz := 1) 2 4 (by decide) rfl rfl ?_
    refine Runs.nilCell (e := 9) (sz := 1) 2 5 (by decide) rfl rfl ?_
    refine Runs.nilCell (e := 3) (sz := 1) 2 6 (by decide) rfl rfl ?_)
  all_goals first
    | exact Runs.ctls 30 rfl (Runs.ret (ends_rul (r := ⟨a ++ itoaS d.length, 8, 0, false, [], [], [], [y]⟩) (x := 5) (y := 6) (z := 7) (w := 4) hm rfl rfl rfl hi rfl rfl rfl rfl rfl rfl (by decide) (by decide) (ruleD8 ha hyd)))
set_option maxHeartbeats 8000000 in
theorem l4Make9_d (b : List UInt8) (hb : b.length ≤ 1048576) (d : Des) (hd : d.length ≤ 24) : Drw Try.prog 123 117 b [desR d, .int 9] (QRul (RuleD d 9)) := by
  have hlm : (d.map rulR).length = d.length := List.length_map ..
  have hF := spec_FormatInt (d.length : Int) (by constructor <;> omega)
  have hlen := itoa_len (d.length : Int) (by omega) (by omega)
  have hfs : (⟨(Lib.itoa (d.length : Int)).toArray⟩ : ByteArray).size ≤ 20 := by rw [ba_size]; exact hlen
  refine drw_enter Try.func117 rfl _ Try.ntmps117 (by simp) fun C g u i h hn hm hu hi => ?_
  repeat' (first
 | (refine op_drawS (l1Str_d b hb baseA (by decide) (by decide)) rfl hu hi rfl (LendsPL.ros [strsR baseA]) rfl (by first | rfl | repeat' (first | rfl | exact clns_ro _ | refine clnO_cons ?_ ?_)) (tl hn rfl) ?_; intro i h a hi ha; have hsz := baseA_size a ha)
 | (refine op_drawI (l1Below_d b hb (d.length : Int) (by omega)) rfl hu hi rfl (LendsPL.ros [.int (d.length : Int)]) rfl (by first | rfl | repeat' (first | rfl | exact clns_ro _ | refine clnO_cons ?_ ?_)) (tl hn rfl) ?_; intro i h y hi hy; have hyd : InD d y := ⟨fun e => hy.1 (by omega), fun e => hy.2 (by omega)⟩)
 | refine op_build (t := 136) rfl rfl rfl rfl rfl (tl hn rfl) ?_
 | (refine RunsL.pe hn rfl rfl rfl ?_; first
 | refine ⟨_, pu_len_seqN d.length rfl hlm, ?_⟩)
 | refine RunsL.step tabOk hn rfl ?_
 | refine RunsL.nil ?_
 | refine Runs.toRegion 30 rfl ?_
 | (refine RunsL.pe hn rfl rfl rfl ?_; first
 | refine ⟨_, pu_callR hF rfl, ?_⟩
 | refine ⟨_, pu_cat rfl rfl (by omega), ?_⟩
 | refine ⟨_, pu_buildS rfl, ?_⟩)
 | (refine Runs.ctls 30 rfl ?_; first | refine Runs.cond_t rfl ?_ | refine Runs.cond_f rfl ?_ | refine Runs.ret (ends_ro hm rfl rfl ?_) | exact Runs.ret (ends_cellR hm rfl rfl rfl (Nat.le_of_ble_eq_true rfl) rfl rfl))
 | refine op_box rfl (tl hn rfl) ?_
 | refine op_storeF rfl rfl rfl rfl (Nat.le_of_ble_eq_true rfl) ?_
 | refine op_alloc (tl hn rfl) ?_
 | refine op_storeN rfl rfl rfl rfl (Nat.le_of_ble_eq_true rfl) ?_
 | (refine RunsL.pe hn rfl rfl rfl ?_; first
 | refine ⟨_, pu_build rfl rfl rfl rfl rfl rfl, ?_⟩)
    )
  all_goals (
    refine Runs.nilCell (e := 5) (sz := 1) 2 4 (by decide) rfl rfl ?_
    refine Runs.nilCell (e := 9) (sz := 1) 2 5 (by decide) rfl rfl ?_
    refine Runs.nilCell (e := 3) (sz := 1) 2 6 (by decide) rfl rfl ?_)
  all_goals first
    | exact Runs.ctls 30 rfl (Runs.ret (ends_rul (r := ⟨a ++ itoaS d.length, 9, 0, false, [], [], [], [y]⟩) (x := 5) (y := 6) (z := 7) (w := 4) hm rfl rfl rfl hi rfl rfl rfl rfl rfl rfl (by decide) (by decide) (ruleD9 ha hyd)))
set_option maxHeartbeats 8000000 in
theorem l4Make10_d (b : List UInt8) (hb : b.length ≤ 1048576) (d : Des) (hd : d.length ≤ 24) : Drw Try.prog 123 117 b [desR d, .int 10] (QRul (RuleD d 10)) := by
  have hlm : (d.map rulR).length = d.length := List.length_map ..
  have hF := spec_FormatInt (d.length : Int) (by constructor <;> omega)
  have hlen := itoa_len (d.length : Int) (by omega) (by omega)
  have hfs : (⟨(Lib.itoa (d.length : Int)).toArray⟩ : ByteArray).size ≤ 20 := by rw [ba_size]; exact hlen
  refine drw_enter Try.func117 rfl _ Try.ntmps117 (by simp) fun C g u i h hn hm hu hi => ?_
  repeat' (first
 | (refine op_drawS (l1Str_d b hb baseA (by decide) (by decide)) rfl hu hi rfl (LendsPL.ros [strsR baseA]) rfl (by first | rfl | repeat' (first | rfl | exact clns_ro _ | refine clnO_cons ?_ ?_)) (tl hn rfl) ?_; intro i h a hi ha; have hsz := baseA_size a ha)
 | (refine op_drawI (l1Int_d b hb [0, 10, 59, 255] (by decide) (by decide)) rfl hu hi rfl (LendsPL.ros [intsR [0, 10, 59, 255]]) rfl (by first | rfl | repeat' (first | rfl | exact clns_ro _ | refine clnO_cons ?_ ?_)) (tl hn rfl) ?_; intro i h y hi hy)
 | refine op_build (t := 144) rfl rfl rfl rfl rfl (tl hn rfl) ?_
 | (refine RunsL.pe hn rfl rfl rfl ?_; first
 | refine ⟨_, pu_len_seqN d.length rfl hlm, ?_⟩)
 | refine RunsL.step tabOk hn rfl ?_
 | refine RunsL.nil ?_
 | refine Runs.toRegion 30 rfl ?_
 | (refine RunsL.pe hn rfl rfl rfl ?_; first
 | refine ⟨_, pu_callR hF rfl, ?_⟩
 | refine ⟨_, pu_cat rfl rfl (by omega), ?_⟩
 | refine ⟨_, pu_buildS rfl, ?_⟩
 | refine ⟨_, pu_toU8 rfl, ?_⟩)
 | (refine Runs.ctls 30 rfl ?_; first | refine Runs.cond_t rfl ?_ | refine Runs.cond_f rfl ?_ | refine Runs.ret (ends_ro hm rfl rfl ?_) | exact Runs.ret (ends_cellR hm rfl rfl rfl (Nat.le_of_ble_eq_true rfl) rfl rfl))
 | refine op_box rfl (tl hn rfl) ?_
 | refine op_storeF rfl rfl rfl rfl (Nat.le_of_ble_eq_true rfl) ?_
 | refine op_alloc (tl hn rfl) ?_
 | refine op_storeN rfl rfl rfl rfl (Nat.le_of_ble_eq_true rfl) ?_
 | (refine RunsL.pe hn rfl rfl rfl ?_; first
 | refine ⟨_, pu_build rfl rfl rfl rfl rfl rfl, ?_⟩)
    )
  all_goals (
    refine Runs.nilCell (e := 9) (sz := 1) 2 5 (by decide) rfl rfl ?_
    refine Runs.nilCell (e := 3) (sz := 1) 2 6 (by decide) rfl rfl ?_
    refine Runs.nilCell (e := 3) (sz := 1) 2 7 (by decide) rfl rfl ?_)
  all_goals first
    | exact Runs.ctls 30 rfl (Runs.ret (ends_rul (r := ⟨a ++ itoaS d.length, 10, 0, false, [u8i y], [], [], []⟩) (x := 4) (y := 5) (z := 6) (w := 7) hm rfl rfl rfl hi rfl rfl rfl rfl rfl rfl (by decide) (by decide) (ruleD10 ha hy)))
end Go.Proofs.Ytnecoghfhcimeaa
/- The draw of a rule: sequences and choices. -/
namespace Go.Proofs.Ytnecoghfhcimeaa
set_option linter.unusedSimpArgs false
set_option linter.unusedVariables false
set_option linter.unusedSectionVars false
open Go.RowKit
open AV (Mem Keeps)
set_option maxHeartbeats 8000000 in
theorem l4Make6_d (b : List UInt8) (hb : b.length ≤ 1048576) (d : Des) (hd : d.length ≤ 24) : Drw Try.prog 123 117 b [desR d, .int 6] (QRul (RuleD d 6)) := by
  have hlm : (d.map rulR).length = d.length := List.length_map ..
  have hF := spec_FormatInt (d.length : Int) (by constructor <;> omega)
  have hlen := itoa_len (d.length : Int) (by omega) (by omega)
  have hfs : (⟨(Lib.itoa (d.length : Int)).toArray⟩ : ByteArray).size ≤ 20 := by rw [ba_size]; exact hlen
  refine drw_enter Try.func117 rfl _ Try.ntmps117 (by simp) fun C g u i h hn hm hu hi => ?_
  repeat' (first
 | (refine op_drawS (l1Str_d b hb baseA (by decide) (by decide)) rfl hu hi rfl (LendsPL.ros [strsR baseA]) rfl (by first | rfl | repeat' (first | rfl | exact clns_ro _ | refine clnO_cons ?_ ?_)) (tl hn rfl) ?_; intro i h a hi ha; have hsz := baseA_size a ha)
 | (refine op_drawI (l1Below_d b hb _ (by omega)) rfl hu hi rfl (LendsPL.ros [.int _]) rfl (by first | rfl | repeat' (first | rfl | exact clns_ro _ | refine clnO_cons ?_ ?_)) (tl hn rfl) ?_; intro i h x hi hx; obtain ⟨hxa, hxb⟩ := hx.2 (by omega))
 | (refine RunsL.pe hn rfl rfl rfl ?_; first
 | refine ⟨_, pu_len_seqN d.length rfl hlm, ?_⟩)
 | refine RunsL.step tabOk hn rfl ?_
 | refine RunsL.nil ?_
 | refine Runs.toRegion 30 rfl ?_
 | (refine RunsL.pe hn rfl rfl rfl ?_; first
 | refine ⟨_, pu_callR hF rfl, ?_⟩
 | refine ⟨_, pu_cat rfl rfl (by omega), ?_⟩
 | refine ⟨_, pu_buildS rfl, ?_⟩)
 | (refine Runs.ctls 30 rfl ?_; first | refine Runs.cond_t rfl ?_ | refine Runs.cond_f rfl ?_ | (refine Runs.cond_yes rfl ?_ ?_; · first | omega | rfl | assumption | (simp only [List.length_map]; omega)) | (refine Runs.cond_no rfl ?_ ?_; · first | omega | rfl | assumption | (simp only [List.length_map]; omega)) | refine Runs.ret (ends_ro hm rfl rfl ?_) | exact Runs.ret (ends_cellR hm rfl rfl rfl (Nat.le_of_ble_eq_true rfl) rfl rfl))
 | refine op_box rfl (tl hn rfl) ?_
 | refine op_storeF rfl rfl rfl rfl (Nat.le_of_ble_eq_true rfl) ?_
 | refine op_alloc (tl hn rfl) ?_
 | refine op_storeN rfl rfl rfl rfl (Nat.le_of_ble_eq_true rfl) ?_
 | (refine RunsL.pe hn rfl rfl rfl ?_; first
 | refine ⟨_, pu_add rfl rfl (by omega), ?_⟩
 | refine ⟨_, pu_sub rfl rfl (by omega), ?_⟩
 | refine ⟨_, pu_build rfl rfl rfl rfl rfl rfl, ?_⟩)
    )
  obtain ⟨c, hc⟩ : ∃ c : Nat, 1 + x = c := ⟨(1 + x).toNat, by omega⟩
  rw [hc]
  refine Runs.nilCell (e := 9) (sz := 1) 3 5 (by decide) rfl rfl ?_
  refine Runs.nilCell (e := 3) (sz := 1) 3 7 (by decide) rfl rfl ?_
  refine Runs.loopI 30 rfl (fun m E z => ∃ (l : List ByteArray) (ks : List Int) (i h : Int), l.length + m = c ∧ ks.length = l.length ∧ (∀ (j : Nat) x, l[j]? = some x → ∃ a ∈ baseP, x = a ++ itoaS ((c : Int) - j)) ∧ (∀ z ∈ ks, InD d z) ∧ CurOk b i ∧ E = [(0, .pin 0 0 g), (6, .obj 2 0), (7, .int d.length), (8, .obj 3 0), (9, .int m)] ∧
    z = [curOb 123 u i h, ⟨38, 0, [.ro (rulsR d)]⟩, ⟨52, 0, [.str ⟨#[]⟩, .int 0, .int 0, .bool false, .nil, .nil, .nil, .nil]⟩, ⟨52, 0, [.str (a ++ itoaS d.length), .int 6, .int 0, .bool false, .nil, .own 4, .nil, .own 5]⟩, ⟨9, 1, (l.map RV.str).map .ro⟩, ⟨3, 1, (ks.map RV.int).map .ro⟩]) c [(0, .pin 0 0 g), (6, .obj 2 0), (7, .int d.length), (8, .obj 3 0), (9, .int c)] ⟨rfl, rfl, rfl, rfl, rfl, trivial⟩ ⟨[], [], i, h, by simp, rfl, by simp, by simp, hi, rfl, rfl⟩ fun m E z ⟨l, ks, i, h, hlc, hkl, hl, hks, hi, hE, hz⟩ ih => ?_
  subst hE; subst hz
  have hll : (l.map RV.str).length = l.length := List.length_map ..
  have hkk : (ks.map RV.int).length = ks.length := List.length_map ..
  have hF2 := spec_FormatInt (m : Int) (by constructor <;> omega)
  have hlen2 := itoa_len (m : Int) (by omega) (by omega)
  have hfs2 : (⟨(Lib.itoa (m : Int)).toArray⟩ : ByteArray).size ≤ 20 := by rw [ba_size]; exact hlen2
  by_cases hm0 : 0 < m
  · repeat' (first
 | refine Runs.toLate (id := 19) 30 [0, 1, 2, 3, 5] [4, 6, 7, 8, 9, 10, 11] mixed rfl rfl (by kernel_rfl) (by kernel_rfl) (by kernel_rfl) ?_
 | refine Runs.toLate (id := 20) 30 [0, 1, 2, 3] [4, 5, 6, 7, 8] mixed rfl rfl (by kernel_rfl) (by kernel_rfl) (by kernel_rfl) ?_
 | (refine RunsP.drawS (l1Str_d b hb baseP (by decide) (by decide)) rfl hu hi (fun _ => LendsPL.ros [strsR baseP]) rfl (by first | rfl | repeat' (first | rfl | exact clns_ro _ | refine clnO_cons ?_ ?_)) (tl hn rfl) ?_; intro i h q hi hq; have hsz2 := baseP_size q hq)
 | (refine RunsP.drawI (l1Below_d b hb (d.length : Int) (by omega)) rfl hu hi (fun _ => LendsPL.ros [.int (d.length : Int)]) rfl (by first | rfl | repeat' (first | rfl | exact clns_ro _ | refine clnO_cons ?_ ?_)) (tl hn rfl) ?_; intro i h y hi hy; have hyd : InD d y := ⟨fun e => hy.1 (by omega), fun e => hy.2 (by omega)⟩)
 | (refine RunsL.junk 3 5 rfl ?_; refine op_append (t := 86) (n := l.length) rfl rfl rfl rfl rfl rfl (by rw [hll, Nat.mul_one]) (FreeI.at_ ⟨by simp [curOb, AV.onlys, AV.only], by simp [AV.onlys, AV.only], by simp [AV.onlys, AV.only], by simp [AV.onlys, AV.only], onlys_ro _ _, onlys_ro _ _, trivial⟩) (by simp; omega) (by simp; omega) (tl hn rfl) ?_)
 | (refine RunsL.junk 3 7 rfl ?_; refine op_append (t := 94) (n := ks.length) rfl rfl rfl rfl rfl rfl (by rw [hkk, Nat.mul_one]) (FreeI.at_ ⟨by simp [curOb, AV.onlys, AV.only], by simp [AV.onlys, AV.only], by simp [AV.onlys, AV.only], by simp [AV.onlys, AV.only], onlys_ro _ _, onlys_ro _ _, trivial⟩) (by simp; omega) (by simp; omega) (tl hn rfl) ?_)
 | refine RunsH.pur (fun _ _ => pu_auto tabOk rfl) rfl (tl hn rfl) rfl ?_
 | refine RunsH.pur (fun _ _ => pu_callR hF2 rfl) rfl (tl hn rfl) rfl ?_
 | refine RunsH.pur (fun _ _ => pu_cat rfl rfl (by omega)) rfl (tl hn rfl) rfl ?_
 | refine RunsH.pur (fun _ _ => pu_build rfl rfl rfl rfl rfl rfl) rfl (tl hn rfl) rfl ?_
 | refine RunsH.pur (fun _ _ => pu_add rfl rfl (by omega)) rfl (tl hn rfl) rfl ?_
 | refine RunsH.pur (fun _ _ => pu_sub rfl rfl (by omega)) rfl (tl hn rfl) rfl ?_
 | refine RunsH.pur (fun _ _ => pu_build rfl rfl rfl rfl rfl rfl) rfl (tl hn rfl) rfl ?_
 | refine RunsH.nil ?_
 | refine RunsP.pur (pu_auto tabOk rfl) rfl rfl (tl hn rfl) (by first | rfl | repeat' (first | rfl | exact clns_ro _ | refine clnO_cons ?_ ?_)) ?_
 | refine RunsP.pur (pu_callR hF2 rfl) rfl rfl (tl hn rfl) (by first | rfl | repeat' (first | rfl | exact clns_ro _ | refine clnO_cons ?_ ?_)) ?_
 | refine RunsP.pur (pu_cat rfl rfl (by omega)) rfl rfl (tl hn rfl) (by first | rfl | repeat' (first | rfl | exact clns_ro _ | refine clnO_cons ?_ ?_)) ?_
 | refine RunsP.pur (pu_build rfl rfl rfl rfl rfl rfl) rfl rfl (tl hn rfl) (by first | rfl | repeat' (first | rfl | exact clns_ro _ | refine clnO_cons ?_ ?_)) ?_
 | refine RunsP.pur (pu_add rfl rfl (by omega)) rfl rfl (tl hn rfl) (by first | rfl | repeat' (first | rfl | exact clns_ro _ | refine clnO_cons ?_ ?_)) ?_
 | refine RunsP.pur (pu_sub rfl rfl (by omega)) rfl rfl (tl hn rfl) (by first | rfl | repeat' (first | rfl | exact clns_ro _ | refine clnO_cons ?_ ?_)) ?_
 | refine RunsP.pur (pu_build rfl rfl rfl rfl rfl rfl) rfl rfl (tl hn rfl) (by first | rfl | repeat' (first | rfl | exact clns_ro _ | refine clnO_cons ?_ ?_)) ?_
 | refine RunsL.step tabOk hn rfl ?_
 | refine RunsL.nil ?_
 | refine Runs.toRegion 30 rfl ?_
 | refine RunsP.done 9 rfl (Nat.le_of_ble_eq_true rfl) (by kernel_rfl) (by kernel_rfl) ?_
 | refine RunsP.done 6 rfl (Nat.le_of_ble_eq_true rfl) (by kernel_rfl) (by kernel_rfl) ?_
 | (refine RunsL.pe hn rfl rfl rfl ?_; first
 | refine ⟨_, pu_callR hF2 rfl, ?_⟩
 | refine ⟨_, pu_cat rfl rfl (by omega), ?_⟩
 | refine ⟨_, pu_build rfl rfl rfl rfl rfl rfl, ?_⟩)
 | (refine Runs.ctls 30 rfl ?_; first | refine Runs.cond_t rfl ?_ | refine Runs.cond_f rfl ?_ | (refine Runs.cond_yes rfl ?_ ?_; · first | omega | rfl | assumption | (simp only [List.length_map]; omega)) | (refine Runs.cond_no rfl ?_ ?_; · first | omega | rfl | assumption | (simp only [List.length_map]; omega)) | refine Runs.ret (ends_ro hm rfl rfl ?_) | exact Runs.ret (ends_cellR hm rfl rfl rfl (Nat.le_of_ble_eq_true rfl) rfl rfl))
 | refine op_box rfl (tl hn rfl) ?_
 | refine op_storeF rfl rfl rfl rfl (Nat.le_of_ble_eq_true rfl) ?_
 | refine op_alloc (tl hn rfl) ?_
 | refine op_storeN rfl rfl rfl rfl (Nat.le_of_ble_eq_true rfl) ?_
 | (refine RunsL.pe hn rfl rfl rfl ?_; first
 | refine ⟨_, pu_add rfl rfl (by omega), ?_⟩
 | refine ⟨_, pu_sub rfl rfl (by omega), ?_⟩
 | refine ⟨_, pu_build rfl rfl rfl rfl rfl rfl, ?_⟩)
    )
    refine ih (m - 1) _ _ _ (by omega) ⟨l ++ [q ++ ⟨(Lib.itoa (m : Int)).toArray⟩], ks ++ [y], i, h, by simp; omega, by simp [hkl], fun j z hz => ?_, fun z hz => ?_, hi, rfl, ?_⟩ ⟨rfl, rfl, rfl, rfl, ?_, trivial⟩
    · rw [List.getElem?_append] at hz
      split at hz
      · exact hl j z hz
      · rename_i hj
        have hj' : j - l.length = 0 := by
          have := (List.getElem?_eq_some_iff.1 hz).1
          simp at this; omega
        rw [hj'] at hz
        simp at hz
        subst hz
        exact ⟨q, hq, by unfold itoaS; congr 3; congr 1; omega⟩
    · rcases List.mem_append.1 hz with h1 | h1
      · exact hks z h1
      · simp at h1; subst h1; exact hyd
    · simp
    · show AV.int _ = AV.int _
      congr 1; omega
  · have em : m = 0 := by omega
    repeat' (first
 | refine RunsL.step tabOk hn rfl ?_
 | refine RunsL.nil ?_
 | refine Runs.toRegion 30 rfl ?_
 | (refine Runs.ctls 30 rfl ?_; first | refine Runs.cond_t rfl ?_ | refine Runs.cond_f rfl ?_ | (refine Runs.cond_yes rfl ?_ ?_; · first | omega | rfl | assumption | (simp only [List.length_map]; omega)) | (refine Runs.cond_no rfl ?_ ?_; · first | omega | rfl | assumption | (simp only [List.length_map]; omega)) | refine Runs.ret (ends_ro hm rfl rfl ?_) | exact Runs.ret (ends_cellR hm rfl rfl rfl (Nat.le_of_ble_eq_true rfl) rfl rfl))
 | refine op_box rfl (tl hn rfl) ?_
 | refine op_storeF rfl rfl rfl rfl (Nat.le_of_ble_eq_true rfl) ?_
 | refine op_alloc (tl hn rfl) ?_
 | refine op_storeN rfl rfl rfl rfl (Nat.le_of_ble_eq_true rfl) ?_
 | (refine RunsL.pe hn rfl rfl rfl ?_; first
 | refine ⟨_, pu_add rfl rfl (by omega), ?_⟩
 | refine ⟨_, pu_sub rfl rfl (by omega), ?_⟩
 | refine ⟨_, pu_build rfl rfl rfl rfl rfl rfl, ?_⟩)
      )
    refine Runs.nilCell (e := 5) (sz := 1) 2 4 (by decide) rfl rfl ?_
    refine Runs.nilCell (e := 3) (sz := 1) 2 6 (by decide) rfl rfl ?_
    exact Runs.ctls 30 rfl (Runs.ret (ends_rul (r := ⟨a ++ itoaS d.length, 6, 0, false, [], l, [], ks⟩) (x := 6) (y := 4) (z := 7) (w := 5) hm rfl rfl rfl hi rfl rfl rfl rfl rfl rfl (by decide) (by decide) (ruleD6 ha (by omega) (by rw [show (l.length : Int) = c by omega]; exact hl) hkl hks)))
set_option maxHeartbeats 8000000 in
theorem l4Make7_d (b : List UInt8) (hb : b.length ≤ 1048576) (d : Des) (hd : d.length ≤ 24) (r0 : Rul) (h0 : d[0]? = some r0) (hk0 : r0.kind = 1) : Drw Try.prog 123 117 b [desR d, .int 7] (QRul (RuleD d 7)) := by
  have hlm : (d.map rulR).length = d.length := List.length_map ..
  have hF := spec_FormatInt (d.length : Int) (by constructor <;> omega)
  have hlen := itoa_len (d.length : Int) (by omega) (by omega)
  have hfs : (⟨(Lib.itoa (d.length : Int)).toArray⟩ : ByteArray).size ≤ 20 := by rw [ba_size]; exact hlen
  refine drw_enter Try.func117 rfl _ Try.ntmps117 (by simp) fun C g u i h hn hm hu hi => ?_
  repeat' (first
 | (refine op_drawS (l1Str_d b hb baseA (by decide) (by decide)) rfl hu hi rfl (LendsPL.ros [strsR baseA]) rfl (by first | rfl | repeat' (first | rfl | exact clns_ro _ | refine clnO_cons ?_ ?_)) (tl hn rfl) ?_; intro i h a hi ha; have hsz := baseA_size a ha)
 | (refine op_drawI (l4Integer_d b hb d hd r0 h0 hk0) rfl hu hi rfl (LendsPL.ros [desR d]) rfl (by first | rfl | repeat' (first | rfl | exact clns_ro _ | refine clnO_cons ?_ ?_)) (tl hn rfl) ?_; intro i h x0 hi hx0)
 | refine op_build (t := 101) rfl rfl rfl rfl rfl (tl hn rfl) ?_
 | (refine op_drawI (l1Below_d b hb _ (by omega)) rfl hu hi rfl (LendsPL.ros [.int _]) rfl (by first | rfl | repeat' (first | rfl | exact clns_ro _ | refine clnO_cons ?_ ?_)) (tl hn rfl) ?_; intro i h x hi hx; obtain ⟨hxa, hxb⟩ := hx.2 (by omega))
 | (refine RunsL.pe hn rfl rfl rfl ?_; first
 | refine ⟨_, pu_len_seqN d.length rfl hlm, ?_⟩)
 | refine RunsL.step tabOk hn rfl ?_
 | refine RunsL.nil ?_
 | refine Runs.toRegion 30 rfl ?_
 | (refine RunsL.pe hn rfl rfl rfl ?_; first
 | refine ⟨_, pu_callR hF rfl, ?_⟩
 | refine ⟨_, pu_cat rfl rfl (by omega), ?_⟩
 | refine ⟨_, pu_buildS rfl, ?_⟩)
 | (refine Runs.ctls 30 rfl ?_; first | refine Runs.cond_t rfl ?_ | refine Runs.cond_f rfl ?_ | (refine Runs.cond_yes rfl ?_ ?_; · first | omega | rfl | assumption | (simp only [List.length_map]; omega)) | (refine Runs.cond_no rfl ?_ ?_; · first | omega | rfl | assumption | (simp only [List.length_map]; omega)) | refine Runs.ret (ends_ro hm rfl rfl ?_) | exact Runs.ret (ends_cellR hm rfl rfl rfl (Nat.le_of_ble_eq_true rfl) rfl rfl))
 | refine op_box rfl (tl hn rfl) ?_
 | refine op_storeF rfl rfl rfl rfl (Nat.le_of_ble_eq_true rfl) ?_
 | refine op_alloc (tl hn rfl) ?_
 | refine op_storeN rfl rfl rfl rfl (Nat.le_of_ble_eq_true rfl) ?_
 | (refine RunsL.pe hn rfl rfl rfl ?_; first
 | refine ⟨_, pu_add rfl rfl (by omega), ?_⟩
 | refine ⟨_, pu_sub rfl rfl (by omega), ?_⟩
 | refine ⟨_, pu_mul rfl rfl (by omega), ?_⟩
 | refine ⟨_, pu_build rfl rfl rfl rfl rfl rfl, ?_⟩)
    )
  obtain ⟨c, hc⟩ : ∃ c : Nat, 1 + x = c := ⟨(1 + x).toNat, by omega⟩
  rw [hc]
  refine Runs.nilCell (e := 3) (sz := 1) 3 6 (by decide) rfl rfl ?_
  refine Runs.loopI 30 rfl (fun m E z => ∃ (ts ks : List Int) (i h : Int), ts.length + m = c ∧ ks.length = ts.length ∧ (∀ (j : Nat) z, ts[j]? = some z → 4 * (j : Int) ≤ z ∧ z ≤ 4 * j + 3) ∧ (∀ z ∈ ks, InD d z) ∧ CurOk b i ∧ E = [(0, .pin 0 0 g), (6, .obj 2 0), (7, .int d.length), (8, .obj 3 0), (10, .int m)] ∧
    z = [curOb 123 u i h, ⟨38, 0, [.ro (rulsR d)]⟩, ⟨52, 0, [.str ⟨#[]⟩, .int 0, .int 0, .bool false, .nil, .nil, .nil, .nil]⟩, ⟨52, 0, [.str (a ++ itoaS d.length), .int 7, .int 0, .bool false, .nil, .nil, .own 5, .own 4]⟩, ⟨3, 1, ((x0 :: ks).map RV.int).map .ro⟩, ⟨3, 1, (ts.map RV.int).map .ro⟩]) c [(0, .pin 0 0 g), (6, .obj 2 0), (7, .int d.length), (8, .obj 3 0), (10, .int c)] ⟨rfl, rfl, rfl, rfl, rfl, trivial⟩ ⟨[], [], i, h, by simp, rfl, by simp, by simp, hi, rfl, rfl⟩ fun m E z ⟨ts, ks, i, h, hlc, hkl, ht, hks, hi, hE, hz⟩ ih => ?_
  subst hE; subst hz
  have htt : (ts.map RV.int).length = ts.length := List.length_map ..
  have hta : ((ts.map RV.int).map AV.ro).length = ts.length := by simp
  have hkk : ((x0 :: ks).map RV.int).length = ks.length + 1 := by simp
  by_cases hm0 : 0 < m
  · repeat' (first
 | refine Runs.toLate (id := 26) 30 [0, 1, 2, 3, 4, 5, 6] [7, 8, 9, 10, 11, 12] mixed rfl rfl (by kernel_rfl) (by kernel_rfl) (by kernel_rfl) ?_
 | refine Runs.toLate (id := 27) 30 [0, 1, 2, 3] [4, 5, 6, 7, 8] mixed rfl rfl (by kernel_rfl) (by kernel_rfl) (by kernel_rfl) ?_
 | (refine RunsP.drawI (t := 117) (l1Below_d b hb 4 (by omega)) rfl hu hi (fun _ => LendsPL.ros [.int 4]) rfl (by first | rfl | repeat' (first | rfl | exact clns_ro _ | refine clnO_cons ?_ ?_)) (tl hn rfl) ?_; intro i h q hi hq; obtain ⟨hqa, hqb⟩ := hq.2 (by omega))
 | (refine RunsP.drawI (t := 126) (l1Below_d b hb (d.length : Int) (by omega)) rfl hu hi (fun _ => LendsPL.ros [.int (d.length : Int)]) rfl (by first | rfl | repeat' (first | rfl | exact clns_ro _ | refine clnO_cons ?_ ?_)) (tl hn rfl) ?_; intro i h y hi hy; have hyd : InD d y := ⟨fun e => hy.1 (by omega), fun e => hy.2 (by omega)⟩)
 | refine RunsH.pur (fun _ _ => pu_auto tabOk rfl) rfl (tl hn rfl) rfl ?_
 | refine RunsH.pur (fun _ _ => pu_len_own (n := ts.length) rfl rfl (by rw [hta, Nat.mul_one])) rfl (tl hn rfl) rfl ?_
 | refine RunsH.pur (fun _ _ => pu_mul rfl rfl (by omega)) rfl (tl hn rfl) rfl ?_
 | refine RunsH.pur (fun _ _ => pu_add rfl rfl (by omega)) rfl (tl hn rfl) rfl ?_
 | refine RunsH.pur (fun _ _ => pu_build rfl rfl rfl rfl rfl rfl) rfl (tl hn rfl) rfl ?_
 | refine RunsH.pur (fun _ _ => pu_add rfl rfl (by omega)) rfl (tl hn rfl) rfl ?_
 | refine RunsH.pur (fun _ _ => pu_sub rfl rfl (by omega)) rfl (tl hn rfl) rfl ?_
 | refine RunsH.pur (fun _ _ => pu_mul rfl rfl (by omega)) rfl (tl hn rfl) rfl ?_
 | refine RunsH.pur (fun _ _ => pu_build rfl rfl rfl rfl rfl rfl) rfl (tl hn rfl) rfl ?_
 | refine RunsH.nil ?_
 | refine RunsP.pur (pu_auto tabOk rfl) rfl rfl (tl hn rfl) (by first | rfl | repeat' (first | rfl | exact clns_ro _ | refine clnO_cons ?_ ?_)) ?_
 | refine RunsP.pur (pu_len_own (n := ts.length) rfl rfl (by rw [hta, Nat.mul_one])) rfl rfl (tl hn rfl) (by first | rfl | repeat' (first | rfl | exact clns_ro _ | refine clnO_cons ?_ ?_)) ?_
 | refine RunsP.pur (pu_mul rfl rfl (by omega)) rfl rfl (tl hn rfl) (by first | rfl | repeat' (first | rfl | exact clns_ro _ | refine clnO_cons ?_ ?_)) ?_
 | refine RunsP.pur (pu_add rfl rfl (by omega)) rfl rfl (tl hn rfl) (by first | rfl | repeat' (first | rfl | exact clns_ro _ | refine clnO_cons ?_ ?_)) ?_
 | refine RunsP.pur (pu_build rfl rfl rfl rfl rfl rfl) rfl rfl (tl hn rfl) (by first | rfl | repeat' (first | rfl | exact clns_ro _ | refine clnO_cons ?_ ?_)) ?_
 | refine RunsP.pur (pu_add rfl rfl (by omega)) rfl rfl (tl hn rfl) (by first | rfl | repeat' (first | rfl | exact clns_ro _ | refine clnO_cons ?_ ?_)) ?_
 | refine RunsP.pur (pu_sub rfl rfl (by omega)) rfl rfl (tl hn rfl) (by first | rfl | repeat' (first | rfl | exact clns_ro _ | refine clnO_cons ?_ ?_)) ?_
 | refine RunsP.pur (pu_mul rfl rfl (by omega)) rfl rfl (tl hn rfl) (by first | rfl | repeat' (first | rfl | exact clns_ro _ | refine clnO_cons ?_ ?_)) ?_
 | refine RunsP.pur (pu_build rfl rfl rfl rfl rfl rfl) rfl rfl (tl hn rfl) (by first | rfl | repeat' (first | rfl | exact clns_ro _ | refine clnO_cons ?_ ?_)) ?_
 | refine RunsL.step tabOk hn rfl ?_
 | refine RunsL.nil ?_
 | refine Runs.toRegion 30 rfl ?_
 | refine RunsP.done 10 rfl (Nat.le_of_ble_eq_true rfl) (by kernel_rfl) (by kernel_rfl) ?_
 | refine RunsP.done 6 rfl (Nat.le_of_ble_eq_true rfl) (by kernel_rfl) (by kernel_rfl) ?_
 | (refine RunsL.junk 3 6 rfl ?_; refine op_append (t := 120) (n := ts.length) rfl rfl rfl rfl rfl rfl (by rw [htt, Nat.mul_one]) (FreeI.at_ ⟨by simp [curOb, AV.onlys, AV.only], by simp [AV.onlys, AV.only], by simp [AV.onlys, AV.only], by simp [AV.onlys, AV.only], onlys_ro _ _, onlys_ro _ _, trivial⟩) (by simp; omega) (by simp; omega) (tl hn rfl) ?_)
 | (refine RunsL.junk 3 7 rfl ?_; refine op_append (t := 128) (n := ks.length + 1) rfl rfl rfl rfl rfl rfl (by rw [hkk, Nat.mul_one]) (FreeI.at_ ⟨by simp [curOb, AV.onlys, AV.only], by simp [AV.onlys, AV.only], by simp [AV.onlys, AV.only], by simp [AV.onlys, AV.only], onlys_ro _ _, onlys_ro _ _, trivial⟩) (by simp; omega) (by simp; omega) (tl hn rfl) ?_)
 | (refine RunsL.pe hn rfl rfl rfl ?_; first
 | refine ⟨_, pu_len_own (n := ts.length) rfl rfl (by rw [hta, Nat.mul_one]), ?_⟩
 | refine ⟨_, pu_mul rfl rfl (by omega), ?_⟩
 | refine ⟨_, pu_add rfl rfl (by omega), ?_⟩
 | refine ⟨_, pu_build rfl rfl rfl rfl rfl rfl, ?_⟩)
 | (refine Runs.ctls 30 rfl ?_; first | refine Runs.cond_t rfl ?_ | refine Runs.cond_f rfl ?_ | (refine Runs.cond_yes rfl ?_ ?_; · first | omega | rfl | assumption | (simp only [List.length_map]; omega)) | (refine Runs.cond_no rfl ?_ ?_; · first | omega | rfl | assumption | (simp only [List.length_map]; omega)) | refine Runs.ret (ends_ro hm rfl rfl ?_) | exact Runs.ret (ends_cellR hm rfl rfl rfl (Nat.le_of_ble_eq_true rfl) rfl rfl))
 | refine op_box rfl (tl hn rfl) ?_
 | refine op_storeF rfl rfl rfl rfl (Nat.le_of_ble_eq_true rfl) ?_
 | refine op_alloc (tl hn rfl) ?_
 | refine op_storeN rfl rfl rfl rfl (Nat.le_of_ble_eq_true rfl) ?_
 | (refine RunsL.pe hn rfl rfl rfl ?_; first
 | refine ⟨_, pu_add rfl rfl (by omega), ?_⟩
 | refine ⟨_, pu_sub rfl rfl (by omega), ?_⟩
 | refine ⟨_, pu_mul rfl rfl (by omega), ?_⟩
 | refine ⟨_, pu_build rfl rfl rfl rfl rfl rfl, ?_⟩)
    )
    refine ih (m - 1) _ _ _ (by omega) ⟨ts ++ [4 * (ts.length : Int) + q], ks ++ [y], i, h, by simp; omega, by simp [hkl], fun j z hz => ?_, fun z hz => ?_, hi, rfl, ?_⟩ ⟨rfl, rfl, rfl, rfl, ?_, trivial⟩
    · rw [List.getElem?_append] at hz
      split at hz
      · exact ht j z hz
      · rename_i hj
        have hj' : j - ts.length = 0 := by
          have := (List.getElem?_eq_some_iff.1 hz).1
          simp at this; omega
        rw [hj'] at hz
        simp at hz
        subst hz
        omega
    · rcases List.mem_append.1 hz with h1 | h1
      · exact hks z h1
      · simp at h1; subst h1; exact hyd
    · simp
    · show AV.int _ = AV.int _
      congr 1; omega
  · have em : m = 0 := by omega
    repeat' (first
 | refine RunsL.step tabOk hn rfl ?_
 | refine RunsL.nil ?_
 | refine Runs.toRegion 30 rfl ?_
 | (refine Runs.ctls 30 rfl ?_; first | refine Runs.cond_t rfl ?_ | refine Runs.cond_f rfl ?_ | (refine Runs.cond_yes rfl ?_ ?_; · first | omega | rfl | assumption | (simp only [List.length_map]; omega)) | (refine Runs.cond_no rfl ?_ ?_; · first | omega | rfl | assumption | (simp only [List.length_map]; omega)) | refine Runs.ret (ends_ro hm rfl rfl ?_) | exact Runs.ret (ends_cellR hm rfl rfl rfl (Nat.le_of_ble_eq_true rfl) rfl rfl))
 | refine op_box rfl (tl hn rfl) ?_
 | refine op_storeF rfl rfl rfl rfl (Nat.le_of_ble_eq_true rfl) ?_
 | refine op_alloc (tl hn rfl) ?_
 | refine op_storeN rfl rfl rfl rfl (Nat.le_of_ble_eq_true rfl) ?_
 | (refine RunsL.pe hn rfl rfl rfl ?_; first
 | refine ⟨_, pu_add rfl rfl (by omega), ?_⟩
 | refine ⟨_, pu_sub rfl rfl (by omega), ?_⟩
 | refine ⟨_, pu_mul rfl rfl (by omega), ?_⟩
 | refine ⟨_, pu_build rfl rfl rfl rfl rfl rfl, ?_⟩)
      )
    refine Runs.nilCell (e := 5) (sz := 1) 2 4 (by decide) rfl rfl ?_
    refine Runs.nilCell (e := 9) (sz := 1) 2 5 (by decide) rfl rfl ?_
    exact Runs.ctls 30 rfl (Runs.ret (ends_rul (r := ⟨a ++ itoaS d.length, 7, 0, false, [], [], ts, x0 :: ks⟩) (x := 6) (y := 7) (z := 5) (w := 4) hm rfl rfl rfl hi rfl rfl rfl rfl rfl rfl (by decide) (by decide) (ruleD7 ha (by omega) ht hx0 hkl hks)))
end Go.Proofs.Ytnecoghfhcimeaa
/- The draw of a description. -/
namespace Go.Proofs.Ytnecoghfhcimeaa
set_option linter.unusedSimpArgs false
set_option linter.unusedVariables false
set_option linter.unusedSectionVars false
open Go.RowKit
open AV (Mem Keeps)
structure DrawD (d : Des) : Prop where
  pos : 1 ≤ d.length
  most : d.length ≤ 6
  first : ∃ r0, d[0]? = some r0 ∧ r0.kind = 1
  rule : ∀ (j : Nat) r, d[j]? = some r → ∃ k, 1 ≤ k ∧ k ≤ 10 ∧ RuleD (d.take j) k r
theorem l4Make_d (b : List UInt8) (hb : b.length ≤ 1048576) (d : Des) (hd : d.length ≤ 24) (k : Int) (hk : 1 ≤ k ∧ k ≤ 10) (hi : k = 1 ∨ ∃ r0, d[0]? = some r0 ∧ r0.kind = 1) : Drw Try.prog 123 117 b [desR d, .int k] (QRul (RuleD d k)) := by
  by_cases h1 : k = 1
  · subst h1; exact l4Make1_d b hb d hd
  obtain ⟨r0, h0, hk0⟩ := hi.resolve_left h1
  have : k = 2 ∨ k = 3 ∨ k = 4 ∨ k = 5 ∨ k = 6 ∨ k = 7 ∨ k = 8 ∨ k = 9 ∨ k = 10 := by omega
  rcases this with rfl | rfl | rfl | rfl | rfl | rfl | rfl | rfl | rfl
  · exact l4Make2_d b hb d hd
  · exact l4Make3_d b hb d hd
  · exact l4Make4_d b hb d hd r0 h0 hk0
  · exact l4Make5_d b hb d hd r0 h0 hk0
  · exact l4Make6_d b hb d hd
  · exact l4Make7_d b hb d hd r0 h0 hk0
  · exact l4Make8_d b hb d hd
  · exact l4Make9_d b hb d hd
  · exact l4Make10_d b hb d hd
theorem DrawD.app {d : Des} {k : Int} {r : Rul} (h : DrawD d) (hl : d.length < 6) (hk : 1 ≤ k ∧ k ≤ 10) (hr : RuleD d k r) : DrawD (d ++ [r]) := by
  obtain ⟨r0, e0, k0⟩ := h.first
  refine ⟨by simp, by simp; omega, ⟨r0, ?_, k0⟩, fun j x hx => ?_⟩
  · rw [List.getElem?_append_left (by have := h.pos; omega)]; exact e0
  · rcases Nat.lt_or_ge j d.length with hj | hj
    · rw [List.getElem?_append_left hj] at hx
      rw [List.take_append_of_le_length (by omega)]
      exact h.rule j x hx
    · have hjl := (List.getElem?_eq_some_iff.1 hx).1
      simp only [List.length_append, List.length_singleton] at hjl
      have ej : j = d.length := by omega
      subst ej
      simp at hx; subst hx
      rw [List.take_left']
      · exact ⟨k, hk.1, hk.2, hr⟩
      · rfl
theorem DrawD.one {r : Rul} (hr : RuleD [] 1 r) : DrawD [r] := by
  refine ⟨by simp, by simp, ⟨r, rfl, hr.hkind⟩, fun j x hx => ?_⟩
  cases j with
  | zero => simp at hx; subst hx; exact ⟨1, by decide, by decide, hr⟩
  | succ j => simp at hx
set_option maxRecDepth 100000 in
instance tb_des : TB Try.prog 38 [(0, 1)] [.slice none 0 0] := ⟨_, _, _, rfl, rfl, rfl, rfl, by kernel_rfl, by decide⟩
end Go.Proofs.Ytnecoghfhcimeaa
/- The draw of a description, every row of it in memory of its own. -/
namespace Go.Proofs.Ytnecoghfhcimeaa
set_option linter.unusedSimpArgs false
set_option linter.unusedVariables false
set_option linter.unusedSectionVars false
open Go.RowKit
open AV (Mem Keeps)
def Drwx (P : Program) (ct : TypeId) (f : FuncId) (b : List UInt8) (args : List RV) (X : World → Value → List Nat → Prop) : Prop :=
  ∀ (w : World) (ok : Nat → Prop) (g : Nat) (u : Value) (i h : Int) (us : List Value), (∀ x, w.heap.size ≤ x → ok x) → CurAt ct w g u i h →
    RV.rel w (fun x => ok x ∧ x ≠ g) (bytesR b) u → CurOk b i → RV.rels w (fun x => ok x ∧ x ≠ g) args us →
    Calls P f (.pointer (some ⟨g, 0, none⟩) :: us).toArray w fun e w' => ∃ v bs i' h', e = .returned v ∧ X w' v bs ∧ bs.Nodup ∧
      (∀ x ∈ bs, w.heap.size ≤ x ∧ x < w'.heap.size) ∧ CurOk b i' ∧ CurAt ct w' g u i' h' ∧ Bx g w w'
def EndsX (P : Program) (C : Ctx) (fn : Func) (ct : TypeId) (b : List UInt8) (g : Nat) (u : Value) (X : World → Value → List Nat → Prop) (a : Act) (w : World) : Prop :=
  a.defers = [] ∧ ∃ v, (results fn a.tmps).run P w = .ok v w ∧ ∃ bs i' h', X w v bs ∧ bs.Nodup ∧ (∀ x ∈ bs, C.w0.heap.size ≤ x ∧ x < w.heap.size) ∧ CurOk b i' ∧ CurAt ct w g u i' h' ∧ Bx g C.w0 w
theorem drwx_enter {P : Program} {ct : TypeId} {f : FuncId} {fn : Func} {c : Code} {b : List UInt8} {args : List RV} {X : World → Value → List Nat → Prop} (hf : P.funcs[f]? = some fn) (hb : fn.body = some c) (n : Nat) (hn : fn.ntmps = n) (hl : args.length + 1 ≤ n)
    (h : ∀ (C : Ctx) (g : Nat) (u : Value) (i hh : Int), C.n = n → (∀ x, C.mu x → x = g) → HU C b u → CurOk b i → Runs P C [.code c] (EndsX P C fn ct b g u X) ⟨(0, .pin 0 0 g) :: startEnv 1 args, [curOb ct u i hh]⟩) : Drwx P ct f b args X := by
  intro w ok g u i hh us h0 hat hu hi hus
  have hlen := RV.rels_len args _ hus
  have hu1 : u.oneCell' = true := RV.rel_one (bytesR b) u rfl hu
  obtain ⟨cs, a0, a1, a2, a3⟩ := hat
  have hgl : g < w.heap.size := (Array.getElem?_eq_some_iff.1 a0).1
  refine calls_of_fin hf hb ?_
  have hs : Sim ⟨w, ok, fun x => x = g, n⟩ ⟨(0, .pin 0 0 g) :: startEnv 1 args, [curOb ct u i hh]⟩ { tmps := (.pointer (some ⟨g, 0, none⟩) :: us).toArray ++ Array.replicate (fn.ntmps - (.pointer (some ⟨g, 0, none⟩) :: us).toArray.size) undef, defers := [] } w := by
    refine ⟨rfl, by simp; omega, fun j => if j = 0 then some g else none, ⟨rfl, fun p q x hp hq _ _ => by simp at hp hq; omega, fun p o hp => ?_, fun p x hp hx => ?_, ⟨rfl, rfl, rfl, Nat.le_refl _, fun _ _ _ => rfl, h0⟩⟩, fun t => ?_⟩
    · cases p with
      | succ p => simp at hp
      | zero =>
        simp at hp; subst hp
        simp only [if_true]
        refine ⟨cs, a0, ?_, fun p v hp => ?_⟩
        · have := (Array.getElem?_eq_some_iff.1 a3).1
          simp [curOb]; omega
        · simp only [curOb] at hp
          match p, hp with
          | 0, hp => simp at hp; subst hp; exact ⟨u, a1, hu1, by simp [AV.rel, RV.rel]⟩
          | 1, hp => simp at hp; subst hp; exact ⟨_, a2, rfl, by simp [AV.rel, RV.rel]⟩
          | 2, hp => simp at hp; subst hp; exact ⟨_, a3, rfl, by simp [AV.rel, RV.rel]⟩
          | p + 3, hp => simp at hp
    · simp at hp; subst hp; simp at hx; exact .inl hx.symm
    · rw [look_put]
      split
      · rename_i e; subst e
        simp only [AV.rel]
        refine ⟨by simp, rfl, ?_⟩
        rw [Array.getD_eq_getD_getElem?, Array.getElem?_append_left (by simp)]
        simp
      · rename_i e
        rw [start_look]
        by_cases h1 : 1 ≤ t
        · rw [if_pos h1]
          cases hr : args[t - 1]? with
          | none => simp [AV.rel]
          | some r =>
            obtain ⟨x, e1, e2⟩ := RV.rels_at args _ hus (t - 1) r hr
            have ht : t - 1 < us.length := (List.getElem?_eq_some_iff.1 e1).1
            simp only [AV.rel]
            have : ((.pointer (some ⟨g, 0, none⟩) :: us).toArray ++ Array.replicate (fn.ntmps - (.pointer (some ⟨g, 0, none⟩) :: us).toArray.size) undef).getD t undef = x := by
              rw [Array.getD_eq_getD_getElem?, Array.getElem?_append_left (by simp; omega)]
              obtain ⟨t', rfl⟩ : ∃ t', t = t' + 1 := ⟨t - 1, by omega⟩
              simp at e1 ⊢
              simp [e1]
            rw [this]
            refine RV.rel_mono ⟨Nat.le_refl _, fun x _ hx => ⟨⟨hx.1, fun j hj he => ?_⟩, rfl⟩⟩ r x e2
            simp at hj; subst hj
            simp at he; exact hx.2 he.symm
        · omega
  have hr := (h ⟨w, ok, fun x => x = g, n⟩ g u i hh rfl (fun _ h => h) (RV.rel_mono ⟨Nat.le_refl _, fun x _ hx => ⟨hx, rfl⟩⟩ _ _ hu) hi).run _ w hs
  intro bb cc
  obtain ⟨a', w', todo, ⟨hd, v, hv, bs, i', h', q1, q3, q4, q5, q6, q7⟩, hst⟩ := hr bb cc
  exact ⟨a', w', todo, ⟨hd, v, hv, v, bs, i', h', rfl, q1, q3, q4, q5, q6, q7⟩, hst⟩
theorem EndsX.mono {P : Program} {C : Ctx} {fn : Func} {ct : TypeId} {b : List UInt8} {g : Nat} {u : Value} {X X' : World → Value → List Nat → Prop} {a : Act} {w : World} (h : EndsX P C fn ct b g u X a w) (hx : ∀ w v bs, X w v bs → X' w v bs) : EndsX P C fn ct b g u X' a w := by
  obtain ⟨e1, v, e2, bs, i', h', e3, e4⟩ := h
  exact ⟨e1, v, e2, bs, i', h', hx _ _ _ e3, e4⟩
structure Sd (g : Nat) (C0 C : Ctx) : Prop where
  bx : Bx g C0.w0 C.w0
  mu : ∀ x, C.mu x → x = g ∨ C0.w0.heap.size ≤ x
theorem Sd.start {g : Nat} {C : Ctx} (hm : ∀ x, C.mu x → x = g) : Sd g C C := ⟨⟨rfl, rfl, rfl, Nat.le_refl _, fun _ _ _ => rfl⟩, fun x hx => .inl (hm x hx)⟩
theorem Sd.next {g : Nat} {C0 C C' : Ctx} {bs : List Nat} (h : Sd g C0 C) (k : Nx C C' bs) (hb : ∀ x ∈ bs, C0.w0.heap.size ≤ x) : Sd g C0 C' := by
  refine ⟨⟨k.os.trans h.bx.os, k.tape.trans h.bx.tape, k.output.trans h.bx.output, Nat.le_trans h.bx.size k.size, fun x hx hn => ?_⟩, fun x hm => ?_⟩
  · refine (k.block x (Nat.lt_of_lt_of_le hx h.bx.size) (fun hm => ?_) fun hm => ?_).trans (h.bx.block x hx hn)
    · rcases h.mu x hm with e | e
      · exact hn e
      · omega
    · have := hb x hm; omega
  · rcases k.mu x hm with h1 | h1
    · exact h.mu x h1
    · exact .inr (Nat.le_trans h.bx.size h1)
theorem Sd.end_ {g : Nat} {C0 C : Ctx} {m : Mem} (h : Sd g C0 C) (hG : Good C m) : Bx g C0.w0 m.w := by
  refine ⟨hG.frm.os.trans h.bx.os, hG.frm.tape.trans h.bx.tape, hG.frm.output.trans h.bx.output, Nat.le_trans h.bx.size hG.frm.size, fun x hx hn => (hG.frm.block x (Nat.lt_of_lt_of_le hx h.bx.size) fun hm => ?_).trans (h.bx.block x hx hn)⟩
  rcases h.mu x hm with e | e
  · exact hn e
  · omega
section
variable {P : Program} {C0 C : Ctx} {fn : Func} {ct : TypeId} {b : List UInt8} {g : Nat} {u : Value} {S : St} {i h : Int} {more : List Ob}
theorem own_ov {m : Mem} {j sz : Nat} {e : TypeId} {us : List Value} {ovs : List OV} {bs : List Nat} {x : Value} (hG : Good C m) (h2 : m.σ[j]? = some ⟨e, sz, (us.map RV.c).map .ro⟩) (hx : AV.rel m (.own j) x)
    (hov : OV.rels C.w0 ovs us bs) (hfix : ∀ y ∈ bs, y < C.w0.heap.size ∧ ¬ C.mu y) (hnd : bs.Nodup) : OV.rel m.w (.row e sz ovs) x ((m.φ j).toList ++ bs) ∧ ((m.φ j).toList ++ bs).Nodup := by
  obtain ⟨n, xs, k1, k2, k3, k4, k5, k6⟩ := row_own (cs := us.map .c) hG h2 hx
  have e1 := agg_flat (m := m) us xs k3
  subst e1
  have hkeep := OV.rels_keep (w' := m.w) ovs xs bs hov fun b hb => hG.frm.block b (hfix b hb).1 (hfix b hb).2
  have hjl : j < m.σ.length := (List.getElem?_eq_some_iff.1 h2).1
  refine ⟨?_, ?_⟩
  · simp only [OV.rel]
    exact ⟨n, xs, bs, by rw [← OV.rels_len ovs xs bs hov]; simpa using k1, k2, hkeep, k4, k5, by rw [k6]⟩
  · rw [List.nodup_append]
    refine ⟨(show ∀ o : Option Nat, o.toList.Nodup from fun o => by cases o <;> simp) _, hnd, fun y hy z hz => ?_⟩
    rintro rfl
    have hy' : m.φ j = some y := by simpa [Option.mem_toList] using hy
    rcases hG.mine j y hjl hy' with h | h
    · exact (hfix y hz).2 h
    · have := (hfix y hz).1; omega
theorem endsX_of {a : Act} {w : World} {φ : Nat → Option Nat} {x : Value} {bs : List Nat} {X : World → Value → List Nat → Prop} (hsd : Sd g C0 C) (hd : a.defers = []) (hG : Good C ⟨w, φ, S.σ, C.ok⟩) (hσ : S.σ = curOb ct u i h :: more) (hg : φ 0 = some g) (hi : CurOk b i) (hx : (results fn a.tmps).run P w = .ok x w) (hX : X w x bs) (hnd : bs.Nodup) (hb : ∀ y ∈ bs, C0.w0.heap.size ≤ y ∧ y < w.heap.size) : EndsX P C0 fn ct b g u X a w :=
  ⟨hd, x, hx, bs, i, h, hX, hnd, hb, hi, cur_at hG hσ hg, hsd.end_ hG⟩
theorem endsX_des {p j sz : Nat} {ty e : TypeId} {us : List Value} {ovs : List OV} {bs : List Nat} (hsd : Sd g C0 C) (hr : fn.results = #[.cell p ty]) (hres : ResV P S (.cell p ty) (.agg [.own j])) (h3 : S.σ[j]? = some ⟨e, sz, (us.map RV.c).map .ro⟩) (hj : 0 < j) (hσ : S.σ = curOb ct u i h :: more) (ht : look S.env 0 = .pin 0 0 g) (hi : CurOk b i)
    (hov : OV.rels C.w0 ovs us bs) (hfix : ∀ y ∈ bs, y < C.w0.heap.size ∧ ¬ C.mu y) (hnd : bs.Nodup) (hnew : ∀ y ∈ bs, C0.w0.heap.size ≤ y) : ∀ a w, Sim C S a w → EndsX P C0 fn ct b g u (fun w v bs => OV.rel w (.agg [.row e sz ovs]) v bs) a w := by
  rintro a w ⟨s1, s2, φ, hG, hH⟩
  obtain ⟨x, k1, k2⟩ := resV_run (P := P) (x := .cell p ty) (v := .agg [.own j]) hG hH hres
  simp only [AV.rel, AV.rels] at k2
  obtain ⟨vs, rfl, y, us', e1, ⟨q1, rfl⟩⟩ := k2
  have hg := pin_at hH ht
  have q2 : AV.rel ⟨w, φ, S.σ, C.ok⟩ (.own j) y := by simpa only [AV.rel] using q1
  obtain ⟨r1, r2⟩ := own_ov (m := ⟨w, φ, S.σ, C.ok⟩) hG h3 q2 hov hfix hnd
  have hjl : j < S.σ.length := (List.getElem?_eq_some_iff.1 h3).1
  refine endsX_of (x := .agg vs) hsd s1 hG hσ hg hi (by rw [results_eq, hr]; simp [k1]) (bs := (φ j).toList ++ bs) ?_ r2 fun z hz => ?_
  · simp only [OV.rel]
    refine ⟨vs, rfl, ?_⟩
    rw [e1]
    simp only [OV.rels]
    exact ⟨y, [], (φ j).toList ++ bs, [], rfl, (List.append_nil _).symm, r1, rfl, rfl⟩
  · rcases List.mem_append.1 hz with hz | hz
    · have hz' : φ j = some z := by simpa [Option.mem_toList] using hz
      refine ⟨?_, hG.lt hjl hz'⟩
      rcases hG.mine j z hjl hz' with h | h
      · rcases hsd.mu z h with e | e
        · have := hG.inj j 0 g hjl (by simp only [hσ, List.length_cons]; omega) (e ▸ hz') hg
          omega
        · exact e
      · exact Nat.le_trans hsd.bx.size h
    · exact ⟨hnew z hz, Nat.lt_of_lt_of_le (hfix z hz).1 hG.frm.size⟩
theorem LendsG.ownO {σ : List Ob} {j sz : Nat} {e : TypeId} {us : List Value} {ovs : List OV} {bs : List Nat} {els : List (List RV)} (hj : 0 < j) (h3 : σ[j]? = some ⟨e, sz, (us.map RV.c).map .ro⟩) (hov : OV.rels C.w0 ovs us bs) (hfix : ∀ y ∈ bs, y < C.w0.heap.size ∧ ¬ C.mu y) (hnd : bs.Nodup) (hs : OV.Seals ovs els.flatten) (hl : ∀ x ∈ els, x.length = sz) :
    LendsG C σ (.own j) (.seq sz els) := fun m x g hG hσ h0 hg hx => by
  obtain ⟨r1, r2⟩ := own_ov (m := m) hG (by rw [hσ]; exact h3) hx hov hfix hnd
  have hjl : j < m.σ.length := by rw [hσ]; exact (List.getElem?_eq_some_iff.1 h3).1
  refine OV.seal_rel (.row e sz ovs) (.seq sz els) x _ (by simp only [OV.Seal]; exact ⟨els, rfl, hl, hs⟩) r1 fun z hz => ?_
  rintro rfl
  rcases List.mem_append.1 hz with hz | hz
  · have hz' : m.φ j = some z := by simpa [Option.mem_toList] using hz
    have := hG.inj j 0 z hjl (by rw [hσ]; exact h0) hz' hg
    omega
  · rcases hG.mine 0 z (by rw [hσ]; exact h0) hg with h | h
    · exact (hfix z hz).2 h
    · have := (hfix z hz).1; omega
end
def bytesQ (l : List UInt8) : OV := .row 5 1 ((l.map fun z => Value.int .u8 (z.toNat : Int)).map .c)
def strsQ (l : List ByteArray) : OV := .row 9 1 ((l.map fun z => Value.string z).map .c)
def intsQ (l : List Int) : OV := .row 3 1 ((l.map fun z => Value.int .i64 z).map .c)
def rulQ (r : Rul) : List OV := [.c (.string r.name), .c (.int .i64 r.kind), .c (.int .i64 r.size), .c (.bool r.little), bytesQ r.bytes, strsQ r.names, intsQ r.tags, intsQ r.kids]
def rulsQ (d : Des) : OV := .row 52 8 (d.flatMap rulQ)
theorem rulQ_len (l : Des) : (l.flatMap rulQ).length = l.length * 8 := by
  induction l with
  | nil => rfl
  | cons x l ih => rw [List.flatMap_cons, List.length_append, ih, List.length_cons, show (rulQ x).length = 8 from rfl]; omega
theorem qrul_ro {p : Rul → Prop} : ∀ rr, QRul p rr → ∃ ov, RO rr ov ∧ ∃ r, ov = .agg (rulQ r) ∧ p r := by
  rintro _ ⟨r, rfl, hr⟩
  refine ⟨.agg (rulQ r), ?_, r, rfl, hr⟩
  simp only [rulRR, rulQ, RO, ROs, bytesQ, strsQ, intsQ]
  exact ⟨_, rfl, _, _, rfl, ⟨_, rfl, rfl⟩, _, _, rfl, ⟨_, rfl, rfl⟩, _, _, rfl, ⟨_, rfl, rfl⟩, _, _, rfl, ⟨_, rfl, rfl⟩, _, _, rfl, ⟨_, by rw [List.map_map]; rfl, rfl⟩, _, _, rfl, ⟨_, by rw [List.map_map]; rfl, rfl⟩, _, _, rfl, ⟨_, by rw [List.map_map]; rfl, rfl⟩, _, _, rfl, ⟨_, by rw [List.map_map]; rfl, rfl⟩, rfl⟩
theorem rulQ_vals {w : World} {r : Rul} {us : List Value} {bs : List Nat} (h : OV.rels w (rulQ r) us bs) : ∃ A1 n1 c1 A2 n2 c2 A3 n3 c3 A4 n4 c4, us = [.string r.name, .int .i64 r.kind, .int .i64 r.size, .bool r.little, .slice A1 n1 c1, .slice A2 n2 c2, .slice A3 n3 c3, .slice A4 n4 c4] := by
  simp only [rulQ, OV.rels, bytesQ, strsQ, intsQ] at h
  obtain ⟨v0, _, _, _, rfl, _, h0, v1, _, _, _, rfl, _, h1, v2, _, _, _, rfl, _, h2, v3, _, _, _, rfl, _, h3, v4, _, _, _, rfl, _, h4, v5, _, _, _, rfl, _, h5, v6, _, _, _, rfl, _, h6, v7, _, _, _, rfl, _, h7, rfl, _⟩ := h
  obtain ⟨A1, n1, c1, rfl⟩ := row_slice h4
  obtain ⟨A2, n2, c2, rfl⟩ := row_slice h5
  obtain ⟨A3, n3, c3, rfl⟩ := row_slice h6
  obtain ⟨A4, n4, c4, rfl⟩ := row_slice h7
  simp only [OV.rel] at h0 h1 h2 h3
  rw [h0.1, h1.1, h2.1, h3.1]
  exact ⟨_, _, _, _, _, _, _, _, _, _, _, _, rfl⟩
theorem sealQ_row (e : TypeId) {α : Type} (f : α → Value) (l : List α) : OV.Seal (.row e 1 ((l.map f).map .c)) (.seq 1 (l.map fun z => [.c (f z)])) := by
  have h := seal_row1 e (l.map f)
  rwa [show ((l.map f).map fun v => [RV.c v]) = l.map fun z => [.c (f z)] by rw [List.map_map]; rfl] at h
theorem sealsQ_rul (r : Rul) : OV.Seals (rulQ r) (rulR r) := by
  simp only [rulQ, rulR, OV.Seals]
  exact ⟨_, _, rfl, by simp [OV.Seal], _, _, rfl, by simp [OV.Seal], _, _, rfl, by simp [OV.Seal], _, _, rfl, by simp [OV.Seal], _, _, rfl, sealQ_row _ _ _, _, _, rfl, sealQ_row _ _ _, _, _, rfl, sealQ_row _ _ _, _, _, rfl, sealQ_row _ _ _, rfl⟩
theorem sealsQ (d : Des) : OV.Seals (d.flatMap rulQ) (d.map rulR).flatten := by
  induction d with
  | nil => simp [OV.Seals]
  | cons x d ih =>
    rw [List.flatMap_cons, List.map_cons, List.flatten_cons]
    exact seals_app (sealsQ_rul x) ih
set_option maxHeartbeats 16000000 in
theorem l4Description_x (b : List UInt8) (hb : b.length ≤ 1048576) : Drwx Try.prog 123 65 b [] (fun w v bs => ∃ d, DrawD d ∧ OV.rel w (.agg [rulsQ d]) v bs) := by
  refine drwx_enter Try.func65 rfl _ Try.ntmps65 (by simp) fun C0 g u i h hn hm hu hi => ?_
  have rl : ∀ d : Des, ∀ x ∈ d.map rulR, x.length = 8 := fun d x hx => by obtain ⟨r, _, rfl⟩ := List.mem_map.1 hx; rfl
  have sd := Sd.start hm
  repeat' (first
 | refine Runs.nilCell (e := 52) (sz := 8) 2 0 (by decide) rfl rfl ?_
 | refine Runs.toLag (id := 2) 30 [0, 1, 2, 3] [4, 5, 6, 7, 8] mixed rfl rfl (by kernel_rfl) (by kernel_rfl) (by kernel_rfl) ?_
 | refine RunsI.pur (fun _ _ _ _ => pu_auto tabOk rfl) rfl (tl hn rfl) rfl ?_
 | refine RunsI.pur (fun _ _ _ _ => pu_buildS rfl) rfl (tl hn rfl) rfl ?_
 | refine RunsI.pur (fun _ _ _ _ => pu_add rfl rfl (by omega)) rfl (tl hn rfl) rfl ?_
 | refine RunsI.pur (fun _ _ _ _ => pu_sub rfl rfl (by omega)) rfl (tl hn rfl) rfl ?_
 | refine RunsI.pur (fun _ _ _ _ => pu_build rfl rfl rfl rfl rfl rfl) rfl (tl hn rfl) rfl ?_
 | refine RunsI.nil ?_
 | refine RunsG.pur (pu_auto tabOk rfl) rfl rfl (tl hn rfl) (by first | rfl | repeat' (first | rfl | exact clns_ro _ | refine clnO_cons ?_ ?_)) ?_
 | refine RunsG.pur (pu_buildS rfl) rfl rfl (tl hn rfl) (by first | rfl | repeat' (first | rfl | exact clns_ro _ | refine clnO_cons ?_ ?_)) ?_
 | refine RunsG.pur (pu_add rfl rfl (by omega)) rfl rfl (tl hn rfl) (by first | rfl | repeat' (first | rfl | exact clns_ro _ | refine clnO_cons ?_ ?_)) ?_
 | refine RunsG.pur (pu_sub rfl rfl (by omega)) rfl rfl (tl hn rfl) (by first | rfl | repeat' (first | rfl | exact clns_ro _ | refine clnO_cons ?_ ?_)) ?_
 | refine RunsG.pur (pu_build rfl rfl rfl rfl rfl rfl) rfl rfl (tl hn rfl) (by first | rfl | repeat' (first | rfl | exact clns_ro _ | refine clnO_cons ?_ ?_)) ?_
 | refine RunsL.step tabOk hn rfl ?_
 | refine RunsL.nil ?_
 | refine Runs.toRegion 30 rfl ?_
 | (refine RunsL.pe hn rfl rfl rfl ?_; first
 | refine ⟨_, pu_buildS rfl, ?_⟩)
 | (refine Runs.ctls 30 rfl ?_; first | (refine Runs.cond_yes rfl ?_ ?_; · first | omega | rfl | assumption | (simp only [List.length_map]; omega)) | (refine Runs.cond_no rfl ?_ ?_; · first | omega | rfl | assumption | (simp only [List.length_map]; omega)) | refine Runs.ret (ends_ro hm rfl rfl ?_) | exact Runs.ret (ends_cellR hm rfl rfl rfl (Nat.le_of_ble_eq_true rfl) rfl rfl))
 | refine op_storeF rfl rfl rfl rfl (Nat.le_of_ble_eq_true rfl) ?_
 | refine op_alloc (tl hn rfl) ?_
 | refine op_storeN rfl rfl rfl rfl (Nat.le_of_ble_eq_true rfl) ?_
 | (refine RunsL.pe hn rfl rfl rfl ?_; first
 | refine ⟨_, pu_add rfl rfl (by omega), ?_⟩
 | refine ⟨_, pu_sub rfl rfl (by omega), ?_⟩
 | refine ⟨_, pu_build rfl rfl rfl rfl rfl rfl, ?_⟩))
  refine RunsG.drawG (t := 10) (l4Make_d b hb [] (by simp) 1 (by omega) (.inl rfl)) qrul_ro rfl hu hi (fun _ => .cons (LendsG.agg (.cons (LendsG.of (LendsP.own (i := 3) (o := ⟨52, 8, _⟩) (els := List.map rulR []) (by decide) rfl rfl (rl []))) .nil)) (.cons LendsG.ro .nil)) rfl (by first | rfl | repeat' (first | rfl | exact clns_ro _ | refine clnO_cons ?_ ?_)) (tl hn rfl) ?_
  rintro C1 i h v b1 _ nx1 hu hi ⟨r, rfl, hr⟩ gh1 nd1 new1
  have hn := nx1.n.trans hn
  have sd := sd.next nx1 (by simp)
  have hrel := gh1.rel
  simp only [OV.rel] at hrel
  obtain ⟨vs, rfl, hvs⟩ := hrel
  obtain ⟨A1, n1, c1, A2, n2, c2, A3, n3, c3, A4, n4, c4, hE⟩ := rulQ_vals hvs
  obtain ⟨vs⟩ := vs
  simp only at hE hvs
  subst hE
  repeat' (first
 | (refine op_drawI (l1Below_d b hb _ (by omega)) rfl hu hi rfl (LendsPL.ros [.int _]) rfl (by first | rfl | repeat' (first | rfl | exact clns_ro _ | refine clnO_cons ?_ ?_)) (tl hn rfl) ?_; intro i h x hi hx; obtain ⟨hxa, hxb⟩ := hx.2 (by omega))
 | refine RunsL.step tabOk hn rfl ?_
 | refine RunsL.nil ?_
 | refine Runs.toRegion 30 rfl ?_
 | refine RunsG.pur (pu_build rfl rfl rfl rfl rfl rfl) rfl rfl (tl hn rfl) (by first | rfl | repeat' (first | rfl | exact clns_ro _ | refine clnO_cons ?_ ?_)) ?_
 | refine RunsG.done (RunsP.done 6 rfl (Nat.le_of_ble_eq_true rfl) (by kernel_rfl) (by kernel_rfl) ?_)
 | (refine RunsL.junk 2 0 rfl ?_; refine op_append (t := 12) (n := 0) (rs := []) rfl rfl rfl rfl rfl rfl rfl (FreeI.at_ ⟨by simp [curOb, AV.onlys, AV.only], by simp [AV.onlys, AV.only], ⟨trivial, trivial⟩, by simp [AV.onlys], trivial⟩) (by simp) (by simp) (tl hn rfl) ?_)
 | (refine Runs.ctls 30 rfl ?_; first | (refine Runs.cond_yes rfl ?_ ?_; · first | omega | rfl | assumption | (simp only [List.length_map]; omega)) | (refine Runs.cond_no rfl ?_ ?_; · first | omega | rfl | assumption | (simp only [List.length_map]; omega)) | refine Runs.ret (ends_ro hm rfl rfl ?_) | exact Runs.ret (ends_cellR hm rfl rfl rfl (Nat.le_of_ble_eq_true rfl) rfl rfl))
 | refine op_storeF rfl rfl rfl rfl (Nat.le_of_ble_eq_true rfl) ?_
 | refine op_alloc (tl hn rfl) ?_
 | refine op_storeN rfl rfl rfl rfl (Nat.le_of_ble_eq_true rfl) ?_
 | (refine RunsL.pe hn rfl rfl rfl ?_; first
 | refine ⟨_, pu_add rfl rfl (by omega), ?_⟩
 | refine ⟨_, pu_sub rfl rfl (by omega), ?_⟩
 | refine ⟨_, pu_build rfl rfl rfl rfl rfl rfl, ?_⟩))
  obtain ⟨c, hc⟩ : ∃ c : Nat, x = c := ⟨x.toNat, by omega⟩
  subst hc
  have hD0 := DrawD.one hr
  refine Runs.ctls 30 rfl (Runs.keep [(0, .pin 0 0 g), (2, .obj 1 0), (3, .obj 2 0), (4, .int c)] ⟨rfl, rfl, rfl, rfl, trivial⟩ ?_)
  refine Runs.loopV (fun m C S => ∃ (d : Des) (i h : Int) (us : List Value) (bs : List Nat), d.length + m ≤ 6 ∧ DrawD d ∧ CurOk b i ∧ HU C b u ∧ C.n = 32 ∧ Sd g C0 C ∧ OV.rels C.w0 (d.flatMap rulQ) us bs ∧ (∀ y ∈ bs, y < C.w0.heap.size ∧ ¬ C.mu y ∧ ¬ C.ok y) ∧ bs.Nodup ∧ (∀ y ∈ bs, C0.w0.heap.size ≤ y) ∧
    S = ⟨[(0, .pin 0 0 g), (2, .obj 1 0), (3, .obj 2 0), (4, .int m)], [curOb 123 u i h, ⟨38, 0, [.nil]⟩, ⟨38, 0, [.own 3]⟩, ⟨52, 8, (us.map RV.c).map .ro⟩]⟩) ?_ c C1 _ ⟨[r], i, h, _, b1, by simp; omega, hD0, hi, hu, hn, sd, by simpa using hvs, gh1.fix, nd1, new1, rfl⟩
  rintro m C S ⟨d, i, h, us, bs, hlc, hD, hi, hu, hn, sd, hov, hfix, hnd, hnew, rfl⟩ ih
  have hul := OV.rels_len _ _ _ hov
  rw [rulQ_len] at hul
  by_cases hm0 : 0 < m
  · repeat' (first
 | refine Runs.toLag (id := 6) 30 [0, 1, 2, 3, 4] [5, 6, 7, 8, 9, 10, 11] mixed rfl rfl (by kernel_rfl) (by kernel_rfl) (by kernel_rfl) ?_
 | (refine RunsG.drawI (t := 25) (l1Below_d b hb 10 (by omega)) rfl hu hi (fun _ => LendsPL.ros [.int 10]) rfl (by first | rfl | repeat' (first | rfl | exact clns_ro _ | refine clnO_cons ?_ ?_)) (tl hn rfl) ?_; intro i h q hi hq; obtain ⟨hqa, hqb⟩ := hq.2 (by omega))
 | refine RunsI.pur (fun _ _ _ _ => pu_auto tabOk rfl) rfl (tl hn rfl) rfl ?_
 | refine RunsI.pur (fun _ _ _ _ => pu_add rfl rfl (by omega)) rfl (tl hn rfl) rfl ?_
 | refine RunsI.pur (fun _ _ _ _ => pu_add rfl rfl (by omega)) rfl (tl hn rfl) rfl ?_
 | refine RunsI.pur (fun _ _ _ _ => pu_sub rfl rfl (by omega)) rfl (tl hn rfl) rfl ?_
 | refine RunsI.pur (fun _ _ _ _ => pu_build rfl rfl rfl rfl rfl rfl) rfl (tl hn rfl) rfl ?_
 | refine RunsI.nil ?_
 | refine RunsG.pur (pu_auto tabOk rfl) rfl rfl (tl hn rfl) (by first | rfl | repeat' (first | rfl | exact clns_ro _ | refine clnO_cons ?_ ?_)) ?_
 | refine RunsG.pur (pu_add rfl rfl (by omega)) rfl rfl (tl hn rfl) (by first | rfl | repeat' (first | rfl | exact clns_ro _ | refine clnO_cons ?_ ?_)) ?_
 | refine RunsG.pur (pu_add rfl rfl (by omega)) rfl rfl (tl hn rfl) (by first | rfl | repeat' (first | rfl | exact clns_ro _ | refine clnO_cons ?_ ?_)) ?_
 | refine RunsG.pur (pu_sub rfl rfl (by omega)) rfl rfl (tl hn rfl) (by first | rfl | repeat' (first | rfl | exact clns_ro _ | refine clnO_cons ?_ ?_)) ?_
 | refine RunsG.pur (pu_build rfl rfl rfl rfl rfl rfl) rfl rfl (tl hn rfl) (by first | rfl | repeat' (first | rfl | exact clns_ro _ | refine clnO_cons ?_ ?_)) ?_
 | refine RunsL.step tabOk hn rfl ?_
 | refine RunsL.nil ?_
 | refine Runs.toRegion 30 rfl ?_
 | (refine RunsL.pe hn rfl rfl rfl ?_; first
 | refine ⟨_, pu_add rfl rfl (by omega), ?_⟩)
 | (refine Runs.ctls 30 rfl ?_; first | (refine Runs.cond_yes rfl ?_ ?_; · first | omega | rfl | assumption | (simp only [List.length_map]; omega)) | (refine Runs.cond_no rfl ?_ ?_; · first | omega | rfl | assumption | (simp only [List.length_map]; omega)) | refine Runs.ret (ends_ro hm rfl rfl ?_) | exact Runs.ret (ends_cellR hm rfl rfl rfl (Nat.le_of_ble_eq_true rfl) rfl rfl))
 | refine op_storeF rfl rfl rfl rfl (Nat.le_of_ble_eq_true rfl) ?_
 | refine op_alloc (tl hn rfl) ?_
 | refine op_storeN rfl rfl rfl rfl (Nat.le_of_ble_eq_true rfl) ?_
 | (refine RunsL.pe hn rfl rfl rfl ?_; first
 | refine ⟨_, pu_add rfl rfl (by omega), ?_⟩
 | refine ⟨_, pu_sub rfl rfl (by omega), ?_⟩
 | refine ⟨_, pu_build rfl rfl rfl rfl rfl rfl, ?_⟩))
    refine RunsG.drawG (t := 27) (l4Make_d b hb d (by omega) (1 + q) (by omega) (.inr hD.first)) qrul_ro rfl hu hi (fun _ => .cons (LendsG.agg (.cons (LendsG.ownO (j := 3) (e := 52) (by decide) rfl hov (fun y hy => ⟨(hfix y hy).1, (hfix y hy).2.1⟩) hnd (sealsQ d) (rl d)) .nil)) (.cons LendsG.ro .nil)) rfl (by first | rfl | repeat' (first | rfl | exact clns_ro _ | refine clnO_cons ?_ ?_)) (tl hn rfl) ?_
    rintro C2 i h v b2 _ nx2 hu hi ⟨r2, rfl, hr2⟩ gh2 nd2 new2
    have hn := nx2.n.trans hn
    have hrel := gh2.rel
    simp only [OV.rel] at hrel
    obtain ⟨vs, rfl, hvs2⟩ := hrel
    obtain ⟨B1, m1, p1, B2, m2, p2, B3, m3, p3, B4, m4, p4, hE⟩ := rulQ_vals hvs2
    obtain ⟨vs⟩ := vs
    simp only at hE hvs2
    subst hE
    repeat' (first
 | refine RunsL.step tabOk hn rfl ?_
 | refine RunsL.nil ?_
 | refine Runs.toRegion 30 rfl ?_
 | refine RunsG.pur (pu_build rfl rfl rfl rfl rfl rfl) rfl rfl (tl hn rfl) (by first | rfl | repeat' (first | rfl | exact clns_ro _ | refine clnO_cons ?_ ?_)) ?_
 | refine RunsG.done (RunsP.done 9 rfl (Nat.le_of_ble_eq_true rfl) (by kernel_rfl) (by kernel_rfl) ?_)
 | (refine RunsL.junk 2 0 rfl ?_; refine op_append (t := 29) (n := d.length) (rs := us.map RV.c) rfl rfl rfl rfl rfl rfl (by rw [List.length_map, hul]) (FreeI.at_ ⟨by simp [curOb, AV.onlys, AV.only], by simp [AV.onlys, AV.only], by simp [AV.onlys, AV.only], onlys_ro _ _, trivial⟩) (by simp; omega) (by simp; omega) (tl hn rfl) ?_)
 | (refine Runs.ctls 30 rfl ?_; first | (refine Runs.cond_yes rfl ?_ ?_; · first | omega | rfl | assumption | (simp only [List.length_map]; omega)) | (refine Runs.cond_no rfl ?_ ?_; · first | omega | rfl | assumption | (simp only [List.length_map]; omega)) | refine Runs.ret (ends_ro hm rfl rfl ?_) | exact Runs.ret (ends_cellR hm rfl rfl rfl (Nat.le_of_ble_eq_true rfl) rfl rfl))
 | refine op_storeF rfl rfl rfl rfl (Nat.le_of_ble_eq_true rfl) ?_
 | refine op_alloc (tl hn rfl) ?_
 | refine op_storeN rfl rfl rfl rfl (Nat.le_of_ble_eq_true rfl) ?_
 | (refine RunsL.pe hn rfl rfl rfl ?_; first
 | refine ⟨_, pu_add rfl rfl (by omega), ?_⟩
 | refine ⟨_, pu_sub rfl rfl (by omega), ?_⟩
 | refine ⟨_, pu_build rfl rfl rfl rfl rfl rfl, ?_⟩))
    have hz2 := nx2.size
    refine Runs.keep [(0, .pin 0 0 g), (2, .obj 1 0), (3, .obj 2 0), (4, .int ((m - 1 : Nat) : Int))] ⟨rfl, rfl, rfl, by show AV.int _ = AV.int _; congr 1; omega, trivial⟩ (ih (m - 1) (by omega) C2 _ ⟨d ++ [r2], i, h, us ++ [.string r2.name, .int .i64 r2.kind, .int .i64 r2.size, .bool r2.little, .slice B1 m1 p1, .slice B2 m2 p2, .slice B3 m3 p3, .slice B4 m4 p4], bs ++ b2, by simp; omega, hD.app (by omega) (by omega) hr2, hi, hu, hn, sd.next nx2 (by simp), ?_, fun y hy => ?_, nodup_two C.w0.heap.size hnd nd2 (fun y hy => (hfix y hy).1) new2, fun y hy => ?_, ?_⟩)
    · rw [List.flatMap_append]
      exact OV.rels_append _ _ _ _ _ _ (OV.rels_keep _ _ _ hov fun y hy => nx2.block y (hfix y hy).1 (hfix y hy).2.1 (by simp)) (by simpa using hvs2)
    · rcases List.mem_append.1 hy with hy | hy
      · refine ⟨Nat.lt_of_lt_of_le (hfix y hy).1 hz2, fun hm => ?_, fun ho => (hfix y hy).2.2 (nx2.ok y ho)⟩
        rcases nx2.mu y hm with h1 | h1
        · exact (hfix y hy).2.1 h1
        · have := (hfix y hy).1; omega
      · exact gh2.fix y hy
    · rcases List.mem_append.1 hy with hy | hy
      · exact hnew y hy
      · have := new2 y hy; have := sd.bx.size; omega
    · simp
  · repeat' (first
 | refine RunsL.step tabOk hn rfl ?_
 | refine RunsL.nil ?_
 | refine Runs.toRegion 30 rfl ?_
 | (refine Runs.ctls 30 rfl ?_; first | (refine Runs.cond_yes rfl ?_ ?_; · first | omega | rfl | assumption | (simp only [List.length_map]; omega)) | (refine Runs.cond_no rfl ?_ ?_; · first | omega | rfl | assumption | (simp only [List.length_map]; omega)) | refine Runs.ret (ends_ro hm rfl rfl ?_) | exact Runs.ret (ends_cellR hm rfl rfl rfl (Nat.le_of_ble_eq_true rfl) rfl rfl))
 | refine op_storeF rfl rfl rfl rfl (Nat.le_of_ble_eq_true rfl) ?_
 | refine op_alloc (tl hn rfl) ?_
 | refine op_storeN rfl rfl rfl rfl (Nat.le_of_ble_eq_true rfl) ?_
 | (refine RunsL.pe hn rfl rfl rfl ?_; first
 | refine ⟨_, pu_add rfl rfl (by omega), ?_⟩
 | refine ⟨_, pu_sub rfl rfl (by omega), ?_⟩
 | refine ⟨_, pu_build rfl rfl rfl rfl rfl rfl, ?_⟩))
    refine Runs.ctls 30 rfl (Runs.ret fun a w hs => EndsX.mono (endsX_des (ty := 38) (p := 2) (j := 3) (ovs := d.flatMap rulQ) sd rfl ?_ rfl (by decide) rfl rfl hi hov (fun y hy => ⟨(hfix y hy).1, (hfix y hy).2.1⟩) hnd hnew a w hs) fun w v bs h => ⟨d, hD, h⟩)
    simp only [ResV]
    exact ⟨1, 0, _, rfl, rfl, .inr ⟨1, by infer_instance, Nat.le_refl _, rfl⟩⟩
end Go.Proofs.Ytnecoghfhcimeaa
/- A row that nothing else speaks of is taken as one of the frame's own. Over any program. -/
namespace Go.Proofs.Ytnecoghfhcimeaa
set_option linter.unusedSimpArgs false
set_option linter.unusedVariables false
set_option linter.unusedSectionVars false
open Go.RowKit
open AV (Mem Keeps)
def adoptC (C : Ctx) (g : Nat) : Ctx := ⟨C.w0, C.ok, fun x => C.mu x ∨ x = g, C.n⟩
section
variable {P : Program} {C : Ctx} {ops : Array Oper} {k : List Item} {R : Act → World → Prop} {env : Env} {σ : List Ob}
theorem sim_adopt (i p : Nat) {o : Ob} {e : TypeId} {sz n cap gk : Nat} {us : List Value} (ho : σ[i]? = some o) (h : o.cs[p]? = some (.ro (.c (.slice (some ⟨gk, 0, none⟩) n cap)))) (hl : us.length = n * sz) (hs : 0 < sz) (h1 : ∀ x ∈ us, x.oneCell' = true)
    (hr : C.w0.ownsRow 0 e sz (.slice (some ⟨gk, 0, none⟩) n cap) n us) (hg : gk < C.w0.heap.size ∧ ¬ C.mu gk ∧ ¬ C.ok gk) {a : Act} {w : World} (hsim : Sim C ⟨env, σ⟩ a w) :
    Sim (adoptC C gk) ⟨env, σ.set i ⟨o.t, o.sz, o.cs.set p (.own σ.length)⟩ ++ [⟨e, sz, (us.map RV.c).map .ro⟩]⟩ a w := by
  obtain ⟨k1, k2, φ, hG, hH⟩ := hsim
  have hil := (List.getElem?_eq_some_iff.1 ho).1
  obtain ⟨cur, hh, c1, c2, c3, ht⟩ : ∃ cur : Array Value, C.w0.heap[gk]? = some (.cells cur e (0, 0)) ∧ n ≤ cap ∧ cap ≤ maxLen ∧ cur.size = cap * sz ∧ cur.toList.take (n * sz) = us := by
    rcases hr.2 with ⟨h, _⟩ | ⟨g, cap', cur, h, _, hh, c1, c2, c3, ht⟩
    · cases h
    · injection h with h h' h''
      injection h with h
      injection h with h
      subst h; subst h''
      exact ⟨cur, hh, c1, c2, c3, ht⟩
  have hw : w.heap[gk]? = some (.cells cur e (0, 0)) := (hG.frm.block gk hg.1 hg.2.1).trans hh
  have hno : ∀ j, j < σ.length → φ j ≠ some gk := fun j hj e' => by
    rcases hG.mine j gk hj e' with q | q
    · exact hg.2.1 q
    · omega
  have hlen : (σ.set i ⟨o.t, o.sz, o.cs.set p (.own σ.length)⟩ ++ [(⟨e, sz, (us.map RV.c).map .ro⟩ : Ob)]).length = σ.length + 1 := by simp
  have hat : ∀ j, j ≠ i → j < σ.length → (σ.set i ⟨o.t, o.sz, o.cs.set p (.own σ.length)⟩ ++ [(⟨e, sz, (us.map RV.c).map .ro⟩ : Ob)])[j]? = σ[j]? := fun j hj h => by
    rw [List.getElem?_append_left (by simpa using h), List.getElem?_set_ne (Ne.symm hj)]
  have hati : (σ.set i ⟨o.t, o.sz, o.cs.set p (.own σ.length)⟩ ++ [(⟨e, sz, (us.map RV.c).map .ro⟩ : Ob)])[i]? = some ⟨o.t, o.sz, o.cs.set p (.own σ.length)⟩ := by
    rw [List.getElem?_append_left (by simpa using hil), List.getElem?_set_self hil]
  have hatn : (σ.set i ⟨o.t, o.sz, o.cs.set p (.own σ.length)⟩ ++ [(⟨e, sz, (us.map RV.c).map .ro⟩ : Ob)])[σ.length]? = some ⟨e, sz, (us.map RV.c).map .ro⟩ := by
    rw [List.getElem?_append_right (by simp)]; simp
  have hφ : ∀ j, j < σ.length → upd φ σ.length (some gk) j = φ j := fun j hj => upd_ne (Nat.ne_of_lt hj)
  have hK : Keeps (fun _ => True) ⟨w, φ, σ, C.ok⟩ ⟨w, upd φ σ.length (some gk), σ.set i ⟨o.t, o.sz, o.cs.set p (.own σ.length)⟩ ++ [⟨e, sz, (us.map RV.c).map .ro⟩], C.ok⟩ := by
    refine ⟨⟨Nat.le_refl _, fun b _ hb => ⟨⟨hb.1, fun j hj e' => ?_⟩, rfl⟩⟩, fun j _ hj => ⟨by simp only at hj ⊢; omega, hφ j hj⟩, fun j ob _ hj => ?_, fun j g us t _ _ _ hh => ⟨us, hh, rfl⟩⟩
    · simp only at hj e'
      rcases Nat.lt_or_ge j σ.length with q | q
      · rw [hφ j q] at e'
        exact hb.2 j q e'
      · have ej : j = σ.length := by omega
        subst ej
        rw [upd_eq] at e'
        injection e' with e'
        exact hg.2.2 (e' ▸ hb.1)
    · have hjl := (List.getElem?_eq_some_iff.1 hj).1
      by_cases e' : j = i
      · subst e'
        simp only at hj
        rw [ho] at hj; injection hj with hj; subst hj
        exact ⟨_, hati, by simp⟩
      · exact ⟨ob.cs, by simp only; rw [hat j e' hjl]; exact hj, rfl⟩
  have hcl : ((us.map RV.c).map AV.ro).length = n * sz := by rw [List.length_map, List.length_map, hl]
  refine ⟨k1, k2, upd φ σ.length (some gk), ⟨rfl, fun x y g hx hy e1 e2 => ?_, fun j ob hj => ?_, fun j g hj e' => ?_, ⟨hG.frm.os, hG.frm.tape, hG.frm.output, hG.frm.size, fun b hb hm => hG.frm.block b hb fun q => hm (.inl q), hG.frm.new⟩⟩, hH.keeps hK⟩
  · simp only at hx hy e1 e2
    rcases Nat.lt_or_ge x σ.length with q1 | q1 <;> rcases Nat.lt_or_ge y σ.length with q2 | q2
    · rw [hφ x q1] at e1; rw [hφ y q2] at e2
      exact hG.inj x y g q1 q2 e1 e2
    · have ey : y = σ.length := by omega
      subst ey
      rw [hφ x q1] at e1; rw [upd_eq] at e2
      injection e2 with e2; subst e2
      exact absurd e1 (hno x q1)
    · have ex : x = σ.length := by omega
      subst ex
      rw [hφ y q2] at e2; rw [upd_eq] at e1
      injection e1 with e1; subst e1
      exact absurd e2 (hno y q2)
    · omega
  · simp only at hj
    show ObRel _ _ (upd φ σ.length (some gk) j)
    by_cases ei : j = i
    · subst ei
      rw [hati] at hj; injection hj with hj; subst hj
      rw [hφ j hil]
      have h0 := hG.ob j o ho
      simp only at h0
      cases hp : φ j with
      | none =>
        rw [hp] at h0
        simp only [ObRel] at h0
        rw [h0] at h; simp at h
      | some g =>
        rw [hp] at h0
        obtain ⟨vs, q1, q2, q3⟩ := h0
        refine ⟨vs, q1, by simpa using q2, fun m v hm => ?_⟩
        simp only [List.getElem?_set] at hm
        split at hm
        · rename_i hpm
          subst hpm
          split at hm
          · injection hm with hm; subst hm
            obtain ⟨x, r1, r2, r3⟩ := q3 p _ h
            simp only [AV.rel, RV.rel] at r3
            subst r3
            refine ⟨_, r1, rfl, ?_⟩
            simp only [AV.rel]
            exact ⟨_, n, hatn, hcl, hs, .inr ⟨gk, cap, cur, upd_eq, rfl, hw, c1, c2, c3⟩⟩
          · cases hm
        · obtain ⟨x, r1, r2, r3⟩ := q3 m v hm
          exact ⟨x, r1, r2, AV.rel_keeps hK _ _ (AV.only_true _) r3⟩
    · rcases Nat.lt_or_ge j σ.length with q | q
      · rw [hat j ei q] at hj
        rw [hφ j q]
        exact (hG.ob j ob hj).keeps hK fun _ _ => rfl
      · have hjl := (List.getElem?_eq_some_iff.1 hj).1
        rw [hlen] at hjl
        have ej : j = σ.length := by omega
        subst ej
        rw [hatn] at hj; injection hj with hj; subst hj
        rw [upd_eq]
        refine ⟨cur, hw, by simp only [hcl, c3]; exact Nat.mul_le_mul_right _ c1, fun m v hm => ?_⟩
        simp only [List.map_map, List.getElem?_map, Option.map_eq_some_iff] at hm
        obtain ⟨x, hx, rfl⟩ := hm
        have hx' := hx
        rw [← ht, List.getElem?_take] at hx
        split at hx
        · refine ⟨x, by simpa using hx, h1 x (List.mem_of_getElem? hx'), by simp [AV.rel, RV.rel]⟩
        · cases hx
  · simp only at hj e'
    rcases Nat.lt_or_ge j σ.length with q | q
    · rw [hφ j q] at e'
      rcases hG.mine j g q e' with r | r
      · exact .inl (.inl r)
      · exact .inr r
    · have ej : j = σ.length := by omega
      subst ej
      rw [upd_eq] at e'
      injection e' with e'
      exact .inl (.inr e'.symm)
theorem Runs.adopt (i p : Nat) {o : Ob} {e : TypeId} {sz n cap gk : Nat} {us : List Value} (ho : σ[i]? = some o) (h : o.cs[p]? = some (.ro (.c (.slice (some ⟨gk, 0, none⟩) n cap)))) (hl : us.length = n * sz) (hs : 0 < sz) (h1 : ∀ x ∈ us, x.oneCell' = true)
    (hr : C.w0.ownsRow 0 e sz (.slice (some ⟨gk, 0, none⟩) n cap) n us) (hg : gk < C.w0.heap.size ∧ ¬ C.mu gk ∧ ¬ C.ok gk)
    (hk : Runs P (adoptC C gk) k R ⟨env, σ.set i ⟨o.t, o.sz, o.cs.set p (.own σ.length)⟩ ++ [⟨e, sz, (us.map RV.c).map .ro⟩]⟩) : Runs P C k R ⟨env, σ⟩ :=
  ⟨fun a w hsim => hk.run a w (sim_adopt i p ho h hl hs h1 hr hg hsim)⟩
end
theorem adopt_sd {g0 g : Nat} {C0 C : Ctx} (h : Sd g0 C0 C) (hg : C0.w0.heap.size ≤ g) : Sd g0 C0 (adoptC C g) := ⟨h.bx, fun x hx => hx.elim (h.mu x) fun e => .inr (e ▸ hg)⟩
theorem adopt_hu {C : Ctx} {g : Nat} {b : List UInt8} {u : Value} (h : HU C b u) (hg : ¬ C.ok g) : HU (adoptC C g) b u :=
  RV.rel_mono ⟨Nat.le_refl _, fun x _ hx => ⟨⟨hx.1, fun q => q.elim hx.2 fun e => hg (e ▸ hx.1)⟩, rfl⟩⟩ _ _ h
end Go.Proofs.Ytnecoghfhcimeaa
/- What is drawn is valid: plain laws; the draw of a description as a call. -/
namespace Go.Proofs.Ytnecoghfhcimeaa
set_option linter.unusedSimpArgs false
set_option linter.unusedVariables false
set_option linter.unusedSectionVars false
open Go.RowKit
theorem itoaS_one {n : Nat} (h : n < 10) : itoaS (n : Int) = ⟨#[UInt8.ofNat (48 + n)]⟩ := by
  unfold itoaS Lib.itoa
  rw [if_neg (by omega), Int.toNat_natCast, Lib.decDigits_one h]
theorem ba_inv {s : ByteArray} {k : Nat} {c : UInt8} (h : s[k]? = some c) : s.data.toList[k]? = some c := by
  rw [Array.getElem?_toList]
  have hk : k < s.size := by
    rcases Nat.lt_or_ge k s.size with h' | h'
    · exact h'
    · rw [getElem?_neg s k (by omega)] at h; cases h
  rw [getElem?_pos s k hk] at h
  injection h with h
  rw [Array.getElem?_eq_getElem (show k < s.data.size from hk)]
  exact congrArg some h
theorem cat_data (a : ByteArray) (x : UInt8) : (a ++ (⟨#[x]⟩ : ByteArray)).data.toList = a.data.toList ++ [x] := by simp
theorem ncat_size (a : ByteArray) (x : UInt8) : (a ++ (⟨#[x]⟩ : ByteArray)).size = a.size + 1 := by rw [ByteArray.size_append]; rfl
theorem ba_len (s : ByteArray) : s.data.toList.length = s.size := by rw [Array.length_toList]; rfl
def Low (a : ByteArray) : Prop := 1 ≤ a.size ∧ a.size ≤ 4 ∧ ∀ x ∈ a.data.toList, 97 ≤ x.toNat ∧ x.toNat ≤ 122
theorem baseA_low : ∀ a ∈ baseA, Low a := by
  intro x hx
  simp only [baseA, List.mem_cons, List.not_mem_nil, or_false] at hx
  rcases hx with rfl | rfl | rfl | rfl | rfl <;> exact ⟨by decide, by decide, by decide⟩
theorem baseP_low : ∀ a ∈ baseP, Low a := by
  intro x hx
  simp only [baseP, List.mem_cons, List.not_mem_nil, or_false] at hx
  rcases hx with rfl | rfl | rfl <;> exact ⟨by decide, by decide, by decide⟩
theorem nm_cat {a : ByteArray} (h : Low a) {n : Nat} (hn : n < 10) : IsNm (a ++ itoaS (n : Int)) := by
  rw [itoaS_one hn]
  refine ⟨by rw [ncat_size]; omega, by rw [ncat_size]; have := h.2.1; omega, fun i c hc => ?_⟩
  have h1 := ba_inv hc
  rw [cat_data] at h1
  have hal := ba_len a
  rcases Nat.lt_or_ge i a.size with hi | hi
  · rw [List.getElem?_append_left (by omega)] at h1
    have := h.2.2 c (List.mem_of_getElem? h1)
    exact .inl this
  · have hil := (List.getElem?_eq_some_iff.1 h1).1
    simp only [List.length_append, List.length_singleton] at hil
    have ei : i = a.data.toList.length := by omega
    subst ei
    rw [List.getElem?_append_right (Nat.le_refl _), Nat.sub_self] at h1
    have h1' : UInt8.ofNat (48 + n) = c := by simpa only [List.getElem?_cons_zero, Option.some.injEq] using h1
    subst h1'
    have := h.1
    refine .inr ⟨?_, ?_, by omega⟩ <;> (rw [UInt8.toNat_ofNat']; omega)
theorem cat_inj {a a' : ByteArray} {n n' : Nat} (hn : n < 10) (hn' : n' < 10) (h : a ++ itoaS (n : Int) = a' ++ itoaS (n' : Int)) : n = n' := by
  rw [itoaS_one hn, itoaS_one hn'] at h
  have h1 := congrArg (fun s : ByteArray => s.data.toList.getLast?) h
  simp only [cat_data, List.getLast?_append, List.getLast?_singleton, Option.some_or, Option.some.injEq] at h1
  have h2 := congrArg UInt8.toNat h1
  rw [UInt8.toNat_ofNat', UInt8.toNat_ofNat'] at h2
  omega
theorem ncat_le {a : ByteArray} (h : Low a) {n : Nat} (hn : n < 10) : (a ++ itoaS (n : Int)).size ≤ 5 := by
  rw [itoaS_one hn, ncat_size]; have := h.2.1; omega
theorem IsInt.up {d : Des} {j : Nat} {x : Int} (h : IsInt (d.take j) x) : IsInt d x ∧ x < j := by
  obtain ⟨h1, h2, r, h3, h4⟩ := h
  rw [List.length_take] at h2
  have hj : x.toNat < j := by omega
  rw [List.getElem?_take_of_lt hj] at h3
  exact ⟨⟨h1, by omega, r, h3, h4⟩, by omega⟩
structure IsInt' (d : Des) (x : Int) : Prop where
  int : IsInt d x
  lim : 255 ≤ lim d x
theorem DrawD.int {d : Des} (h : DrawD d) {x : Int} (hx : IsInt d x) : 255 ≤ lim d x := by
  obtain ⟨h1, h2, r, h3, h4⟩ := hx
  obtain ⟨k, k1, k2, hr⟩ := h.rule _ r h3
  have ek : k = 1 := by rw [← hr.hkind]; exact h4
  have hs := hr.hsize.1 ek
  rw [lim_yes h3 ⟨h1, h4, hs.1, by omega⟩]
  have := @pow8_le r.size
  omega
section
variable {d : Des} (h : DrawD d) {j : Nat} {r : Rul} (hj : d[j]? = some r)
include h hj
theorem DrawD.kinds : ∃ k, 1 ≤ k ∧ k ≤ 10 ∧ RuleD (d.take j) k r ∧ r.kind = k ∧ (d.take j).length = j ∧ j < d.length := by
  obtain ⟨k, k1, k2, hr⟩ := h.rule j r hj
  have hjl := (List.getElem?_eq_some_iff.1 hj).1
  exact ⟨k, k1, k2, hr, hr.hkind, by rw [List.length_take]; omega, hjl⟩
theorem DrawD.kid : ∀ z ∈ r.kids, 0 ≤ z ∧ z < j := by
  obtain ⟨k, k1, k2, hr, hk, hl, hjl⟩ := h.kinds hj
  have hInt : ∀ x, IsInt (d.take j) x → 0 ≤ x ∧ x < j := fun x hx => ⟨hx.1, hx.up.2⟩
  have hpos : 2 ≤ k → 0 < j := fun h2 => by
    rcases Nat.eq_zero_or_pos j with e | e
    · subst e
      obtain ⟨r0, e0, k0⟩ := h.first
      rw [e0] at hj; injection hj with hj; subst hj
      omega
    · exact e
  have hIn : 2 ≤ k → ∀ x, InD (d.take j) x → 0 ≤ x ∧ x < j := fun h2 x hx => by
    have := hx.2 (by rw [hl]; exact hpos h2)
    rw [hl] at this; exact this
  intro z hz
  obtain ⟨g4, g5, g6, g7, g8, g1⟩ := hr.hkids
  have hc : k = 1 ∨ k = 2 ∨ k = 3 ∨ k = 4 ∨ k = 5 ∨ k = 6 ∨ k = 7 ∨ k = 8 ∨ k = 9 ∨ k = 10 := by omega
  rcases hc with e | e | e | e | e | e | e | e | e | e
  · rw [g1 (.inl e)] at hz; simp at hz
  · rw [g1 (.inr (.inl e))] at hz; simp at hz
  · rw [g1 (.inr (.inr (.inl e)))] at hz; simp at hz
  · obtain ⟨x, h1, e1⟩ := g4 e
    rw [e1] at hz; simp at hz; subst hz; exact hInt _ h1
  · obtain ⟨x, y, h1, h2, e1⟩ := g5 e
    rw [e1] at hz; simp at hz
    rcases hz with rfl | rfl
    · exact hInt _ h1
    · exact hIn (by omega) _ h2
  · exact hIn (by omega) _ ((g6 e).2 z hz)
  · obtain ⟨x, l, h1, _, h2, e1⟩ := g7 e
    rw [e1] at hz
    rcases List.mem_cons.1 hz with rfl | hz
    · exact hInt _ h1
    · exact hIn (by omega) _ (h2 z hz)
  · obtain ⟨y, h2, e1⟩ := g8 (.inl e)
    rw [e1] at hz; simp at hz; subst hz; exact hIn (by omega) _ h2
  · obtain ⟨y, h2, e1⟩ := g8 (.inr e)
    rw [e1] at hz; simp at hz; subst hz; exact hIn (by omega) _ h2
  · rw [g1 (.inr (.inr (.inr e)))] at hz; simp at hz
theorem DrawD.name : ∃ a, Low a ∧ r.name = a ++ itoaS (j : Int) := by
  obtain ⟨k, k1, k2, hr, hk, hl, hjl⟩ := h.kinds hj
  obtain ⟨a, ha, e⟩ := hr.hname
  rw [hl] at e
  exact ⟨a, baseA_low a ha, e⟩
theorem DrawD.kindOk : KindOk d r := by
  obtain ⟨k, k1, k2, hr, hk, hl, hjl⟩ := h.kinds hj
  have hlit : r.little = false ∨ r.kind = 1 := by
    cases e : r.little
    · exact .inl rfl
    · exact .inr (hk.trans (hr.hlittle e).1)
  have hbytes : k ≠ 2 → k ≠ 10 → r.bytes.length = 0 := fun a b => by rw [hr.hbytes.2.2 a b]; rfl
  have hnames : k ≠ 6 → r.names.length = 0 := fun a => by rw [hr.hnames.2 a]; rfl
  have htags : k ≠ 7 → r.tags.length = 0 := fun a => by rw [hr.htags.2 a]; rfl
  have hsize : k ≠ 1 → k ≠ 3 → r.size = 0 := hr.hsize.2.2
  obtain ⟨g4, g5, g6, g7, g8, g1⟩ := hr.hkids
  have hc : k = 1 ∨ k = 2 ∨ k = 3 ∨ k = 4 ∨ k = 5 ∨ k = 6 ∨ k = 7 ∨ k = 8 ∨ k = 9 ∨ k = 10 := by omega
  rcases hc with e | e | e | e | e | e | e | e | e | e
  · refine .inl ⟨by omega, ⟨⟨.inl rfl, .inr (hbytes (by omega) (by omega)), .inr (hnames (by omega)), .inr (htags (by omega)), .inr ?_⟩, hlit⟩, ?_, ?_⟩
    · rw [g1 (.inl e)]; rfl
    · have := hr.hsize.1 e; unfold InR; omega
    · cases e' : r.little
      · exact .inl rfl
      · exact .inr (hr.hlittle e').2
  · refine .inr (.inl ⟨by omega, ⟨⟨.inr (hsize (by omega) (by omega)), .inl rfl, .inr (hnames (by omega)), .inr (htags (by omega)), .inr ?_⟩, hlit⟩, ?_⟩)
    · rw [g1 (.inr (.inl e))]; rfl
    · have := hr.hbytes.1 e; unfold InR; omega
  · refine .inr (.inr (.inl ⟨by omega, ⟨⟨.inl rfl, .inr (hbytes (by omega) (by omega)), .inr (hnames (by omega)), .inr (htags (by omega)), .inr ?_⟩, hlit⟩, ?_⟩))
    · rw [g1 (.inr (.inr (.inl e)))]; rfl
    · have := hr.hsize.2.1 e; unfold InR; omega
  · obtain ⟨x, h1, e1⟩ := g4 e
    have := h.int h1.up.1
    refine .inr (.inr (.inr (.inl ⟨by omega, ⟨⟨.inr (hsize (by omega) (by omega)), .inr (hbytes (by omega) (by omega)), .inr (hnames (by omega)), .inr (htags (by omega)), .inr ?_⟩, hlit⟩, ?_⟩)))
    · rw [e1]; rfl
    · rw [e1]; show 0 < lim d x; omega
  · obtain ⟨x, y, h1, h2, e1⟩ := g5 e
    have := h.int h1.up.1
    refine .inr (.inr (.inr (.inr (.inl ⟨by omega, ⟨⟨.inr (hsize (by omega) (by omega)), .inr (hbytes (by omega) (by omega)), .inr (hnames (by omega)), .inr (htags (by omega)), .inr ?_⟩, hlit⟩, ?_⟩))))
    · rw [e1]; rfl
    · rw [e1]; show 0 < lim d x; omega
  · obtain ⟨n1, n2, n3⟩ := hr.hnames.1 e
    refine .inr (.inr (.inr (.inr (.inr (.inl ⟨by omega, ⟨⟨.inr (hsize (by omega) (by omega)), .inr (hbytes (by omega) (by omega)), .inl rfl, .inr (htags (by omega)), .inr ?_⟩, hlit⟩, n1, by omega, fun i x hx => ?_⟩)))))
    · rw [(g6 e).1]
    · have hil := (List.getElem?_eq_some_iff.1 hx).1
      obtain ⟨a, ha, rfl⟩ := n3 i x hx
      have e1 : ((r.names.length : Int) - i) = ((r.names.length - i : Nat) : Int) := by omega
      rw [e1]
      refine ⟨nm_cat (baseP_low a ha) (by omega), fun hm => ?_⟩
      obtain ⟨m, hm', hm⟩ := List.mem_take_iff_getElem.1 hm
      obtain ⟨a', ha', e2⟩ := n3 m _ (List.getElem?_eq_getElem (by omega))
      rw [hm, show ((r.names.length : Int) - m) = ((r.names.length - m : Nat) : Int) by omega] at e2
      have := cat_inj (by omega) (by omega) e2
      omega
  · obtain ⟨t1, t2, t3⟩ := hr.htags.1 e
    obtain ⟨x, l, h1, h2, h3, e1⟩ := g7 e
    have hlim := h.int h1.up.1
    refine .inr (.inr (.inr (.inr (.inr (.inr (.inl ⟨by omega, ⟨⟨.inr (hsize (by omega) (by omega)), .inr (hbytes (by omega) (by omega)), .inr (hnames (by omega)), .inl rfl, .inl (by decide)⟩, hlit⟩, ?_, t1, by omega, fun i z hz => ?_⟩))))))
    · rw [e1, List.length_cons, h2]
    · have hil := (List.getElem?_eq_some_iff.1 hz).1
      have := t3 i z hz
      refine ⟨by omega, ?_, fun y hi hy => ?_⟩
      · rw [e1]; show z ≤ lim d x; omega
      · have := t3 (i - 1) y hy
        omega
  · obtain ⟨y, h2, e1⟩ := g8 (.inl e)
    refine .inr (.inr (.inr (.inr (.inr (.inr (.inr (.inl ⟨.inl (by omega), ⟨⟨.inr (hsize (by omega) (by omega)), .inr (hbytes (by omega) (by omega)), .inr (hnames (by omega)), .inr (htags (by omega)), .inr ?_⟩, hlit⟩⟩)))))))
    rw [e1]; rfl
  · obtain ⟨y, h2, e1⟩ := g8 (.inr e)
    refine .inr (.inr (.inr (.inr (.inr (.inr (.inr (.inl ⟨.inr (by omega), ⟨⟨.inr (hsize (by omega) (by omega)), .inr (hbytes (by omega) (by omega)), .inr (hnames (by omega)), .inr (htags (by omega)), .inr ?_⟩, hlit⟩⟩)))))))
    rw [e1]; rfl
  · obtain ⟨x, hx, eb⟩ := hr.hbytes.2.1 e
    refine .inr (.inr (.inr (.inr (.inr (.inr (.inr (.inr ⟨by omega, ⟨⟨.inr (hsize (by omega) (by omega)), .inl rfl, .inr (hnames (by omega)), .inr (htags (by omega)), .inr ?_⟩, hlit⟩, ?_, ?_⟩)))))))
    · rw [g1 (.inr (.inr (.inr e)))]; rfl
    · rw [eb]; rfl
    · rw [eb]
      simp only [List.mem_cons, List.not_mem_nil, or_false] at hx
      rcases hx with rfl | rfl | rfl | rfl <;> decide
end
theorem DrawD.good {d : Des} (h : DrawD d) : Good' d := by
  refine ⟨h.pos, by have := h.most; omega, fun j hj => ?_⟩
  obtain ⟨r, hr⟩ : ∃ r, d[j]? = some r := ⟨_, List.getElem?_eq_getElem hj⟩
  have hm := h.most
  refine (ruleAt_iff (by omega) (by simpa using hr)).2 ?_
  rw [Int.toNat_natCast]
  obtain ⟨a, ha, en⟩ := h.name hr
  refine ⟨fun k x hk hx e => ?_, fun k z hz => h.kid hr z (List.mem_of_getElem? hz), by rw [en]; exact nm_cat ha (by omega), h.kindOk hr⟩
  obtain ⟨a', ha', en'⟩ := h.name hx
  rw [en, en'] at e
  have := cat_inj (by omega) (by omega) e
  omega
theorem sum_le_mul {α : Type} (f : α → Nat) (c : Nat) : ∀ l : List α, (∀ x ∈ l, f x ≤ c) → (l.map f).sum ≤ l.length * c
  | [], _ => by simp
  | x :: l, h => by
    have h1 := h x (by simp)
    have h2 := sum_le_mul f c l fun y hy => h y (by simp [hy])
    rw [List.map_cons, List.sum_cons, List.length_cons, Nat.succ_mul]; omega
section
variable {d : Des} (h : DrawD d) {j : Nat} {r : Rul} (hj : d[j]? = some r)
include h hj
theorem DrawD.lens : r.name.size ≤ 5 ∧ r.bytes.length ≤ 3 ∧ r.names.length ≤ 3 ∧ (∀ s ∈ r.names, s.size ≤ 5) ∧ r.tags.length ≤ 3 ∧ r.kids.length ≤ 4 ∧ (∀ z ∈ r.tags, 0 ≤ z ∧ z ≤ 12) ∧ 0 ≤ r.size ∧ r.size ≤ 4 := by
  obtain ⟨k, k1, k2, hr, hk, hl, hjl⟩ := h.kinds hj
  have hm := h.most
  obtain ⟨a, ha, en⟩ := h.name hj
  have hnm : r.names.length ≤ 3 ∧ ∀ s ∈ r.names, s.size ≤ 5 := by
    by_cases e : k = 6
    · obtain ⟨n1, n2, n3⟩ := hr.hnames.1 e
      refine ⟨n2, fun s hs => ?_⟩
      obtain ⟨i, hi⟩ := List.mem_iff_getElem?.1 hs
      have hil := (List.getElem?_eq_some_iff.1 hi).1
      obtain ⟨b, hb, rfl⟩ := n3 i s hi
      rw [show ((r.names.length : Int) - i) = ((r.names.length - i : Nat) : Int) by omega]
      exact ncat_le (baseP_low b hb) (by omega)
    · rw [hr.hnames.2 e]; simp
  have htg : r.tags.length ≤ 3 ∧ ∀ z ∈ r.tags, 0 ≤ z ∧ z ≤ 12 := by
    by_cases e : k = 7
    · obtain ⟨n1, n2, n3⟩ := hr.htags.1 e
      refine ⟨n2, fun s hs => ?_⟩
      obtain ⟨i, hi⟩ := List.mem_iff_getElem?.1 hs
      have hil := (List.getElem?_eq_some_iff.1 hi).1
      have := n3 i s hi
      omega
    · rw [hr.htags.2 e]; simp
  have hbs : r.bytes.length ≤ 3 := by
    by_cases e : k = 2
    · exact (hr.hbytes.1 e).2
    · by_cases e' : k = 10
      · obtain ⟨x, _, eb⟩ := hr.hbytes.2.1 e'
        rw [eb]; simp
      · rw [hr.hbytes.2.2 e e']; simp
  have hkd : r.kids.length ≤ 4 := by
    obtain ⟨g4, g5, g6, g7, g8, g1⟩ := hr.hkids
    have hc : k = 1 ∨ k = 2 ∨ k = 3 ∨ k = 4 ∨ k = 5 ∨ k = 6 ∨ k = 7 ∨ k = 8 ∨ k = 9 ∨ k = 10 := by omega
    rcases hc with e | e | e | e | e | e | e | e | e | e
    · rw [g1 (.inl e)]; simp
    · rw [g1 (.inr (.inl e))]; simp
    · rw [g1 (.inr (.inr (.inl e)))]; simp
    · obtain ⟨x, _, e1⟩ := g4 e; rw [e1]; simp
    · obtain ⟨x, y, _, _, e1⟩ := g5 e; rw [e1]; simp
    · rw [(g6 e).1]; omega
    · obtain ⟨x, l, _, h2, _, e1⟩ := g7 e; rw [e1, List.length_cons, h2]; omega
    · obtain ⟨y, _, e1⟩ := g8 (.inl e); rw [e1]; simp
    · obtain ⟨y, _, e1⟩ := g8 (.inr e); rw [e1]; simp
    · rw [g1 (.inr (.inr (.inr e)))]; simp
  have hsz : 0 ≤ r.size ∧ r.size ≤ 4 := by
    by_cases e : k = 1
    · have := hr.hsize.1 e; omega
    · by_cases e' : k = 3
      · have := hr.hsize.2.1 e'; omega
      · have := hr.hsize.2.2 e e'; omega
  exact ⟨by rw [en]; exact ncat_le ha (by omega), hbs, hnm.1, hnm.2, htg.1, hkd, htg.2, hsz.1, hsz.2⟩
theorem DrawD.ruleOk : r.Ok := by
  obtain ⟨l1, l2, l3, l4, l5, l6, l7, l8, l9⟩ := h.lens hj
  obtain ⟨k, k1, k2, hr, hk, hl, hjl⟩ := h.kinds hj
  have hm := h.most
  have hkd := h.kid hj
  have mx : maxLen = 4611686018427387904 ∨ 10 ≤ maxLen := .inr (by decide)
  refine ⟨by unfold I64; omega, by unfold I64; omega, fun z hz => by have := l7 z hz; unfold I64; omega, fun z hz => by have := hkd z hz; unfold I64; omega, ?_⟩
  have hx : 10 ≤ maxLen := by decide
  exact ⟨by omega, by omega, by omega, fun s hs => by have := l4 s hs; omega, by omega, by omega, trivial⟩
theorem DrawD.ruleTotal : r.total ≤ 40 := by
  obtain ⟨l1, l2, l3, l4, l5, l6, l7, l8, l9⟩ := h.lens hj
  have := sum_le_mul ByteArray.size 5 r.names l4
  unfold Rul.total
  omega
end
theorem DrawD.desOk {d : Des} (h : DrawD d) : DesOk d :=
  ⟨fun r hr => by
    obtain ⟨j, hj⟩ := List.mem_iff_getElem?.1 hr
    exact h.ruleOk hj, by have := h.most; have hx : 10 ≤ maxLen := (by decide); omega⟩
theorem DrawD.total {d : Des} (h : DrawD d) : dtotal d ≤ 1000 := by
  have := sum_le_mul Rul.total 40 d fun r hr => by
    obtain ⟨j, hj⟩ := List.mem_iff_getElem?.1 hr
    exact h.ruleTotal hj
  have := h.most
  unfold dtotal
  omega
end Go.Proofs.Ytnecoghfhcimeaa
/- The draw of a description that may be spoilt. -/
namespace Go.Proofs.Ytnecoghfhcimeaa
set_option linter.unusedSimpArgs false
set_option linter.unusedVariables false
set_option linter.unusedSectionVars false
open Go.RowKit
open AV (Mem Keeps)
section
variable {P : Program} {C : Ctx} {ct : TypeId} {b : List UInt8} {u : Value} {i h : Int} {more : List Ob}
theorem draw_wpX {env : Env} {t : Nat} {ty : TypeId} {pos : String} {after : Array Edge} {f : FuncId} {fn : Func} {x0 : Operand} {xs : List Operand} {ats : Array TypeId} {args : List RV} {X : World → Value → List Nat → Prop} {gd : Option (Nat × Bool)} [hfn : FN P f fn] (hf : Drwx P ct f b args X) (hc : unpin (ev env x0) = .obj 0 0) (hu : HU C b u) (hi : CurOk b i) (hcl : clnO more = true)
    {m : Mem} {a : Act} (hG : Good C m) (hσ : m.σ = curOb ct u i h :: more) (ha : LendsGL C m.σ (xs.map (ev env)) args) (hH : ∀ x ∈ x0 :: xs, AV.rel m (ev env x) (a.eval x)) {K : Act → World → Prop} {QE : Exit → Act → World → Prop}
    (hK : ∀ C' v w' i' h' bs, C'.n = C.n → CurOk b i' → X C'.w0 v bs → (∀ y ∈ bs, y < C'.w0.heap.size ∧ ¬ C'.mu y ∧ ¬ C'.ok y) → bs.Nodup → (∀ x ∈ bs, C.w0.heap.size ≤ x) → Nx C C' [] → HU C' b u → Good C' ⟨w', m.φ, curOb ct u i' h' :: more, C'.ok⟩ → (∀ y x, cln y = true → AV.rel m y x → AV.rel ⟨w', m.φ, curOb ct u i' h' :: more, C'.ok⟩ y x) → K (a.put (some t) v) w') :
    (⟨some t, .call { callee := .value (.func f), args := (x0 :: xs).toArray, argTypes := ats }, ty, pos, after, gd⟩ : Oper).wp P a m.w K QE := by
  obtain ⟨g, hg⟩ := cur_block hG hσ
  have hp := unpin_rel (hH x0 (by simp))
  rw [hc] at hp
  simp only [AV.rel] at hp
  obtain ⟨_, g', hg', ep⟩ := hp
  rw [hg] at hg'; injection hg' with hg'; subst hg'
  have h0 : 0 < m.σ.length := by rw [hσ]; simp
  have hr := ha.rels hG rfl h0 hg _ (rels_eval (a := a) (m := m) xs fun x hx => hH x (by simp [hx]))
  have hun := hu.now hG
  unfold Oper.wp
  rw [execOp_call_go, run_call hfn]
  simp only [Oper.upon]
  have e0 : ((x0 :: xs).toArray.map a.eval) = (.pointer (some ⟨g, 0, none⟩) :: xs.map a.eval).toArray := by simp [ep]
  rw [e0]
  simp only [Array.empty_append, Array.append_empty]
  refine (hf m.w (fun _ => True) g u i h _ (fun _ _ => trivial) (cur_at hG hσ hg) (RV.rel_mono ⟨Nat.le_refl _, fun z _ hz => ⟨⟨trivial, fun e => hz.2 0 h0 (e ▸ hg)⟩, rfl⟩⟩ _ _ hun) hi (RV.rels_mono ⟨Nat.le_refl _, fun z _ hz => ⟨⟨trivial, hz⟩, rfl⟩⟩ _ _ hr)).mono ?_
  rintro e w' ⟨v, bs, i', h', rfl, q1, q2, q3, q4, q5, q6⟩
  obtain ⟨w, φ, s, ok0⟩ := m
  have k0 := hG.ok0
  simp only at k0 hσ
  subst k0; subst hσ
  obtain ⟨g1, g2, g3⟩ := draw_goodG (bs := bs) hG hg hu.one q5 q6 hcl q3
  refine hK (ctxG C w' φ (more.length + 1) bs) v w' i' h' bs rfl q4 q1 (fun x hx => ⟨(q3 x hx).2, fun ⟨j, hj, e⟩ => ?_, fun hk => hk.2 hx⟩) q2 (fun x hx => Nat.le_trans hG.frm.size (q3 x hx).1) g3 ?_ g1 g2
  · have := hG.lt (by simpa using hj) e
    have := (q3 x hx).1
    simp only at *
    omega
  · refine RV.rel_mono ⟨Nat.le_refl _, fun z _ hz => ⟨hz, rfl⟩⟩ _ _ (RV.rel_mono (w' := w') ⟨q6.size, fun z hz ho => ⟨⟨⟨ho.1, fun hm => ?_⟩, fun ⟨j, hj, e⟩ => ho.2 j (by simpa using hj) e⟩, q6.block z hz fun e => ho.2 0 h0 (e ▸ hg)⟩⟩ _ _ hun)
    have := (q3 z hm).1
    simp only at hz this
    omega
theorem op_drawX {ops : Array Oper} {rest : List Oper} {k : List Item} {R : Act → World → Prop} {env : Env} {σ : List Ob} {t : Nat} {ty : TypeId} {pos : String} {after : Array Edge} {f : FuncId} {fn : Func} {x0 : Operand} {xs : List Operand} {ats : Array TypeId} {args : List RV} {X : World → Value → List Nat → Prop} [hfn : FN P f fn] (hf : Drwx P ct f b args X) (hc : unpin (ev env x0) = .obj 0 0) (hu : HU C b u) (hi : CurOk b i) (hσ : σ = curOb ct u i h :: more) (ha : LendsGL C σ (xs.map (ev env)) args)
    (hce : clnE env = true) (hcl : clnO more = true) (ht : t < C.n) (hk : ∀ C' i' h' v bs, Nx C C' [] → HU C' b u → CurOk b i' → X C'.w0 v bs → (∀ y ∈ bs, y < C'.w0.heap.size ∧ ¬ C'.mu y ∧ ¬ C'.ok y) → bs.Nodup → (∀ x ∈ bs, C.w0.heap.size ≤ x) → RunsL P C' ops rest k R ⟨(t, .ro (constRV v)) :: env, curOb ct u i' h' :: more⟩) :
    RunsL P C ops (⟨some t, .call { callee := .value (.func f), args := (x0 :: xs).toArray, argTypes := ats }, ty, pos, after, none⟩ :: rest) k R ⟨env, σ⟩ := by
  refine ⟨fun a w ⟨s1, s2, φ, hG, hH⟩ => ?_⟩
  refine wpList_plain rfl fun K hK' => ?_
  refine draw_wpX hf hc hu hi hcl (m := ⟨w, φ, σ, C.ok⟩) hG hσ ha (fun x _ => ev_rel hH x) fun C' v w' i' h' bs hn h1 h2 h3 h4 h5 h6 h7 h8 h9 => ?_
  refine hK' _ _ ((hk C' i' h' v bs h6 h7 h1 h2 h3 h4 h5).run _ _ ⟨s1, by simp [Act.put, s2, hn], φ, h8, ?_⟩)
  refine Holds.put (fun s => h9 _ _ (clnE.look hce s) (hH s)) (by rw [s2]; exact ht) ?_
  simp only [AV.rel]
  exact rel_constRV v
end
end Go.Proofs.Ytnecoghfhcimeaa
/- A description with rows of its own, opened and closed again. -/
namespace Go.Proofs.Ytnecoghfhcimeaa
set_option linter.unusedSimpArgs false
set_option linter.unusedVariables false
set_option linter.unusedSectionVars false
open Go.RowKit
open AV (Mem Keeps)
section
variable {C C0 : Ctx} {σ : List Ob} {g : Nat}
theorem avrels_of {m : Mem} : ∀ (cs : List AV) (xs : List Value), xs.length = cs.length → (∀ (j : Nat) (r : AV) (x : Value), cs[j]? = some r → xs[j]? = some x → AV.rel m r x) → AV.rels m cs xs
  | [], xs, h, _ => by
    cases xs with
    | nil => simp [AV.rels]
    | cons _ _ => simp at h
  | c :: cs, xs, h, hr => by
    cases xs with
    | nil => simp at h
    | cons x xs =>
      simp only [AV.rels]
      exact ⟨x, xs, rfl, hr 0 c x rfl rfl, avrels_of cs xs (by simpa using h) fun j r y e1 e2 => hr (j + 1) r y (by simpa using e1) (by simpa using e2)⟩
theorem row_ownL {m : Mem} (hG : Good C m) {i : Nat} {e : TypeId} {sz : Nat} {cs : List AV} (hi : m.σ[i]? = some ⟨e, sz, cs⟩) {u : Value} (hu : AV.rel m (.own i) u) :
    ∃ n xs, cs.length = n * sz ∧ 0 < sz ∧ AV.rels m cs xs ∧ (∀ x ∈ xs, x.oneCell' = true) ∧ m.w.ownsRow 0 e sz u n xs ∧ u.ownBlock.toList = (m.φ i).toList := by
  simp only [AV.rel] at hu
  obtain ⟨ob, n, h1, h2, h3, h4⟩ := hu
  rw [hi] at h1; injection h1 with h1; subst h1
  simp only at h2 h3 h4
  rcases h4 with ⟨rfl, rfl, hφ⟩ | ⟨g, cap, us, hφ, rfl, hh, c1, c2, c3⟩
  · have : cs = [] := List.eq_nil_of_length_eq_zero (by omega)
    subst this
    exact ⟨0, [], by simp, h3, by simp [AV.rels], by simp, World.ownsRow_nil _ _ _ _, by simp [Value.ownBlock, hφ]⟩
  · have hob := hG.ob i _ hi
    rw [hφ] at hob
    obtain ⟨us', q1, q2, q3⟩ := hob
    simp only at q1
    rw [hh] at q1; injection q1 with q1; injection q1 with q1; subst q1
    simp only at q2 q3
    have hl : (us.toList.take (n * sz)).length = n * sz := by rw [List.length_take, Array.length_toList, c3]; exact Nat.min_eq_left (Nat.mul_le_mul_right _ c1)
    refine ⟨n, us.toList.take (n * sz), h2, h3, avrels_of cs _ (by omega) fun j r x e1 e2 => ?_, fun x hx => ?_, ⟨hl, .inr ⟨g, cap, us, rfl, Nat.zero_le _, hh, c1, c2, c3, rfl⟩⟩, by simp [Value.ownBlock, hφ]⟩
    · obtain ⟨y, k1, _, k3⟩ := q3 j r e1
      rw [List.getElem?_take] at e2
      split at e2
      · have : x = y := by simpa [k1] using e2.symm
        subst this
        exact k3
      · cases e2
    · obtain ⟨j, hj, rfl⟩ := List.getElem_of_mem hx
      have hj' : j < cs.length := by omega
      obtain ⟨y, k1, k2, _⟩ := q3 j cs[j] (by simp [hj'])
      have : (us.toList.take (n * sz))[j] = y := by
        have := Array.getElem?_eq_some_iff.1 k1
        simp [← this.2]
      rw [this]; exact k2
def LendsH (C0 C : Ctx) (σ : List Ob) (v : AV) (r : RV) : Prop := ∀ (m : Mem) (x : Value) (g : Nat) (ok' : Nat → Prop), Good C m → m.σ = σ → 0 < σ.length → m.φ 0 = some g → Sd g C0 C → (∀ z, C.ok z → z ≠ g → ok' z) → (∀ z, C0.w0.heap.size ≤ z → z ≠ g → ok' z) → AV.rel m v x → RV.rel m.w ok' r x
inductive LendsHL (C0 C : Ctx) (σ : List Ob) : List AV → List RV → Prop
  | nil : LendsHL C0 C σ [] []
  | cons {v : AV} {r : RV} {vs : List AV} {rs : List RV} : LendsH C0 C σ v r → LendsHL C0 C σ vs rs → LendsHL C0 C σ (v :: vs) (r :: rs)
theorem LendsHL.app {vs vs' : List AV} {rs rs' : List RV} (h : LendsHL C0 C σ vs rs) (h' : LendsHL C0 C σ vs' rs') : LendsHL C0 C σ (vs ++ vs') (rs ++ rs') := by
  induction h with
  | nil => exact h'
  | cons h1 _ ih => exact .cons h1 ih
theorem LendsH.ro {r : RV} : LendsH C0 C σ (.ro r) r := fun m x g ok' hG hσ h0 hg _ k1 _ hx => by
  have hx' : RV.rel m.w m.ok r x := by simpa only [AV.rel] using hx
  exact RV.rel_mono ⟨Nat.le_refl _, fun z _ hz => ⟨k1 z (by rw [← hG.ok0]; exact hz.1) fun e => hz.2 0 (by rw [hσ]; exact h0) (e ▸ hg), rfl⟩⟩ _ _ hx'
theorem LendsHL.rels {m : Mem} {g : Nat} {ok' : Nat → Prop} (hG : Good C m) (hσ : m.σ = σ) (h0 : 0 < σ.length) (hg : m.φ 0 = some g) (hsd : Sd g C0 C) (k1 : ∀ z, C.ok z → z ≠ g → ok' z) (k2 : ∀ z, C0.w0.heap.size ≤ z → z ≠ g → ok' z) {vs : List AV} {rs : List RV} (hl : LendsHL C0 C σ vs rs) : ∀ us, AV.rels m vs us → RV.rels m.w ok' rs us := by
  induction hl with
  | nil => intro us hu; simpa [AV.rels, RV.rels] using hu
  | cons h1 _ ih =>
    intro us hu
    simp only [AV.rels] at hu
    obtain ⟨x, us', rfl, k3, k4⟩ := hu
    simp only [RV.rels]
    exact ⟨x, us', rfl, h1 m x g ok' hG hσ h0 hg hsd k1 k2 k3, ih us' k4⟩
theorem LendsH.agg {vs : List AV} {rs : List RV} (hl : LendsHL C0 C σ vs rs) : LendsH C0 C σ (.agg vs) (.agg rs) := fun m x g ok' hG hσ h0 hg hsd k1 k2 hx => by
  simp only [AV.rel] at hx
  obtain ⟨us, rfl, hx⟩ := hx
  simp only [RV.rel]
  exact ⟨us, rfl, hl.rels hG hσ h0 hg hsd k1 k2 _ hx⟩
theorem LendsH.gh {ov : OV} {v : Value} {bs : List Nat} {r : RV} (h : OV.rel C.w0 ov v bs) (hfix : ∀ y ∈ bs, y < C.w0.heap.size ∧ ¬ C.mu y) (hnew : ∀ y ∈ bs, C0.w0.heap.size ≤ y) (hs : OV.Seal ov r) : LendsH C0 C σ (.ro (.c v)) r := fun m x g ok' hG hσ h0 hg _ _ k2 hx => by
  simp only [AV.rel, RV.rel] at hx
  subst hx
  refine OV.seal_rel ov r x bs hs (OV.rel_keep ov x bs h fun b hb => hG.frm.block b (hfix b hb).1 (hfix b hb).2) fun z hz => k2 z (hnew z hz) ?_
  rintro rfl
  rcases hG.mine 0 z (by rw [hσ]; exact h0) hg with q | q
  · exact (hfix z hz).2 q
  · have := (hfix z hz).1; omega
theorem LendsHL.ghs : ∀ (ovs : List OV) (rs : List RV) (us : List Value) (bs : List Nat), OV.rels C.w0 ovs us bs → (∀ y ∈ bs, y < C.w0.heap.size ∧ ¬ C.mu y) → (∀ y ∈ bs, C0.w0.heap.size ≤ y) → OV.Seals ovs rs → LendsHL C0 C σ ((us.map RV.c).map .ro) rs
  | [], rs, us, bs, h, _, _, hs => by
    simp only [OV.rels] at h; simp only [OV.Seals] at hs
    obtain ⟨rfl, rfl⟩ := h; subst hs
    exact .nil
  | x :: xs, rs, us, bs, h, hf, hn, hs => by
    simp only [OV.rels] at h; simp only [OV.Seals] at hs
    obtain ⟨u, us', b, bs', rfl, rfl, h1, h2⟩ := h
    obtain ⟨r, rs', rfl, hs1, hs2⟩ := hs
    exact .cons (LendsH.gh h1 (fun y hy => hf y (List.mem_append.2 (.inl hy))) (fun y hy => hn y (List.mem_append.2 (.inl hy))) hs1) (LendsHL.ghs xs rs' us' bs' h2 (fun y hy => hf y (List.mem_append.2 (.inr hy))) (fun y hy => hn y (List.mem_append.2 (.inr hy))) hs2)
theorem LendsH.own {j : Nat} {o : Ob} {els : List (List RV)} (hj : 0 < j) (h3 : σ[j]? = some o) (hc : LendsHL C0 C σ o.cs els.flatten) (hl : ∀ x ∈ els, x.length = o.sz) : LendsH C0 C σ (.own j) (.seq o.sz els) := fun m x g ok' hG hσ h0 hg hsd k1 k2 hx => by
  obtain ⟨n, xs, h1, h2, h4, h5, h6, h7⟩ := row_ownL (e := o.t) (sz := o.sz) (cs := o.cs) hG (by rw [hσ, h3]) hx
  have hr := hc.rels hG hσ h0 hg hsd k1 k2 xs h4
  have hjl : j < m.σ.length := by rw [hσ]; exact (List.getElem?_eq_some_iff.1 h3).1
  have hlen : o.cs.length = els.flatten.length := by
    have a1 := AV.rels_len o.cs xs h4
    have a2 := RV.rels_len els.flatten xs hr
    omega
  refine seals_rel (ok := ok') (fun _ h => h) (.row o.t o.sz els.flatten) (.seq o.sz els) x x.ownBlock.toList (by simp only [Seals]; exact ⟨els, rfl, rfl, hl⟩) (by simp only [RR.rel]; exact ⟨n, xs, by omega, h2, hr, h5, h6, trivial⟩) fun z hz => ?_
  rw [h7] at hz
  have hz' : m.φ j = some z := by simpa [Option.mem_toList] using hz
  have hne : z ≠ g := fun e => by
    have := hG.inj j 0 g hjl (by rw [hσ]; exact h0) (e ▸ hz') hg
    omega
  refine k2 z ?_ hne
  rcases hG.mine j z hjl hz' with q | q
  · exact (hsd.mu z q).resolve_left hne
  · exact Nat.le_trans hsd.bx.size q
theorem endsD_lendH {P : Program} {fn : Func} {ct : TypeId} {b : List UInt8} {u : Value} {Q : RR → Prop} {S : St} {i h : Int} {more : List Ob} {x : ResultVar} {v : AV} {r : RV} (hsd : Sd g C0 C) (hok : ∀ z, C.ok z → C0.ok z) (hnew : ∀ z, C0.w0.heap.size ≤ z → C0.ok z) (hr : fn.results = #[x]) (hσ : S.σ = curOb ct u i h :: more) (ht : look S.env 0 = .pin 0 0 g) (hi : CurOk b i) (hx : ResV P S x v) (hl : LendsH C0 C S.σ v r) (hQ : Q (.ro r)) :
    ∀ a w, Sim C S a w → EndsD P C0 fn ct b g u Q a w := by
  rintro a w ⟨h1, h2, φ, hG, hH⟩
  obtain ⟨y, k1, k2⟩ := resV_run (P := P) hG hH x v hx
  have hg := pin_at hH ht
  have hrel := hl ⟨w, φ, S.σ, C.ok⟩ y g (fun z => C0.ok z ∧ z ≠ g) hG rfl (by rw [hσ]; simp) hg hsd (fun z hz hn => ⟨hok z hz, hn⟩) (fun z hz hn => ⟨hnew z hz, hn⟩) k2
  exact ⟨h1, y, by rw [results_eq, hr]; simp [k1], .ro r, [], i, h, hQ, by simp only [RR.rel]; exact ⟨RV.rel_mono ⟨Nat.le_refl _, fun z _ hz => ⟨⟨hz, by simp⟩, rfl⟩⟩ r y hrel, trivial⟩, by simp, by simp, hi, cur_at hG hσ hg, hsd.end_ hG⟩
end
theorem rulsQ_open {w : World} {d : Des} {v : Value} {bs : List Nat} (hp : 1 ≤ d.length) (h : OV.rel w (.agg [rulsQ d]) v bs) : ∃ gR cap us bs', v = .agg #[.slice (some ⟨gR, 0, none⟩) d.length cap] ∧ bs = gR :: bs' ∧ us.length = d.length * 8 ∧ (∀ x ∈ us, x.oneCell' = true) ∧
    w.ownsRow 0 52 8 (.slice (some ⟨gR, 0, none⟩) d.length cap) d.length us ∧ OV.rels w (d.flatMap rulQ) us bs' := by
  simp only [OV.rel, OV.rels, rulsQ] at h
  obtain ⟨⟨vs⟩, rfl, v0, _, b0, _, e1, rfl, ⟨n, xs, bs', k1, k2, k3, k4, k5, rfl⟩, rfl, rfl⟩ := h
  simp only at e1
  subst e1
  rw [rulQ_len] at k1
  have hn : d.length = n := by omega
  subst hn
  have hxl := OV.rels_len _ _ _ k3
  rw [rulQ_len] at hxl
  have k5' := k5
  rcases k5'.2 with ⟨_, h0⟩ | ⟨g, cap, cur, rfl, _⟩
  · omega
  · exact ⟨g, cap, xs, bs', rfl, by simp [Value.ownBlock], hxl, k4, k5, k3⟩
end Go.Proofs.Ytnecoghfhcimeaa
/- append on a row that nothing else speaks of, in a region that draws its order. Over any program. -/
namespace Go.Proofs.Ytnecoghfhcimeaa
set_option linter.unusedSimpArgs false
set_option linter.unusedVariables false
set_option linter.unusedSectionVars false
open Go.RowKit
open AV (Mem Keeps)
section
variable {P : Program} {C : Ctx} {ct : TypeId} {u : Value} {i h : Int} {more : List Ob} {env : Env} {t : Nat} {ty : TypeId} {pos : String} {after : Array Edge} {tt e : TypeId} {z : Value} {bytes : Nat} {x y : Operand} {v new : Value} {us : List Value} {bs : List Nat}
theorem app_wpG {gd : Option (Nat × Bool)} [hs : SL P tt e z 1 bytes] (hx : ev env x = .ro (.c v)) (hy : ev env y = .ro (.seq 1 [[.c new]])) (hov : OV.rel C.w0 (.row e 1 (us.map .c)) v bs) (hfix : ∀ q ∈ bs, q < C.w0.heap.size ∧ ¬ C.mu q ∧ ¬ C.ok q)
    (b1 : us.length ≤ 1000) (b2 : Nat.ble bytes 256 = true) {w : World} {φ : Nat → Option Nat} {σ : List Ob} {a : Act} (hG : Good C ⟨w, φ, σ, C.ok⟩) (hH : ∀ q ∈ [x, y], AV.rel ⟨w, φ, σ, C.ok⟩ (ev env q) (a.eval q)) {K : Act → World → Prop} {QE : Exit → Act → World → Prop}
    (hK : ∀ C' v' w' bs', Nx C C' bs → OV.rel C'.w0 (.row e 1 ((us ++ [new]).map .c)) v' bs' → (∀ q ∈ bs', (q ∈ bs ∨ C.w0.heap.size ≤ q) ∧ q < C'.w0.heap.size ∧ ¬ C'.mu q ∧ ¬ C'.ok q) → bs'.Nodup → Good C' ⟨w', φ, σ, C'.ok⟩ → Keeps (fun _ => True) ⟨w, φ, σ, C.ok⟩ ⟨w', φ, σ, C'.ok⟩ → K (a.put (some t) v') w') :
    (⟨some t, .call { callee := .builtin .append, args := #[x, y], argTypes := #[tt, tt] }, ty, pos, after, gd⟩ : Oper).wp P a w K QE := by
  have hxr := hH x (by simp)
  rw [hx] at hxr
  simp only [AV.rel, RV.rel] at hxr
  have hyr := hH y (by simp)
  rw [hy] at hyr
  simp only [AV.rel] at hyr
  obtain ⟨n, xs, bs0, k1, k2, k3, k4, k5, k6⟩ := (show ∃ n xs bs', (us.map OV.c).length = n * 1 ∧ 0 < 1 ∧ OV.rels C.w0 (us.map .c) xs bs' ∧ (∀ x ∈ xs, x.oneCell' = true) ∧ C.w0.ownsRow 0 e 1 v n xs ∧ bs = v.ownBlock.toList ++ bs' by simpa only [OV.rel] using hov)
  obtain ⟨rfl, rfl⟩ := rels_cs _ _ _ k3
  rw [List.append_nil] at k6
  subst k6
  have hn : xs.length = n := by simpa using k1
  have k5w : w.ownsRow 0 e 1 v n xs := OV.ownsRow_keep k5 fun b hb => hG.frm.block b (hfix b hb).1 (hfix b hb).2.1
  obtain ⟨A, c, hv⟩ : ∃ A c, v = .slice A n c := by
    rcases k5.2 with ⟨h0, rfl⟩ | ⟨g, cap, cur, h0, _, _, _, _, _⟩
    · exact ⟨none, 0, by rw [h0]⟩
    · exact ⟨_, _, h0⟩
  obtain ⟨B, m, d, hyv⟩ : ∃ B m d, a.eval y = .slice B m d := by simp only [RV.rel] at hyr; obtain ⟨B, m, d, e, _⟩ := hyr; exact ⟨B, m, d, e⟩
  rw [hyv] at hyr
  obtain ⟨hm, ys, hRd, hy1, hyl, hyr'⟩ := seq_rd hyr
  obtain rfl : m = 1 := hm
  have hys : ys = [new] := by
    obtain ⟨q, hq, hq'⟩ := hyr' 0 (.c new) rfl
    simp only [RV.rel] at hq'
    subst hq'
    have : ys.length = 1 := hyl
    match ys, this, hq with
    | [q'], _, hq => simpa using hq
  subst hys
  subst hv
  have b2' := Nat.le_of_ble_eq_true b2
  obtain ⟨A', c', w', hrun, happ⟩ := run_app (P := P) hs.el ty 0 A n c xs k5w B 1 d [new] hRd hy1 (by unfold maxLen; omega) (by
    have : (n + 1) * bytes ≤ 1001 * 256 := Nat.mul_le_mul (by omega) b2'
    omega) (Nat.zero_le _)
  generalize hv' : Value.slice A' (n + 1) c' = v' at *
  have hg := happ.grown
  -- the row's own block is neither an object's nor data's
  have hno : ∀ j g, j < σ.length → φ j = some g → some g ≠ (Value.slice A n c).ownBlock := fun j g hj hg' e' => by
    have hb := hfix g (by rw [← e']; simp)
    rcases hG.mine j g hj hg' with q | q
    · exact hb.2.1 q
    · omega
  have hnk : ∀ g, C.ok g → some g ≠ (Value.slice A n c).ownBlock := fun g hg' e' => (hfix g (by rw [← e']; simp)).2.2 hg'
  have hbs' : ∀ q ∈ v'.ownBlock.toList, (q ∈ (Value.slice A n c).ownBlock.toList ∨ w.heap.size ≤ q) ∧ q < w'.heap.size := fun q hq => by
    have hq' : v'.ownBlock = some q := by simpa [Option.mem_toList] using hq
    refine ⟨?_, ?_⟩
    · rcases happ.lies with q1 | ⟨g, q1, q2⟩
      · left; rw [← q1]; exact hq
      · rw [hq'] at q1; injection q1 with q1; subst q1; exact .inr q2
    · rcases happ.own.2 with ⟨h0, _⟩ | ⟨g, cap, cur, h0, _, h4, _⟩
      · rw [h0] at hq'; simp [Value.ownBlock] at hq'
      · rw [h0] at hq'
        simp [Value.ownBlock] at hq'
        subst hq'
        exact (Array.getElem?_eq_some_iff.1 h4).1
  let C' : Ctx := ⟨w', fun b => C.ok b ∧ b ∉ v'.ownBlock.toList, mine φ σ.length, C.n⟩
  have hNx : Nx C C' (Value.slice A n c).ownBlock.toList := ⟨rfl, hg.os.trans hG.frm.os, hg.tape.trans hG.frm.tape, hg.output.trans hG.frm.output, Nat.le_trans hG.frm.size hg.size, fun b hb hm hnb => (hg.block b (Nat.lt_of_lt_of_le hb hG.frm.size) fun e' => hnb (by rw [← e']; simp)).trans (hG.frm.block b hb hm), fun b ⟨j, hj, hb⟩ => hG.mine j b hj hb, fun b hb => hb.1⟩
  have hlt : ∀ (j g : Nat), j < σ.length → φ j = some g → g < w.heap.size := fun j g hj hg' => hG.lt hj hg'
  have hK' : Keeps (fun _ => True) ⟨w, φ, σ, C.ok⟩ ⟨w', φ, σ, C'.ok⟩ := by
    refine ⟨⟨hg.size, fun b hb ho => ⟨⟨⟨ho.1, fun hm => ?_⟩, ho.2⟩, hg.block b hb fun e' => hnk b ho.1 e'⟩⟩, fun j _ hj => ⟨hj, rfl⟩, fun j ob _ hj => ⟨ob.cs, hj, rfl⟩, fun j g us t _ hj hg' hh => ⟨us, (hg.block g (hlt j g hj hg') fun e' => hno j g hj hg' e').trans hh, rfl⟩⟩
    rcases (hbs' b hm).1 with q | q
    · exact (hfix b q).2.2 ho.1
    · simp only at hb; omega
  have hG' : Good C' ⟨w', φ, σ, C'.ok⟩ := by
    refine ⟨rfl, hG.inj, fun j o hj => (hG.ob j o hj).keeps hK' fun g hg' => hg.block g (hlt j g (List.getElem?_eq_some_iff.1 hj).1 hg') fun e' => hno j g (List.getElem?_eq_some_iff.1 hj).1 hg' e', fun j g hj hg' => .inl ⟨j, hj, hg'⟩, ⟨rfl, rfl, rfl, Nat.le_refl _, fun _ _ _ => rfl, fun b hb => ⟨hG.frm.new b (Nat.le_trans hG.frm.size (Nat.le_trans hg.size hb)), fun hm => by have := (hbs' b hm).2; have hb' : w'.heap.size ≤ b := hb; omega⟩⟩⟩
  unfold Oper.wp execOp
  simp only [resolve, invoke, builtin, Sem.run_bind, Sem.run_pure, Result.andThen_ok, List.map_toArray, List.map_cons, List.map_nil, hxr, hyv, hrun, Oper.upon]
  refine hK C' v' w' v'.ownBlock.toList hNx ?_ (fun q hq => ⟨(hbs' q hq).1.imp id fun k => Nat.le_trans hG.frm.size k, (hbs' q hq).2, fun ⟨j, hj, hq'⟩ => ?_, fun ho => ho.2 hq⟩) (by cases v'.ownBlock <;> simp) hG' hK'
  · simp only [OV.rel]
    refine ⟨n + 1, xs ++ [new], [], by simp [hn], by omega, OV.rels_c _, fun q hq => ?_, happ.own, by simp⟩
    rcases List.mem_append.1 hq with hq | hq
    · exact k4 q hq
    · exact hy1 q hq
  · rcases (hbs' q hq).1 with k | k
    · exact hno j q hj hq' (Option.mem_def.1 (Option.mem_toList.1 k)).symm
    · have := hlt j q hj hq'; omega
variable {l : List Oper} {H T' : List IOq} {k : List Item} {R : Act → World → Prop} {n : Nat}
theorem RunsG.app [hs : SL P tt e z 1 bytes] (hx : ev env x = .ro (.c v)) (hy : ev env y = .ro (.seq 1 [[.c new]])) (hov : OV.rel C.w0 (.row e 1 (us.map .c)) v bs) (hfix : ∀ q ∈ bs, q < C.w0.heap.size ∧ ¬ C.mu q ∧ ¬ C.ok q)
    (b1 : us.length ≤ 1000) (b2 : Nat.ble bytes 256 = true) (hce : clnE env = true) (ht : t < C.n)
    (hk : ∀ C' v' bs', Nx C C' bs → OV.rel C'.w0 (.row e 1 ((us ++ [new]).map .c)) v' bs' → (∀ q ∈ bs', (q ∈ bs ∨ C.w0.heap.size ≤ q) ∧ q < C'.w0.heap.size ∧ ¬ C'.mu q ∧ ¬ C'.ok q) → bs'.Nodup → RunsG P C' ct u more l H T' k R i h ((t, .ro (.c v')) :: env)) :
    RunsG P C ct u more l H ((n, ⟨some t, .call { callee := .builtin .append, args := #[x, y], argTypes := #[tt, tt] }, ty, pos, after, none⟩) :: T') k R i h env :=
  RunsG.eff (fun y' i' h' C' => ∃ v' bs', y' = .ro (.c v') ∧ i' = i ∧ h' = h ∧ Nx C C' bs ∧ OV.rel C'.w0 (.row e 1 ((us ++ [new]).map .c)) v' bs' ∧ (∀ q ∈ bs', (q ∈ bs ∨ C.w0.heap.size ≤ q) ∧ q < C'.w0.heap.size ∧ ¬ C'.mu q ∧ ¬ C'.ok q) ∧ bs'.Nodup) rfl rfl ht hce (fun a m hG hσ hH K Q hK => by
    obtain ⟨w, φ, s, ok0⟩ := m
    have h0 := hG.ok0
    simp only at h0 hσ
    subst h0; subst hσ
    refine app_wpG hx hy hov hfix b1 b2 hG (fun q hq => hH q (by
      simp only [List.mem_cons, List.not_mem_nil, or_false] at hq
      rcases hq with rfl | rfl <;> simp [Op.operands, Call.operands])) fun C' v' w' bs' h1 h2 h3 h4 g1 g2 => hK _ i h C' v' w' ⟨v', bs', rfl, rfl, rfl, h1, h2, h3, h4⟩ h1.n g1 (fun y x _ hy => AV.rel_keeps g2 _ _ (AV.only_true _) hy) (by simp [AV.rel, RV.rel])) (by
    rintro _ _ _ C' ⟨v', bs', rfl, rfl, rfl, h1, h2, h3, h4⟩ _
    exact hk C' v' bs' h1 h2 h3 h4)
end
end Go.Proofs.Ytnecoghfhcimeaa
/- One cell of a description with rows of its own is changed: lemmas. -/
namespace Go.Proofs.Ytnecoghfhcimeaa
set_option linter.unusedSimpArgs false
set_option linter.unusedVariables false
set_option linter.unusedSectionVars false
open Go.RowKit
open AV (Mem Keeps)
theorem rels_set {w : World} : ∀ (ovs : List OV) (us : List Value) (bs : List Nat) (p : Nat) (o : OV), OV.rels w ovs us bs → ovs[p]? = some o → ∃ v b1 b b2, us[p]? = some v ∧ bs = b1 ++ (b ++ b2) ∧ OV.rel w o v b ∧
    ∀ (w' : World) o' v' b', OV.rel w' o' v' b' → (∀ x ∈ b1 ++ b2, w'.heap[x]? = w.heap[x]?) → OV.rels w' (ovs.set p o') (us.set p v') (b1 ++ (b' ++ b2))
  | [], _, _, p, _, _, h => by simp at h
  | x :: xs, us, bs, 0, o, h, ho => by
    simp only [OV.rels] at h
    obtain ⟨v, us', b, bs', rfl, rfl, h1, h2⟩ := h
    simp only [List.getElem?_cons_zero, Option.some.injEq] at ho
    subst ho
    refine ⟨v, [], b, bs', rfl, rfl, h1, fun w' o' v' b' hr hk => ?_⟩
    simp only [List.set_cons_zero, List.nil_append, OV.rels]
    exact ⟨v', us', b', bs', rfl, rfl, hr, OV.rels_keep _ _ _ h2 fun x hx => hk x (by simpa using hx)⟩
  | x :: xs, us, bs, p + 1, o, h, ho => by
    simp only [OV.rels] at h
    obtain ⟨v0, us', b0, bs', rfl, rfl, h1, h2⟩ := h
    simp only [List.getElem?_cons_succ] at ho
    obtain ⟨v, b1, b, b2, e1, rfl, e3, e4⟩ := rels_set xs us' bs' p o h2 ho
    refine ⟨v, b0 ++ b1, b, b2, by simpa using e1, by simp, e3, fun w' o' v' b' hr hk => ?_⟩
    simp only [List.set_cons_succ, OV.rels]
    exact ⟨v0, us'.set p v', b0, b1 ++ (b' ++ b2), rfl, by simp, OV.rel_keep _ _ _ h1 fun x hx => hk x (by simp [hx]), e4 w' o' v' b' hr fun x hx => hk x (by simp only [List.mem_append] at hx ⊢; exact hx.imp .inr id)⟩
theorem cells_at {us : List Value} {p : Nat} {v : Value} (h : us[p]? = some v) : ((us.map RV.c).map AV.ro)[p]? = some (.ro (.c v)) := by
  rw [List.getElem?_map, List.getElem?_map, h]; rfl
theorem cells_set (us : List Value) (p : Nat) (v : Value) : ((us.map RV.c).map AV.ro).set p (.ro (.c v)) = ((us.set p v).map RV.c).map AV.ro := by
  rw [List.map_set, List.map_set]
theorem flat_at : ∀ (d : Des) (n j : Nat) (r : Rul) (o : OV), d[n]? = some r → (rulQ r)[j]? = some o → (d.flatMap rulQ)[n * 8 + j]? = some o
  | [], n, _, _, _, h, _ => by simp at h
  | x :: d, 0, j, r, o, h, ho => by
    simp only [List.getElem?_cons_zero, Option.some.injEq] at h
    subst h
    rw [List.flatMap_cons, Nat.zero_mul, Nat.zero_add, List.getElem?_append_left (List.getElem?_eq_some_iff.1 ho).1]
    exact ho
  | x :: d, n + 1, j, r, o, h, ho => by
    rw [List.flatMap_cons, List.getElem?_append_right (by rw [show (rulQ x).length = 8 from rfl]; omega), show (n + 1) * 8 + j - (rulQ x).length = n * 8 + j by rw [show (rulQ x).length = 8 from rfl]; omega]
    exact flat_at d n j r o (by simpa using h) ho
theorem flat_set {r r' : Rul} {j : Nat} {o' : OV} (hj : j < 8) (hr : (rulQ r).set j o' = rulQ r') : ∀ (d : Des) (n : Nat), d[n]? = some r → (d.flatMap rulQ).set (n * 8 + j) o' = (d.set n r').flatMap rulQ
  | [], n, h => by simp at h
  | x :: d, 0, h => by
    simp only [List.getElem?_cons_zero, Option.some.injEq] at h
    subst h
    rw [List.set_cons_zero, List.flatMap_cons, List.flatMap_cons, Nat.zero_mul, Nat.zero_add, List.set_append_left _ _ hj, hr]
  | x :: d, n + 1, h => by
    rw [List.set_cons_succ, List.flatMap_cons, List.flatMap_cons, List.set_append_right _ _ (by rw [show (rulQ x).length = 8 from rfl]; omega), show (n + 1) * 8 + j - (rulQ x).length = n * 8 + j by rw [show (rulQ x).length = 8 from rfl]; omega, flat_set hj hr d n (by simpa using h)]
theorem anyD_set {d : Des} {n : Nat} {r' : Rul} (hD : DrawD d) (ho : r'.Ok) (ht : r'.total ≤ 1000) : AnyD (d.set n r') := by
  have hm := hD.most
  have hx : 10 ≤ maxLen := by decide
  refine ⟨⟨fun r hr => ?_, by rw [List.length_set]; omega⟩, ?_, by rw [List.length_set]; omega⟩
  · rcases List.mem_or_eq_of_mem_set hr with h | h
    · exact hD.desOk.rules r h
    · subst h; exact ho
  · have h1 := sum_le_mul Rul.total 1000 (d.set n r') fun r hr => by
      rcases List.mem_or_eq_of_mem_set hr with h | h
      · obtain ⟨j, hj⟩ := List.mem_iff_getElem?.1 h
        have := hD.ruleTotal hj
        omega
      · subst h; exact ht
    have h2 : dtotal (d.set n r') = (d.set n r').length + ((d.set n r').map Rul.total).sum := rfl
    rw [List.length_set] at h1 h2
    omega
theorem anyD_nil : AnyD [] := ⟨⟨by simp, by simp⟩, by simp [dtotal], by simp⟩
theorem anyD_of {d : Des} (hD : DrawD d) : AnyD d := ⟨hD.desOk, by have := hD.total; omega, by have := hD.most; omega⟩
theorem any_end {P : Program} {C0 C : Ctx} {fn : Func} {ct : TypeId} {b : List UInt8} {g : Nat} {u : Value} {S : St} {i h : Int} {more : List Ob} {cs : List AV} {us : List Value} {bs : List Nat} {d : Des} {p : Nat} [TN P 38 1] (hp : 0 < p) (hsd : Sd g C0 C) (hok : ∀ z, C.ok z → C0.ok z) (hnew : ∀ z, C0.w0.heap.size ≤ z → C0.ok z) (hr : fn.results = #[.cell 2 38]) (hσ : S.σ = curOb ct u i h :: more) (ht : look S.env 0 = .pin 0 0 g) (hi : CurOk b i)
    (h2 : look S.env 2 = .obj 1 0) (h1 : S.σ[1]? = some ⟨38, 0, [.own p]⟩) (h3 : S.σ[p]? = some ⟨52, 8, cs⟩) (hcs : cs = (us.map RV.c).map .ro) (hov : OV.rels C.w0 (d.flatMap rulQ) us bs) (hfix : ∀ y ∈ bs, y < C.w0.heap.size ∧ ¬ C.mu y ∧ ¬ C.ok y) (hnw : ∀ y ∈ bs, C0.w0.heap.size ≤ y) (hA : AnyD d) :
    ∀ a w, Sim C S a w → EndsD P C0 fn ct b g u QAny a w := by
  subst hcs
  exact endsD_lendH hsd hok hnew hr hσ ht hi (v := .agg [.own p]) (r := desR d) (by
      simp only [ResV]
      exact ⟨1, 0, _, h2, h1, .inr ⟨1, inferInstance, Nat.le_refl _, rfl⟩⟩)
    (LendsH.agg (.cons (LendsH.own (j := p) (els := d.map rulR) hp h3 (LendsHL.ghs _ _ _ _ hov (fun y hy => ⟨(hfix y hy).1, (hfix y hy).2.1⟩) hnw (sealsQ d)) fun x hx => by
      obtain ⟨r, _, rfl⟩ := List.mem_map.1 hx
      rfl) .nil)) ⟨d, rfl, hA⟩
theorem Runs.know {P : Program} {C : Ctx} {k : List Item} {R : Act → World → Prop} {S : St} (h : (∀ z, C.w0.heap.size ≤ z → C.ok z) → Runs P C k R S) : Runs P C k R S := ⟨fun a w hs => by
  have hs' := hs
  obtain ⟨_, _, φ, hG, _⟩ := hs'
  exact (h hG.frm.new).run a w hs⟩
theorem RunsL.as {P : Program} {C : Ctx} {ops : Array Oper} {rest : List Oper} {k : List Item} {R : Act → World → Prop} {env : Env} {σ : List Ob} (env' : Env) (σ' : List Ob) (h : Sub env' env) (hσ : σ = σ') (hk : RunsL P C ops rest k R ⟨env', σ'⟩) : RunsL P C ops rest k R ⟨env, σ⟩ := by
  subst hσ
  exact ⟨fun a w ⟨h1, h2, φ, h3, h4⟩ => hk.run a w ⟨h1, h2, φ, h3, fun s => by
    rcases h.look s with e | e
    · show AV.rel _ (look env' s) _
      rw [e]; simp [AV.rel]
    · show AV.rel _ (look env' s) _
      rw [e]; exact h4 s⟩⟩
theorem any_grow {C0 C C2 : Ctx} {g : Nat} {b0 b1 b2 b' : List Nat} (sd : Sd g C0 C) (nx : Nx C C2 b0) (hfix : ∀ y ∈ b1 ++ (b0 ++ b2), y < C.w0.heap.size ∧ ¬ C.mu y ∧ ¬ C.ok y) (hnd : (b1 ++ (b0 ++ b2)).Nodup) (hnw : ∀ y ∈ b1 ++ (b0 ++ b2), C0.w0.heap.size ≤ y) (hok : ∀ z, C.ok z → C0.ok z)
    (hfix2 : ∀ q ∈ b', (q ∈ b0 ∨ C.w0.heap.size ≤ q) ∧ q < C2.w0.heap.size ∧ ¬ C2.mu q ∧ ¬ C2.ok q) : Sd g C0 C2 ∧ (∀ x ∈ b1 ++ b2, C2.w0.heap[x]? = C.w0.heap[x]?) ∧ (∀ y ∈ b1 ++ (b' ++ b2), y < C2.w0.heap.size ∧ ¬ C2.mu y ∧ ¬ C2.ok y) ∧ (∀ y ∈ b1 ++ (b' ++ b2), C0.w0.heap.size ≤ y) ∧ ∀ z, C2.ok z → C0.ok z := by
  have hsub : ∀ x ∈ b1 ++ b2, x ∈ b1 ++ (b0 ++ b2) := fun x hx => by
    simp only [List.mem_append] at hx ⊢
    exact hx.imp id .inr
  have hnot : ∀ x ∈ b1 ++ b2, x ∉ b0 := fun x hx h0 => by
    rw [List.nodup_append] at hnd
    obtain ⟨_, h2, h3⟩ := hnd
    rw [List.nodup_append] at h2
    rcases List.mem_append.1 hx with h | h
    · exact h3 x h x (List.mem_append_left _ h0) rfl
    · exact h2.2.2 x h0 x h rfl
  have hkeep : ∀ x ∈ b1 ++ b2, x < C2.w0.heap.size ∧ ¬ C2.mu x ∧ ¬ C2.ok x := fun x hx => by
    obtain ⟨q1, q2, q3⟩ := hfix x (hsub x hx)
    refine ⟨Nat.lt_of_lt_of_le q1 nx.size, fun hm => ?_, fun ho => q3 (nx.ok x ho)⟩
    rcases nx.mu x hm with h | h
    · exact q2 h
    · omega
  refine ⟨sd.next nx fun x hx => hnw x (by simp [hx]), fun x hx => nx.block x (hfix x (hsub x hx)).1 (hfix x (hsub x hx)).2.1 (hnot x hx), fun y hy => ?_, fun y hy => ?_, fun z hz => hok z (nx.ok z hz)⟩
  · simp only [List.mem_append] at hy
    rcases hy with h | h | h
    · exact hkeep y (by simp [h])
    · exact (hfix2 y h).2
    · exact hkeep y (by simp [h])
  · simp only [List.mem_append] at hy
    rcases hy with h | h | h
    · exact hnw y (by simp [h])
    · rcases (hfix2 y h).1 with k | k
      · exact hnw y (by simp [k])
      · exact Nat.le_trans sd.bx.size k
    · exact hnw y (by simp [h])
theorem ints_snoc {w : World} {l : List Int} {x : Int} {v : Value} {bs : List Nat} (h : OV.rel w (.row 3 1 ((l.map (fun z => Value.int .i64 z) ++ [Value.int .i64 x]).map .c)) v bs) : OV.rel w (intsQ (l ++ [x])) v bs := by
  unfold intsQ; rw [List.map_append]; exact h
theorem strs_snoc {w : World} {l : List ByteArray} {x : ByteArray} {v : Value} {bs : List Nat} (h : OV.rel w (.row 9 1 ((l.map (fun z => Value.string z) ++ [Value.string x]).map .c)) v bs) : OV.rel w (strsQ (l ++ [x])) v bs := by
  unfold strsQ; rw [List.map_append]; exact h
theorem bytes_snoc {w : World} {l : List UInt8} {x : UInt8} {v : Value} {bs : List Nat} (h : OV.rel w (.row 5 1 ((l.map (fun z => Value.int .u8 (z.toNat : Int)) ++ [Value.int .u8 (x.toNat : Int)]).map .c)) v bs) : OV.rel w (bytesQ (l ++ [x])) v bs := by
  unfold bytesQ; rw [List.map_append]; exact h
theorem ok_name {r : Rul} {x : ByteArray} (h : r.Ok) (hx : x.size ≤ maxLen) : Rul.Ok { r with name := x } := ⟨h.kind, h.size, h.tags, h.kids, hx, h.lens.2⟩
theorem strs4 {r : Rul} {x : ByteArray} (h : r.total ≤ 40) (hx : x ∈ [⟨#[]⟩, ⟨#[65]⟩, r.name, ⟨#[118, 101, 114, 121, 108, 111, 110, 103, 110, 97, 109, 101, 105, 110, 100, 101, 101, 100]⟩]) : x.size ≤ 40 := by
  have h1 : r.total = r.name.size + r.bytes.length + (r.names.length + (r.names.map ByteArray.size).sum) + r.tags.length + r.kids.length := rfl
  simp only [List.mem_cons, List.not_mem_nil, or_false] at hx
  rcases hx with rfl | rfl | rfl | rfl
  · decide
  · decide
  · omega
  · decide
theorem strs3 {x : ByteArray} (hx : x ∈ ([⟨#[112, 49]⟩, ⟨#[81]⟩, ⟨#[122]⟩] : List ByteArray)) : x.size ≤ 2 := by
  simp only [List.mem_cons, List.not_mem_nil, or_false] at hx
  rcases hx with rfl | rfl | rfl <;> decide
theorem tot_name {r : Rul} {x : ByteArray} (h : r.total ≤ 40) (hx : x.size ≤ 40) : Rul.total { r with name := x } ≤ 1000 := by
  have h1 : r.total = r.name.size + r.bytes.length + (r.names.length + (r.names.map ByteArray.size).sum) + r.tags.length + r.kids.length := rfl
  have h2 : Rul.total { r with name := x } = x.size + r.bytes.length + (r.names.length + (r.names.map ByteArray.size).sum) + r.tags.length + r.kids.length := rfl
  omega
theorem ok_kind {r : Rul} {x : Int} (h : r.Ok) (hx : I64 x) : Rul.Ok { r with kind := x } := ⟨hx, h.size, h.tags, h.kids, h.lens⟩
theorem ok_size {r : Rul} {x : Int} (h : r.Ok) (hx : I64 x) : Rul.Ok { r with size := x } := ⟨h.kind, hx, h.tags, h.kids, h.lens⟩
theorem ok_little {r : Rul} {x : Bool} (h : r.Ok) : Rul.Ok { r with little := x } := ⟨h.kind, h.size, h.tags, h.kids, h.lens⟩
theorem tot_lens {r : Rul} (h : r.total ≤ 40) : r.bytes.length ≤ 40 ∧ r.names.length ≤ 40 ∧ r.tags.length ≤ 40 ∧ r.kids.length ≤ 40 := by
  have h1 : r.total = r.name.size + r.bytes.length + (r.names.length + (r.names.map ByteArray.size).sum) + r.tags.length + r.kids.length := rfl
  omega
theorem mem_snoc {α : Type} {p : α → Prop} {l : List α} {x : α} (h : ∀ z ∈ l, p z) (hx : p x) : ∀ z ∈ l ++ [x], p z := fun z hz => by
  rcases List.mem_append.1 hz with q | q
  · exact h z q
  · rw [List.mem_singleton] at q; subst q; exact hx
theorem ok_kids {r : Rul} {x : Int} (h : r.Ok) (ht : r.total ≤ 40) (hx : I64 x) : Rul.Ok { r with kids := r.kids ++ [x] } := by
  have h1 := tot_lens ht
  have hm : 1000 ≤ maxLen := by decide
  exact ⟨h.kind, h.size, h.tags, mem_snoc h.kids hx, h.lens.1, h.lens.2.1, h.lens.2.2.1, h.lens.2.2.2.1, h.lens.2.2.2.2.1, by simp only [List.length_append, List.length_singleton]; omega, trivial⟩
theorem ok_tags {r : Rul} {x : Int} (h : r.Ok) (ht : r.total ≤ 40) (hx : I64 x) : Rul.Ok { r with tags := r.tags ++ [x] } := by
  have h1 := tot_lens ht
  have hm : 1000 ≤ maxLen := by decide
  exact ⟨h.kind, h.size, mem_snoc h.tags hx, h.kids, h.lens.1, h.lens.2.1, h.lens.2.2.1, h.lens.2.2.2.1, by simp only [List.length_append, List.length_singleton]; omega, h.lens.2.2.2.2.2⟩
theorem ok_bytes {r : Rul} {x : UInt8} (h : r.Ok) (ht : r.total ≤ 40) : Rul.Ok { r with bytes := r.bytes ++ [x] } := by
  have h1 := tot_lens ht
  have hm : 1000 ≤ maxLen := by decide
  exact ⟨h.kind, h.size, h.tags, h.kids, h.lens.1, by simp only [List.length_append, List.length_singleton]; omega, h.lens.2.2⟩
theorem ok_names {r : Rul} {x : ByteArray} (h : r.Ok) (ht : r.total ≤ 40) (hx : x.size ≤ 2) : Rul.Ok { r with names := r.names ++ [x] } := by
  have h1 := tot_lens ht
  have hm : 1000 ≤ maxLen := by decide
  exact ⟨h.kind, h.size, h.tags, h.kids, h.lens.1, h.lens.2.1, by simp only [List.length_append, List.length_singleton]; omega, mem_snoc h.lens.2.2.2.1 (by omega), h.lens.2.2.2.2⟩
theorem tot_kids {r : Rul} {x : Int} (h : r.total ≤ 40) : Rul.total { r with kids := r.kids ++ [x] } ≤ 1000 := by
  have h1 : r.total = r.name.size + r.bytes.length + (r.names.length + (r.names.map ByteArray.size).sum) + r.tags.length + r.kids.length := rfl
  have h2 : Rul.total { r with kids := r.kids ++ [x] } = r.name.size + r.bytes.length + (r.names.length + (r.names.map ByteArray.size).sum) + r.tags.length + (r.kids ++ [x]).length := rfl
  rw [List.length_append, List.length_singleton] at h2
  omega
theorem tot_tags {r : Rul} {x : Int} (h : r.total ≤ 40) : Rul.total { r with tags := r.tags ++ [x] } ≤ 1000 := by
  have h1 : r.total = r.name.size + r.bytes.length + (r.names.length + (r.names.map ByteArray.size).sum) + r.tags.length + r.kids.length := rfl
  have h2 : Rul.total { r with tags := r.tags ++ [x] } = r.name.size + r.bytes.length + (r.names.length + (r.names.map ByteArray.size).sum) + (r.tags ++ [x]).length + r.kids.length := rfl
  rw [List.length_append, List.length_singleton] at h2
  omega
theorem tot_bytes {r : Rul} {x : UInt8} (h : r.total ≤ 40) : Rul.total { r with bytes := r.bytes ++ [x] } ≤ 1000 := by
  have h1 : r.total = r.name.size + r.bytes.length + (r.names.length + (r.names.map ByteArray.size).sum) + r.tags.length + r.kids.length := rfl
  have h2 : Rul.total { r with bytes := r.bytes ++ [x] } = r.name.size + (r.bytes ++ [x]).length + (r.names.length + (r.names.map ByteArray.size).sum) + r.tags.length + r.kids.length := rfl
  rw [List.length_append, List.length_singleton] at h2
  omega
theorem tot_names {r : Rul} {x : ByteArray} (h : r.total ≤ 40) (hx : x.size ≤ 2) : Rul.total { r with names := r.names ++ [x] } ≤ 1000 := by
  have h1 : r.total = r.name.size + r.bytes.length + (r.names.length + (r.names.map ByteArray.size).sum) + r.tags.length + r.kids.length := rfl
  have h2 : Rul.total { r with names := r.names ++ [x] } = r.name.size + r.bytes.length + ((r.names ++ [x]).length + ((r.names ++ [x]).map ByteArray.size).sum) + r.tags.length + r.kids.length := rfl
  have h3 : ((r.names ++ [x]).map ByteArray.size).sum = (r.names.map ByteArray.size).sum + x.size := by rw [List.map_append, List.sum_append]; simp
  rw [List.length_append, List.length_singleton, h3] at h2
  omega
end Go.Proofs.Ytnecoghfhcimeaa
