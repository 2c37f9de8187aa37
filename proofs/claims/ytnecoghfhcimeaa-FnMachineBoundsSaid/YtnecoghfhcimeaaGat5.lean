/- Gathered texts. -/
import Derived.Test.YtnecoghfhcimeaaGat0
import Derived.Test.YtnecoghfhcimeaaGat1
import Derived.Test.YtnecoghfhcimeaaGat2
import Derived.Test.YtnecoghfhcimeaaGat3
import Derived.Test.YtnecoghfhcimeaaGat4
/- The draw of a value of a rule: terminated content; any kind; a drawn value. -/
namespace Go.Proofs.Ytnecoghfhcimeaa
set_option linter.unusedSimpArgs false
set_option linter.unusedVariables false
open Go.RowKit
open AV (Mem Wd)
theorem mk_ten {d : Des} {r : Nat} {x : Rul} (hx : d[r]? = some x) (k : x.kind = 10) {l : List UInt8} (h : l.length ≤ 6) : MkV d r (.mk 0 l []) :=
  Ta hx (by omega) (by
    unfold Ls; rw [if_neg (by omega), if_neg (by omega), if_neg (by omega), if_neg (by omega), if_pos k]
    exact ⟨rfl, by show l.length ≤ 400; omega, rfl⟩)
set_option maxHeartbeats 8000000 in
theorem Pi (b : List UInt8) (hb : b.length ≤ 1048576) (d : Des) (hD : DrawD d) (r : Nat) (x : Rul) (hx : d[(r : Int).toNat]? = some x) (k : x.kind = 10) (most : Int) (hmo : 0 ≤ most) : Drw Try.prog 123 66 b [W1 d, .int (r : Int), .int most] (Dv (MkV d r)) := by
  have hx' : d[r]? = some x := hx
  obtain ⟨k', _, _, hr, hk', _, _⟩ := hD.kinds hx'
  obtain ⟨y0, hy0, hbk⟩ := hr.hbytes.2.1 (by omega)
  have hby : x.bytes[(0 : Int).toNat]? = some (u8i y0) := by rw [hbk]; rfl
  have hM := M1 most 6
  have hm6 : 0 ≤ mn most 6 ∧ mn most 6 ≤ 6 := by unfold mn; split <;> omega
  have hI1 := Bi b hb [((u8i y0).toNat : Int), 92] (by simp) (by simp)
  refine Yu Try.func66 rfl _ Try.ntmps66 (by simp) fun C g u i h hn hm hu hi => ?_
  repeat' (first
 | (refine Yv (Yt b hb _ (by omega)) rfl hu hi rfl (Ya [.int _]) rfl (by first | rfl | repeat' (first | rfl | exact Z5 _ | refine Zy ?_ ?_)) (tl hn rfl) ?_; intro i h y hi hy; obtain ⟨n3, rfl, hn3⟩ : ∃ n3 : Nat, y = n3 ∧ n3 ≤ 6 := ⟨y.toNat, by unfold Bel at hy; omega, by unfold Bel at hy; omega⟩)
 | (refine Qt (Qe b hb n3 (by omega)) rfl hu hi rfl rfl rfl (by first | rfl | repeat' (first | rfl | exact Z5 _ | refine Zy ?_ ?_)) (tl hn rfl) ?_; rintro i h _ hi ⟨z, rfl, hz⟩; rcases z with _ | ⟨c0, z⟩)
 | refine Qy rfl rfl rfl ?_
 | (refine M3 (M5 b hb 2 (by decide)) rfl hu hi rfl (Ya [.int 2]) rfl (by first | rfl | repeat' (first | rfl | exact Z5 _ | refine Zy ?_ ?_)) (tl hn rfl) ?_; intro i h y1 hi; cases y1)
 | refine Xf (id := 12) 30 [0, 1, 2, 3, 4, 5, 6, 7] [8, 9, 10, 11, 12] Ym rfl rfl (by kernel_rfl) (by kernel_rfl) (by kernel_rfl) ?_
 | (refine Ur (t := 71) hI1 rfl hu hi (fun _ => Ya [Xc [((u8i y0).toNat : Int), 92]]) rfl (by first | rfl | repeat' (first | rfl | exact Z5 _ | refine Zy ?_ ?_)) (tl hn rfl) ?_; intro i h y2 hi hy2)
 | refine RunsH.pur (fun _ _ => Y3 Zu rfl) rfl (tl hn rfl) rfl ?_
 | refine RunsH.pur (fun _ _ => Yj rfl) rfl (tl hn rfl) rfl ?_
 | refine RunsH.pur (fun _ _ => Zw hM rfl) rfl (tl hn rfl) rfl ?_
 | refine RunsH.pur (fun _ _ => Zx rfl rfl (by omega)) rfl (tl hn rfl) rfl ?_
 | refine RunsH.pur (fun _ _ => Yp (n := 0) rfl rfl rfl) rfl (tl hn rfl) rfl ?_
 | refine RunsH.pur (fun _ _ => Yp (n := z.length + 1) rfl rfl (by simp)) rfl (tl hn rfl) rfl ?_
 | refine RunsH.pur (fun _ _ => Zr rfl rfl rfl rfl rfl rfl) rfl (tl hn rfl) rfl ?_
 | refine RunsH.pur (fun _ _ => Vf rfl) rfl (tl hn rfl) rfl ?_
 | refine RunsH.pur (fun _ _ => U2 rfl) rfl (tl hn rfl) rfl ?_
 | refine RunsH.pur (fun _ _ => Yl (n := z.length + 1) rfl rfl rfl rfl (by first | (simp; done) | (simp; omega)) (by omega) (by omega)) rfl (tl hn rfl) rfl ?_
 | refine RunsH.pur (fun _ _ => Zx rfl rfl (by omega)) rfl (tl hn rfl) rfl ?_
 | refine RunsH.pur (fun _ _ => Zb rfl rfl (by omega) (by assumption)) rfl (tl hn rfl) rfl ?_
 | refine RunsH.pur (fun _ _ => Zr rfl rfl rfl rfl rfl rfl) rfl (tl hn rfl) rfl ?_
 | refine RunsH.nil ?_
 | refine RunsP.pur (Y3 Zu rfl) rfl rfl (tl hn rfl) (by first | rfl | repeat' (first | rfl | exact Z5 _ | refine Zy ?_ ?_)) ?_
 | refine RunsP.pur (Yj rfl) rfl rfl (tl hn rfl) (by first | rfl | repeat' (first | rfl | exact Z5 _ | refine Zy ?_ ?_)) ?_
 | refine RunsP.pur (Zw hM rfl) rfl rfl (tl hn rfl) (by first | rfl | repeat' (first | rfl | exact Z5 _ | refine Zy ?_ ?_)) ?_
 | refine RunsP.pur (Zx rfl rfl (by omega)) rfl rfl (tl hn rfl) (by first | rfl | repeat' (first | rfl | exact Z5 _ | refine Zy ?_ ?_)) ?_
 | refine RunsP.pur (Yp (n := 0) rfl rfl rfl) rfl rfl (tl hn rfl) (by first | rfl | repeat' (first | rfl | exact Z5 _ | refine Zy ?_ ?_)) ?_
 | refine RunsP.pur (Yp (n := z.length + 1) rfl rfl (by simp)) rfl rfl (tl hn rfl) (by first | rfl | repeat' (first | rfl | exact Z5 _ | refine Zy ?_ ?_)) ?_
 | refine RunsP.pur (Zr rfl rfl rfl rfl rfl rfl) rfl rfl (tl hn rfl) (by first | rfl | repeat' (first | rfl | exact Z5 _ | refine Zy ?_ ?_)) ?_
 | refine RunsP.pur (Vf rfl) rfl rfl (tl hn rfl) (by first | rfl | repeat' (first | rfl | exact Z5 _ | refine Zy ?_ ?_)) ?_
 | refine RunsP.pur (U2 rfl) rfl rfl (tl hn rfl) (by first | rfl | repeat' (first | rfl | exact Z5 _ | refine Zy ?_ ?_)) ?_
 | refine RunsP.pur (Yl (n := z.length + 1) rfl rfl rfl rfl (by first | (simp; done) | (simp; omega)) (by omega) (by omega)) rfl rfl (tl hn rfl) (by first | rfl | repeat' (first | rfl | exact Z5 _ | refine Zy ?_ ?_)) ?_
 | refine RunsP.pur (Zx rfl rfl (by omega)) rfl rfl (tl hn rfl) (by first | rfl | repeat' (first | rfl | exact Z5 _ | refine Zy ?_ ?_)) ?_
 | refine RunsP.pur (Zb rfl rfl (by omega) (by assumption)) rfl rfl (tl hn rfl) (by first | rfl | repeat' (first | rfl | exact Z5 _ | refine Zy ?_ ?_)) ?_
 | refine RunsP.pur (Zr rfl rfl rfl rfl rfl rfl) rfl rfl (tl hn rfl) (by first | rfl | repeat' (first | rfl | exact Z5 _ | refine Zy ?_ ?_)) ?_
 | refine Rk Zu hn rfl ?_
 | refine Rl ?_
 | refine Zc 30 rfl ?_
 | refine Yc rfl rfl rfl rfl (by first | (simp; done) | (simp; omega)) ?_
 | refine Xr 12 rfl (nbT rfl) (by kernel_rfl) (by kernel_rfl) ?_
 | ((first | refine Zg hn rfl rfl rfl ?_ | refine Zm rfl rfl ?_); first
 | refine ⟨_, Yj rfl, ?_⟩
 | refine ⟨_, Zw hM rfl, ?_⟩
 | refine ⟨_, Zx rfl rfl (by omega), ?_⟩
 | refine ⟨_, Yp (n := 0) rfl rfl rfl, ?_⟩
 | refine ⟨_, Yp (n := z.length + 1) rfl rfl (by simp), ?_⟩
 | refine ⟨_, Zr rfl rfl rfl rfl rfl rfl, ?_⟩
 | refine ⟨_, Vf rfl, ?_⟩
 | refine ⟨_, U2 rfl, ?_⟩
 | refine ⟨_, Yl (n := z.length + 1) rfl rfl rfl rfl (by first | (simp; done) | (simp; omega)) (by omega) (by omega), ?_⟩)
 | (refine Rj 30 rfl ?_; first | refine Zp rfl ?_ | refine Zz rfl ?_ | ((first | refine Zd rfl ?_ ?_ | refine Ze rfl ?_ ?_); · first | omega | rfl | assumption | (simp only [lmT]; omega)) | ((first | refine Zf rfl ?_ ?_ | refine Za rfl ?_ ?_); · first | omega | rfl | assumption | (simp only [lmT]; omega)) | refine Ri (Zt hm rfl rfl ?_) | exact Ri (Zj hm rfl rfl rfl (nbT rfl) rfl rfl))
 | refine Z1 rfl (tl hn rfl) ?_
 | refine Yc rfl rfl rfl rfl (nbT rfl) ?_
 | refine Z6 (tl hn rfl) ?_
 | refine Z3 rfl rfl rfl rfl (nbT rfl) ?_
 | ((first | refine Zg hn rfl rfl rfl ?_ | refine Zm rfl rfl ?_); first
 | refine ⟨_, Zx rfl rfl (by omega), ?_⟩
 | refine ⟨_, Zb rfl rfl (by omega) (by assumption), ?_⟩
 | refine ⟨_, Z4 rfl rfl (by omega), ?_⟩
 | refine ⟨_, Zv rfl rfl rfl, ?_⟩
 | refine ⟨_, Z7 rfl rfl (by omega), ?_⟩
 | refine ⟨_, Zr rfl rfl rfl rfl rfl rfl, ?_⟩)
 | ((first | refine Zi rfl rfl rfl ?_ ?_ | refine Zh rfl rfl rfl ?_ ?_ | refine Zk rfl rfl rfl ?_ ?_ | refine Zl rfl rfl rfl ?_ ?_ | refine Zo rfl rfl rfl ?_ ?_ | refine Zn rfl rfl rfl ?_ ?_ | refine Zq rfl rfl rfl ?_ ?_ | refine Zs rfl rfl rfl ?_ ?_) <;> intro h <;> try (exfalso; first | omega | contradiction | (simp only [lmT] at h; omega))))
  all_goals refine Z8 (e := 29) (sz := 3) 2 2 (by decide) rfl rfl ?_
  all_goals first
    | exact Rj 30 rfl (Ri (Vn (v := .mk 0 [] []) (j := 2) (x := 5) (y := 6) hm rfl rfl rfl hi rfl rfl rfl rfl (by decide) (by decide) (mk_ten hx' k (by simp))))
    | exact Rj 30 rfl (Ri (Vn (v := .mk 0 (c0 :: z) []) (j := 2) (x := 5) (y := 6) hm rfl rfl rfl hi rfl rfl rfl rfl (by decide) (by decide) (mk_ten hx' k (by omega))))
    | exact Rj 30 rfl (Ri (Vn (v := .mk 0 (u8i y2 :: z) []) (j := 2) (x := 5) (y := 6) hm rfl rfl rfl hi rfl rfl rfl rfl (by decide) (by decide) (mk_ten hx' k (by simp only [Rb] at hz ⊢; omega))))
theorem l9Make_d (b : List UInt8) (hb : b.length ≤ 1048576) (d : Des) (hD : DrawD d) : ∀ (r : Nat), r < d.length → ∀ most : Int, 0 ≤ most ∧ most ≤ 1048576 → Drw Try.prog 123 66 b [W1 d, .int (r : Int), .int most] (Dv (MkV d r)) := by
  intro r
  induction r using Nat.strongRecOn with
  | ind r ih =>
  intro hr most hmo
  have hx : d[(r : Int).toNat]? = some _ := P9 (show (r : Int).toNat < d.length from hr)
  obtain ⟨k', k1, k2, _, hk', _, _⟩ := hD.kinds (show d[r]? = some _ from hx)
  have ih' : ∀ q : Nat, q < r → ∀ m : Int, 0 ≤ m ∧ m ≤ 1048576 → Drw Try.prog 123 66 b [W1 d, .int (q : Int), .int m] (Dv (MkV d q)) := fun q hq m hm => ih q hq (by omega) m hm
  by_cases e1 : k' = 1
  · exact l9Make1_d b hb d hD r _ hx (by omega) most
  by_cases e2 : k' = 2
  · exact l9Make2_d b hb d hD r _ hx (by omega) most
  by_cases e3 : k' = 3
  · exact l9Make3_d b hb d hD r _ hx (by omega) most
  by_cases e4 : k' = 4
  · exact l9Make4_d b hb d hD r _ hx (by omega) most hmo.1
  by_cases e5 : k' = 5
  · exact l9Make5_d b hb d hD r _ hx (by omega) most hmo ih'
  by_cases e6 : k' = 6
  · exact l9Make6_d b hb d hD r _ hx (by omega) most hmo ih'
  by_cases e7 : k' = 7
  · exact l9Make7_d b hb d hD r _ hx (by omega) most hmo ih'
  by_cases e8 : k' = 8
  · exact l9Make8_d b hb d hD r _ hx (by omega) most hmo ih'
  by_cases e9 : k' = 9
  · exact l9Make9_d b hb d hD r _ hx (by omega) most hmo ih'
  · exact Pi b hb d hD r _ hx (by omega) most hmo.1
section
variable {P : Program} {C : Ctx} {k : List Item} {R : Act → World → Prop} {env : Env} {σ : List Ob}
theorem Es {i t : Nat} {o : Ob} {els : List (List RV)} {a : Act} {w : World} (hok : ∀ φ b, Good C ⟨w, φ, σ, C.ok⟩ → Holds ⟨w, φ, σ, C.ok⟩ env a → i < σ.length → φ i = some b → C.ok b) (ht : look env t = .own i) (ho : σ[i]? = some o) (hcs : o.cs = els.flatten.map .ro) (hl : ∀ x ∈ els, x.length = o.sz) (hfree : FreeI i (σ.set i ⟨o.t, o.sz, []⟩))
    (hs : Sim C ⟨env, σ⟩ a w) : Sim C ⟨(t, .ro (.seq o.sz els)) :: Uk i env, σ.set i ⟨o.t, o.sz, []⟩⟩ a w := by
  obtain ⟨s1, s2, φ, hG, hH⟩ := hs
  have hil := (P8.1 ho).1
  have hlen : (σ.set i ⟨o.t, o.sz, []⟩).length = σ.length := by simp
  have hokk : ∀ b, AV.Mem.ok ⟨w, φ, σ, C.ok⟩ b → AV.Mem.ok ⟨w, upd φ i none, σ.set i ⟨o.t, o.sz, []⟩, C.ok⟩ b := fun b hb => ⟨hb.1, fun j hj e => by
    simp only [hlen] at hj
    by_cases h : j = i
    · subst h; simp only [Y9] at e; cases e
    · simp only [Y7 h] at e; exact hb.2 j hj e⟩
  have hK : Wd (fun j => j ≠ i) ⟨w, φ, σ, C.ok⟩ ⟨w, upd φ i none, σ.set i ⟨o.t, o.sz, []⟩, C.ok⟩ :=
    ⟨⟨Nat.le_refl _, fun b _ hb => ⟨hokk b hb, rfl⟩⟩, fun j hj hjl => ⟨by simpa using hjl, Y7 hj⟩, fun j ob hj hob => ⟨ob.cs, by simp only [List.getElem?_set_ne (Ne.symm hj)]; exact hob, rfl⟩, fun j g us t _ _ _ hh => ⟨us, hh, rfl⟩⟩
  refine ⟨s1, s2, upd φ i none, ⟨rfl, fun p q g hp hq e1 e2 => ?_, fun j ob hj => ?_, fun j g hj hg => ?_, hG.frm⟩, fun s => ?_⟩
  · simp only [hlen] at hp hq
    have hp' : p ≠ i := fun e => by subst e; simp only [Y9] at e1; cases e1
    have hq' : q ≠ i := fun e => by subst e; simp only [Y9] at e2; cases e2
    simp only [Y7 hp'] at e1
    simp only [Y7 hq'] at e2
    exact hG.inj p q g hp hq e1 e2
  · by_cases h : j = i
    · subst h
      simp only [List.getElem?_set_self hil, Option.some.injEq] at hj
      subst hj
      show ObRel _ _ (upd φ j none j)
      rw [Y9]; rfl
    · have hfj := hfree.at_ j ob hj
      rw [List.getElem?_set_ne (Ne.symm h)] at hj
      have h0 := hG.ob j ob hj
      show ObRel _ _ (upd φ i none j)
      rw [Y7 h]
      simp only at h0
      cases hφ : φ j with
      | none => rw [hφ] at h0; exact h0
      | some g =>
        rw [hφ] at h0
        obtain ⟨us, q1, q2, q3⟩ := h0
        refine ⟨us, q1, q2, fun m v hv => ?_⟩
        obtain ⟨u, e1, e2, e3⟩ := q3 m v hv
        exact ⟨u, e1, e2, AV.rel_keeps hK _ _ (W3 hfj m v hv) e3⟩
  · simp only [hlen] at hj
    have h : j ≠ i := fun e => by subst e; simp only [Y9] at hg; cases hg
    simp only [Y7 h] at hg
    exact hG.mine j g hj hg
  · show AV.rel _ (look ((t, _) :: Uk i env) s) _
    rw [Y4]
    split
    · rename_i e; subst e
      have hu := hH t
      rw [ht] at hu
      simp only [AV.rel]
      -- the own row's block alone is needed
      have hrow := D5 (cs := els.flatten) (e := o.t) (sz := o.sz) hG (by rw [ho]; cases o; simp_all) hu
      obtain ⟨n, xs, h1, h2, h3, h4, h5, h6⟩ := hrow
      refine seals_rel (ok := AV.Mem.ok ⟨w, φ, σ, C.ok⟩) hokk (.row o.t o.sz els.flatten) (.seq o.sz els) _ _ (by simp only [Seals]; exact ⟨els, rfl, rfl, hl⟩) (by simp only [RR.rel]; exact ⟨n, xs, h1, h2, h3, h4, h5, rfl⟩) fun b hb => ?_
      rw [h6] at hb
      have hb' : φ i = some b := by simpa [Option.mem_toList] using hb
      refine ⟨hok φ b hG hH hil hb', fun j hj e => ?_⟩
      simp only [hlen] at hj
      by_cases h : j = i
      · subst h; simp only [Y9] at e; cases e
      · simp only [Y7 h] at e; exact h (hG.inj j i b hj hil e hb')
    · rw [Uw]
      exact AV.rel_keeps hK _ _ (AV.kill_only i _) (AV.kill_rel i _ _ (hH s))
theorem J2 (i t : Nat) {o : Ob} (els : List (List RV)) (hm : ∀ b, ¬ C.mu b) (ht : look env t = .own i) (ho : σ[i]? = some o) (hcs : o.cs = els.flatten.map .ro) (hl : ∀ x ∈ els, x.length = o.sz) (hfree : FreeI i (σ.set i ⟨o.t, o.sz, []⟩))
    (hk : Runs P C k R ⟨(t, .ro (.seq o.sz els)) :: Uk i env, σ.set i ⟨o.t, o.sz, []⟩⟩) : Runs P C k R ⟨env, σ⟩ := ⟨fun a w hs => hk.run a w (Es (fun φ b hG _ hil hb => hG.frm.new b ((hG.mine i b hil hb).resolve_left (hm b))) ht ho hcs hl hfree hs)⟩
theorem B7 {ops : Array Oper} {l : List Oper} {g : Nat} (i t : Nat) {o : Ob} (els : List (List RV)) (hm : ∀ x, C.mu x → x = g) (hp : look env 0 = .pin 0 0 g) (hi : i ≠ 0) (ht : look env t = .own i) (ho : σ[i]? = some o) (hcs : o.cs = els.flatten.map .ro) (hl : ∀ x ∈ els, x.length = o.sz) (hfree : FreeI i (σ.set i ⟨o.t, o.sz, []⟩))
    (hk : RunsL P C ops l k R ⟨(t, .ro (.seq o.sz els)) :: Uk i env, σ.set i ⟨o.t, o.sz, []⟩⟩) : RunsL P C ops l k R ⟨env, σ⟩ := ⟨fun a w hs => hk.run a w (Es (fun φ b hG hH hil hb => hG.frm.new b ((hG.mine i b hil hb).resolve_left fun hmb => by
      have hg := hm b hmb
      subst hg
      have h0 := hH 0
      rw [hp] at h0
      simp only [AV.rel] at h0
      exact hi (hG.inj i 0 b hil h0.1 hb h0.2.1))) ht ho hcs hl hfree hs)⟩
variable {t : Nat} {ty : TypeId} {pos : String} {after : Array Edge} {gd : Option (Nat × Bool)}
end
theorem good_kid {d : Des} (h : Ut d) {i : Nat} {r : Rul} (hr : d[i]? = some r) {j : Nat} {k : Int} (hk : r.kids[j]? = some k) : 0 ≤ k ∧ k < i := by
  have hi := (P8.1 hr).1
  obtain ⟨_, r', h1, h2⟩ := h.2.2 i hi
  rw [show ((i : Nat) : Int).toNat = i by rfl, hr] at h1; injection h1 with h1; subst h1
  exact h2.2.1 j k hk
noncomputable def stB (d : Des) : Nat → Nat → Nat → Bool
  | 0, _, _ => true
  | f + 1, r, b => match d[r]? with
    | none => true
    | some x => if x.kind = 2 then decide (b = (x.bytes.headD 0).toNat)
      else if x.kind = 6 ∨ x.kind = 9 then stB d f (x.kids.headD 0).toNat b
      else if x.kind = 7 then (match d[(x.kids.headD 0).toNat]? with
        | some y => x.tags.any fun t => decide (b = ((Ln y t).headD 0).toNat)
        | none => true)
      else if x.kind = 8 then decide (b < 2)
      else true
theorem stB_at {d : Des} {f r b : Nat} {x : Rul} (h : d[r]? = some x) : stB d (f + 1) r b = (if x.kind = 2 then decide (b = (x.bytes.headD 0).toNat)
      else if x.kind = 6 ∨ x.kind = 9 then stB d f (x.kids.headD 0).toNat b
      else if x.kind = 7 then (match d[(x.kids.headD 0).toNat]? with
        | some y => x.tags.any fun t => decide (b = ((Ln y t).headD 0).toNat)
        | none => true)
      else if x.kind = 8 then decide (b < 2)
      else true) := by rw [stB, h]
theorem good_at {d : Des} (hG : Ut d) {r : Nat} {x : Rul} (h : d[r]? = some x) : Va d x := by
  have hi := (P8.1 h).1
  obtain ⟨_, x', h1, h2⟩ := hG.2.2 r hi
  rw [show ((r : Nat) : Int).toNat = r by rfl, h] at h1; injection h1 with h1; subst h1
  exact h2.2.2.2
theorem head_kid {d : Des} (hG : Ut d) {r : Nat} {x : Rul} (h : d[r]? = some x) (hl : 0 < x.kids.length) : 0 ≤ x.kids.headD 0 ∧ x.kids.headD 0 < r :=
  good_kid hG h (j := 0) (Bo hl)
theorem stB_deep {d : Des} (hG : Ut d) {b : Nat} : ∀ (r : Nat), r < d.length → ∀ f, r < f → stB d f r b = stB d (r + 1) r b := by
  intro r
  induction r using Nat.strongRecOn with
  | _ r ih =>
    intro hr f hf
    obtain ⟨g, rfl⟩ : ∃ g, f = g + 1 := ⟨f - 1, by omega⟩
    obtain ⟨x, hx⟩ : ∃ x, d[r]? = some x := ⟨_, P9 hr⟩
    rw [stB_at hx, stB_at hx]
    by_cases h69 : x.kind = 6 ∨ x.kind = 9
    · have hkl : 0 < x.kids.length := by
        have hk := good_at hG hx
        unfold Va at hk
        rcases h69 with h | h
        · simp only [h] at hk
          simp only [show ¬ (6 : Int) = 1 by decide, show ¬ (6 : Int) = 2 by decide, show ¬ (6 : Int) = 3 by decide, show ¬ (6 : Int) = 4 by decide, show ¬ (6 : Int) = 5 by decide, show ¬ (6 : Int) = 7 by decide, show ¬ (6 : Int) = 8 by decide, show ¬ (6 : Int) = 9 by decide, show ¬ (6 : Int) = 10 by decide, false_and, false_or, or_false, true_and] at hk
          have := hk.1.kids (by omega); have := hk.2.1; omega
        · simp only [h] at hk
          simp only [show ¬ (9 : Int) = 1 by decide, show ¬ (9 : Int) = 2 by decide, show ¬ (9 : Int) = 3 by decide, show ¬ (9 : Int) = 4 by decide, show ¬ (9 : Int) = 5 by decide, show ¬ (9 : Int) = 7 by decide, show ¬ (9 : Int) = 8 by decide, show ¬ (9 : Int) = 6 by decide, show ¬ (9 : Int) = 10 by decide, false_and, false_or, or_false, true_and, or_true] at hk
          have := hk.kids (by omega); omega
      have hk := head_kid hG hx hkl
      have e1 := ih (x.kids.headD 0).toNat (by omega) (by omega) g (by omega)
      have e2 := ih (x.kids.headD 0).toNat (by omega) (by omega) r (by omega)
      rw [e1, e2]
    · rw [if_neg h69, if_neg h69]
section
variable {P : Program} {C : Ctx} {t : Nat} {E : EE} {q : Nat} {ty : TypeId} {pos : String} {after : Array Edge}
theorem E2 {m : Mem} {a : Act} : ∀ (xs : List Operand), (∀ x ∈ xs, AV.rel m (evE E x) (a.eval x)) → AV.rels m (xs.map (evE E)) (xs.map a.eval)
  | [], _ => by simp [AV.rels]
  | x :: xs, h => by
    simp only [List.map_cons, AV.rels]
    exact ⟨_, _, rfl, h x (by simp), E2 xs fun y hy => h y (by simp [hy])⟩
theorem Hx {f : FuncId} {fn : Func} {xs : Array Operand} {ats : Array TypeId} {args : List RV} {e : TypeId} {sz : Nat} {cs : List RV} [hfn : FN P f fn] (hf : AC P f args fun rr => rr = .row e sz cs) (hne : cs ≠ []) (ha : xs.toList.map (evE E) = args.map .ro) :
    MkN P C ⟨some t, .call { callee := .value (.func f), args := xs, argTypes := ats }, ty, pos, after, none⟩ E ⟨e, sz, cs.map .ro⟩ q (.own q) := by
  refine ⟨.inl rfl, fun a w φ σ hG hq hφ hH K Q hK => ?_⟩
  have hql : q < σ.length := (P8.1 hq).1
  have hlen : (σ.set q ⟨e, sz, cs.map .ro⟩).length = σ.length := by simp
  have h0 := E2 (E := E) (a := a) (m := ⟨w, φ, σ, C.ok⟩) xs.toList fun x hx => hH x (by simp [Op.operands, Call.operands]; exact .inr (by simpa using hx))
  have hr := FitsL.rels (Vs args) _ (ha ▸ h0)
  unfold Oper.wp
  rw [execOp_call_go, Wb hfn]
  simp only [Oper.upon]
  refine (hf w _ _ (Js hG) (by simpa using hr)).mono ?_
  rintro e' w' ⟨u, rr', bs, rfl, rfl, h1, h2, h3, h4⟩
  obtain ⟨ps, p1, p2, p3⟩ := M6 _ u bs h1
  obtain ⟨p, rfl⟩ : ∃ p, ps = [p] := by
    cases ps with
    | nil => simp [obs] at p1
    | cons p l => cases l with
      | nil => exact ⟨p, rfl⟩
      | cons _ _ => simp [obs] at p1
  cases p with
  | none =>
    exfalso
    have hok : ∀ b, (AV.Mem.ok ⟨w, φ, σ, C.ok⟩ b ∧ b ∉ bs) → AV.Mem.ok ⟨w', φ, σ.set q ⟨e, sz, cs.map .ro⟩, C.ok⟩ b := fun b hb => ⟨hb.1.1, fun i hi => hb.1.2 i (by simp only [hlen] at hi; exact hi)⟩
    obtain ⟨_, q2⟩ := p3 ⟨w', φ, σ.set q ⟨e, sz, cs.map .ro⟩, C.ok⟩ q rfl hok ⟨fun j p hj => by
      cases j with
      | zero => simp at hj; subst hj; exact hφ
      | succ j => simp at hj, fun j o hj => by
      cases j with
      | zero => simp [obs] at hj; subst hj; simp [hql]
      | succ j => simp [obs] at hj⟩
    have := q2 0 ⟨e, sz, cs.map .ro⟩ rfl
    simp only [Nat.add_zero, hφ, ObRel] at this
    exact hne (by simpa using this)
  | some g =>
    have hbs : bs = [g] := by rw [p2]; rfl
    have hg := h3 g (by rw [hbs]; simp)
    have hok : ∀ b, (AV.Mem.ok ⟨w, φ, σ, C.ok⟩ b ∧ b ∉ bs) → AV.Mem.ok ⟨w', upd φ q (some g), σ.set q ⟨e, sz, cs.map .ro⟩, C.ok⟩ b := fun b hb => ⟨hb.1.1, fun i hi he => by
      simp only [hlen] at hi
      by_cases h : i = q
      · subst h; simp only [Y9, Option.some.injEq] at he; subst he; exact hb.2 (by rw [hbs]; simp)
      · simp only [Y7 h] at he; exact hb.1.2 i hi he⟩
    obtain ⟨q1, q2⟩ := p3 ⟨w', upd φ q (some g), σ.set q ⟨e, sz, cs.map .ro⟩, C.ok⟩ q rfl hok ⟨fun j p hj => by
      cases j with
      | zero => simp at hj; subst hj; exact Y9
      | succ j => simp at hj, fun j o hj => by
      cases j with
      | zero => simp [obs] at hj; subst hj; simp [hql]
      | succ j => simp [obs] at hj⟩
    refine hK u w' g h4 hg.1 ?_ q1
    have := q2 0 ⟨e, sz, cs.map .ro⟩ rfl
    simpa [Y9] using this
end
theorem Xw {r : RE} {n : Nat} {o : Oper} {v : AV} (h : r.pre = none) : Ir [r] n o v := fun p r' hp hr => by
  cases p with
  | zero => simp at hp; subst hp; rw [h] at hr; cases hr
  | succ p => simp at hp
theorem M9 {y : Rul} {t : Int} (hf : Fit t y.size) : 1 ≤ (Ln y t).length ∧ (Ln y t).length ≤ 4 := by
  have hbl : 1 ≤ (be t y.size).length ∧ (be t y.size).length ≤ 4 := by unfold be; split <;> (try split) <;> (try split) <;> simp
  unfold Ln
  split
  · rw [List.length_reverse, Kj hf]; exact hbl
  · rw [Kj hf]; exact hbl
theorem Ty (r : Rul) (n : Int) : (Ln r n).length ≤ 4 := by
  have h : (Gu n r.size).length ≤ 4 := by
    by_cases hf : Fit n r.size
    · rw [Kj hf]
      unfold be
      repeat' split
      all_goals simp
    · rw [Bu hf]; simp
  unfold Ln
  split
  · rw [List.length_reverse]; exact h
  · exact h
theorem Wa : ∀ l : List UInt8, (l.map fun z => [RV.u8 z]).flatten = l.map RV.u8 := fun l => by induction l <;> simp_all
set_option maxHeartbeats 4000000 in
theorem D3 (b : List UInt8) (hb : b.length ≤ 1048576) : ∃ s : Int, 0 ≤ s ∧ s ≤ 255 ∧ ACv Try.prog 165 [Yz b] (.int s) := by
  let S : Nat → Int := fun j => Nat.rec (motive := fun _ => Int) 0 (fun j s => (s + ((b.getD j 0).toNat : Int)) % 256) j
  have hS : ∀ j, 0 ≤ S j ∧ S j ≤ 255 := fun j => by
    cases j with
    | zero => exact ⟨Int.le_refl _, by show (0 : Int) ≤ 255; omega⟩
    | succ j =>
      show 0 ≤ (S j + ((b.getD j 0).toNat : Int)) % 256 ∧ (S j + ((b.getD j 0).toNat : Int)) % 256 ≤ 255
      omega
  have hbl : (b.map fun z => [RV.u8 z]).length = b.length := lmT ..
  refine ⟨S b.length, (hS _).1, (hS _).2, ?_⟩
  refine Yh Try.func165 rfl _ Try.ntmps165 (by simp) fun C hn hm => ?_
  repeat' (first
 | refine Rk Zu hn rfl ?_
 | refine Rl ?_
 | refine Zc 30 rfl ?_
 | (refine Rj 30 rfl ?_; first | ((first | refine Zd rfl ?_ ?_ | refine Ze rfl ?_ ?_); · first | omega | rfl | assumption | (simp only [lmT]; omega)) | ((first | refine Zf rfl ?_ ?_ | refine Za rfl ?_ ?_); · first | omega | rfl | assumption | (simp only [lmT]; omega)) | refine Ri (Zt hm rfl rfl ?_) | exact Ri (Zj hm rfl rfl rfl (nbT rfl) rfl rfl))
 | (refine Zg hn rfl rfl rfl ?_; first
 | refine ⟨_, Zx rfl rfl (by omega), ?_⟩
 | refine ⟨_, Zb rfl rfl (by omega) (by assumption), ?_⟩
      ))
  refine Yw 30 rfl (fun j => [(0, .ro (Yz b)), (3, .int (S j)), (4, .int (j : Int))]) (fun _ => []) (fun _ => True) b.length 0 (Nat.zero_le _) trivial ⟨rfl, rfl, rfl, trivial⟩ rfl fun j hj _ next => ?_
  by_cases hlt : j < b.length
  · obtain ⟨c, hc⟩ : ∃ c, b[(j : Int).toNat]? = some c := ⟨_, P9 hlt⟩
    have hc' : b[j]? = some c := hc
    have hcl := c.toNat_lt
    have hSj := hS j
    have e : S (j + 1) = (S j + (c.toNat : Int)) % 256 := by
      show (S j + ((b.getD j 0).toNat : Int)) % 256 = _
      rw [List.getD_eq_getElem?_getD, hc']; rfl
    repeat' (first
 | (refine Zg hn rfl rfl rfl ?_; first
 | refine ⟨_, Z0 b.length rfl hbl, ?_⟩)
 | refine Rk Zu hn rfl ?_
 | refine Rl ?_
 | refine Zc 30 rfl ?_
 | (refine Zg hn rfl rfl rfl ?_; first
 | refine ⟨_, Vf rfl, ?_⟩
 | refine ⟨_, Zx rfl rfl (by omega), ?_⟩
 | refine ⟨_, pu_rem rfl rfl (by omega), ?_⟩)
 | (refine Rj 30 rfl ?_; first | ((first | refine Zd rfl ?_ ?_ | refine Ze rfl ?_ ?_); · first | omega | rfl | assumption | (simp only [lmT]; omega)) | ((first | refine Zf rfl ?_ ?_ | refine Za rfl ?_ ?_); · first | omega | rfl | assumption | (simp only [lmT]; omega)) | refine Ri (Zt hm rfl rfl ?_) | exact Ri (Zj hm rfl rfl rfl (nbT rfl) rfl rfl))
 | (refine Zg hn rfl rfl rfl ?_; first
 | refine ⟨_, Zx rfl rfl (by omega), ?_⟩
 | refine ⟨_, Zb rfl rfl (by omega) (by assumption), ?_⟩
        ))
    exact next _ _ ⟨rfl, Ko e.symm, rfl, trivial⟩ hlt trivial rfl
  · obtain rfl : j = b.length := by omega
    repeat' (first
 | (refine Zg hn rfl rfl rfl ?_; first
 | refine ⟨_, Z0 b.length rfl hbl, ?_⟩)
 | refine Rk Zu hn rfl ?_
 | refine Rl ?_
 | refine Zc 30 rfl ?_
 | (refine Rj 30 rfl ?_; first | ((first | refine Zd rfl ?_ ?_ | refine Ze rfl ?_ ?_); · first | omega | rfl | assumption | (simp only [lmT]; omega)) | ((first | refine Zf rfl ?_ ?_ | refine Za rfl ?_ ?_); · first | omega | rfl | assumption | (simp only [lmT]; omega)) | refine Ri (Zt hm rfl rfl ?_) | exact Ri (Zj hm rfl rfl rfl (nbT rfl) rfl rfl))
 | (refine Zg hn rfl rfl rfl ?_; first
 | refine ⟨_, Zx rfl rfl (by omega), ?_⟩
 | refine ⟨_, Zb rfl rfl (by omega) (by assumption), ?_⟩
        ))
    exact Xx rfl
structure Prt (d : Des) (r : Nat) (v : Tre) (bs : List UInt8) : Prop where
  pos : 1 ≤ bs.length
  most : bs.length ≤ 4 * v.count + 2 * v.weight
  first : stB d (r + 1) r (bs.headD 0).toNat = true
theorem Da (P : Nat → Tre → List UInt8 → Prop) : ∀ (l : List Tre) (n : Nat), (∀ (j : Nat) y, l[j]? = some y → ∃ bs, P (n + j) y bs) → ∃ ws : List (List UInt8), ws.length = l.length ∧ ∀ (j : Nat) y bs, l[j]? = some y → ws[j]? = some bs → P (n + j) y bs
  | [], _, _ => ⟨[], rfl, by simp⟩
  | y :: l, n, h => by
    obtain ⟨bs, hb⟩ := h 0 y rfl
    obtain ⟨ws, h1, h2⟩ := Da P l (n + 1) fun j y hj => by
      have := h (j + 1) y (by simpa using hj)
      rwa [show n + (j + 1) = n + 1 + j by omega] at this
    refine ⟨bs :: ws, by simp [h1], fun j y' bs' hj hj' => ?_⟩
    cases j with
    | zero => simp at hj hj'; subst hj; subst hj'; exact hb
    | succ j =>
      simp at hj hj'
      have := h2 j y' bs' hj hj'
      rwa [show n + 1 + j = n + (j + 1) by omega] at this
theorem flat_most (l : List Tre) : ∀ ws : List (List UInt8), ws.length = l.length → (∀ (j : Nat) y bs, l[j]? = some y → ws[j]? = some bs → bs.length ≤ 4 * y.count + 2 * y.weight) → ws.flatten.length ≤ 4 * (l.map Tre.count).sum + 2 * (l.map Tre.weight).sum := by
  induction l with
  | nil => intro ws h _; simp at h; subst h; simp
  | cons y l ih =>
    intro ws h hw
    cases ws with
    | nil => simp at h
    | cons bs ws =>
      have h1 := hw 0 y bs rfl rfl
      have h2 := ih ws (by simpa using h) fun j y bs hj hj' => hw (j + 1) y bs (by simpa using hj) (by simpa using hj')
      simp only [List.flatten_cons, Ra, List.map_cons, List.sum_cons]
      omega
theorem Gp (ws : List (List UInt8)) (j : Nat) : (ws.take j).flatten.length ≤ ws.flatten.length := by
  have h := congrArg (fun l : List (List UInt8) => l.flatten.length) (List.take_append_drop j ws)
  simp only [List.flatten_append, Ra] at h
  omega
theorem Jg {ws : List (List UInt8)} {j : Nat} {bs : List UInt8} (h : ws[j]? = some bs) : (ws.take (j + 1)).flatten = (ws.take j).flatten ++ bs := by
  rw [List.take_add_one, h, List.flatten_append]
  simp
def Mz (t0 : UInt8) (l : List UInt8) : List UInt8 := l.flatMap fun c => if c = t0 ∨ c = 92 then [92, c] else [c]
theorem Tw {t0 : UInt8} {l : List UInt8} {j : Nat} {c : UInt8} (h : l[j]? = some c) : Mz t0 (l.take (j + 1)) = Mz t0 (l.take j) ++ (if c = t0 ∨ c = 92 then [92, c] else [c]) := by
  unfold Mz
  rw [List.take_add_one, h, List.flatMap_append]
  simp
theorem Bs (t0 : UInt8) (l : List UInt8) : (Mz t0 l).length ≤ 2 * l.length := by
  induction l with
  | nil => simp [Mz]
  | cons c l ih =>
    simp only [Mz, List.flatMap_cons, Ra, Rb] at *
    split <;> simp only [Rb, Rc] <;> omega
def prS (d : Des) (x : Rul) (v : Tre) (l : List UInt8) : List Ob := [⟨38, 0, [.ro (X4 d)]⟩, ⟨29, 0, [.int v.number, .ro (Yz v.bytes), .ro (Vy v.items)]⟩, ⟨52, 0, (Ws x).map .ro⟩, ⟨5, 1, (l.map RV.u8).map .ro⟩]
theorem H6 {d : Des} (hD : DrawD d) {z : Int} (hz : IsInt d z) : ∃ y, d[z.toNat]? = some y ∧ 0 ≤ z ∧ ∀ n : Int, 0 ≤ n → n ≤ lim d z → Fit n y.size := by
  obtain ⟨h0, h1, y, hy, k1⟩ := hz
  obtain ⟨k', _, _, hr, hk', _, _⟩ := hD.kinds hy
  have hs := hr.hsize.1 (by omega)
  refine ⟨y, hy, h0, fun n hn hl => ?_⟩
  rw [H1 hy ⟨h0, k1, hs.1, by omega⟩] at hl
  exact ⟨hs.1, by omega, hn, by omega⟩
theorem flat_head {ws : List (List UInt8)} {bs : List UInt8} (h : ws[0]? = some bs) (hb : 1 ≤ bs.length) : ws.flatten.headD 0 = bs.headD 0 ∧ bs.length ≤ ws.flatten.length := by
  cases ws with
  | nil => simp at h
  | cons c ws =>
    simp at h
    subst h
    cases c with
    | nil => simp at hb
    | cons x c => exact ⟨rfl, by simp⟩
theorem Ow {a b : List UInt8} (h : a ≠ []) : (a ++ b).headD 0 = a.headD 0 := by
  cases a with
  | nil => exact absurd rfl h
  | cons x a => rfl
set_option maxHeartbeats 16000000 in
theorem Hu {d : Des} (hD : DrawD d) (v : Tre) (hvo : v.Ok) (ht : v.total ≤ 20000) (r : Nat) (x : Rul) (hx : d[(r : Int).toNat]? = some x) (hv : Vld d r v) (ws : List (List UInt8)) (hwl : ws.length = v.items.length) (hfl : ws.flatten.length ≤ 200000)
    (hw : ∀ (j : Nat) y bs, v.items[j]? = some y → ws[j]? = some bs → ACv Try.prog 139 [W1 d, .int (Xz x v.number j), treR y] (Yz bs)) (out : List UInt8)
    (hout : (x.kind = 1 ∧ out = Ln x v.number ∧ out ≠ []) ∨ (x.kind = 2 ∧ out = x.bytes) ∨ (x.kind = 3 ∧ out = v.bytes) ∨ (∃ z y, x.kind = 4 ∧ x.kids[(0 : Int).toNat]? = some z ∧ d[z.toNat]? = some y ∧ 0 ≤ z ∧ out = Ln y v.bytes.length ++ v.bytes ∧ Ln y v.bytes.length ≠ [])
      ∨ (∃ z y, x.kind = 5 ∧ x.kids[(0 : Int).toNat]? = some z ∧ d[z.toNat]? = some y ∧ 0 ≤ z ∧ out = Ln y v.items.length ++ ws.flatten ∧ Ln y v.items.length ≠ []) ∨ (x.kind = 6 ∧ out = ws.flatten)
      ∨ (∃ z y, x.kind = 7 ∧ x.kids[(0 : Int).toNat]? = some z ∧ d[z.toNat]? = some y ∧ 0 ≤ z ∧ out = Ln y v.number ++ ws.flatten ∧ Ln y v.number ≠ []) ∨ (x.kind = 8 ∧ out = u8i v.items.length :: ws.flatten)
      ∨ (∃ s, x.kind = 9 ∧ ACv Try.prog 165 [Yz ws.flatten] (.int s) ∧ out = ws.flatten ++ [u8i s]) ∨ (∃ t0, x.kind = 10 ∧ x.bytes[(0 : Int).toNat]? = some t0 ∧ ws.flatten = [] ∧ out = Mz t0 v.bytes ++ [t0])) :
    AC Try.prog 139 [W1 d, .int (r : Int), treR v] (fun rr => rr = .row 5 1 (out.map RV.u8)) := by
  have hx' : d[r]? = some x := hx
  have hk := Tj hD.good hx'
  have hni : (v.items.map Tre.cells).length = v.items.length := lmT ..
  have hnb : (v.bytes.map fun z => [RV.u8 z]).length = v.bytes.length := lmT ..
  have hnx : (x.bytes.map fun z => [RV.u8 z]).length = x.bytes.length := lmT ..
  have he := v.total_eq
  refine Yh Try.func139 rfl _ Try.ntmps139 (by simp) fun C hn hm => ?_
  repeat' (first
 | refine Xl (tl hn rfl) ?_
 | refine Rk Zu hn rfl ?_
 | refine Rl ?_
 | refine Zc 30 rfl ?_
 | (refine Rj 30 rfl ?_; first | refine Zp rfl ?_ | ((first | refine Zd rfl ?_ ?_ | refine Ze rfl ?_ ?_); · first | omega | rfl | assumption | (simp only [lmT]; omega)) | ((first | refine Zf rfl ?_ ?_ | refine Za rfl ?_ ?_); · first | omega | rfl | assumption | (simp only [lmT]; omega)) | refine Ri (Zt hm rfl rfl ?_) | exact Ri (Zj hm rfl rfl rfl (nbT rfl) rfl rfl))
 | refine Z1 rfl (tl hn rfl) ?_
 | refine Z6 (tl hn rfl) ?_
 | refine Z3 rfl rfl rfl rfl (nbT rfl) ?_
 | refine Rm Zu hn rfl rfl ?_
 | refine Rn ?_
 | refine Z2 30 Ym hn rfl (by kernel_rfl) rfl ?_
 | ((first | refine Zg hn rfl rfl rfl ?_ | refine Zm rfl rfl ?_); first
 | refine ⟨_, Zx rfl rfl (by omega), ?_⟩
 | refine ⟨_, Zb rfl rfl (by omega) (by assumption), ?_⟩
 | refine ⟨_, Z4 rfl rfl (by omega), ?_⟩
 | refine ⟨_, Zv rfl rfl rfl, ?_⟩
 | refine ⟨_, Z7 rfl rfl (by omega), ?_⟩
 | refine ⟨_, Zr rfl rfl rfl rfl rfl rfl, ?_⟩)
 | ((first | refine Zi rfl rfl rfl ?_ ?_ | refine Zh rfl rfl rfl ?_ ?_ | refine Zk rfl rfl rfl ?_ ?_ | refine Zl rfl rfl rfl ?_ ?_ | refine Zo rfl rfl rfl ?_ ?_ | refine Zn rfl rfl rfl ?_ ?_ | refine Zq rfl rfl rfl ?_ ?_ | refine Zs rfl rfl rfl ?_ ?_) <;> intro h <;> try (exfalso; first | omega | contradiction | (simp only [lmT] at h; omega))))
  refine Yw 30 rfl (fun j => [(1, .int r), (3, .obj 0 0), (5, .obj 1 0), (7, .obj 2 0), (8, .own 3), (9, .int (j : Int))]) (fun j => prS d x v (ws.take j).flatten) (fun _ => True) v.items.length 0 (Nat.zero_le _) trivial ⟨rfl, rfl, rfl, rfl, rfl, rfl, trivial⟩ rfl fun j hj _ next => ?_
  by_cases hlt : j < v.items.length
  · obtain ⟨y, hy⟩ : ∃ y, v.items[(j : Int).toNat]? = some y := ⟨_, P9 hlt⟩
    have hy' : v.items[j]? = some y := hy
    obtain ⟨bs, hbs⟩ : ∃ bs, ws[j]? = some bs := ⟨_, P9 (by omega)⟩
    have hcall := hw j y bs hy' hbs
    have hI := l9Item_ac hk v.number j (by omega)
    have hle := Gp ws (j + 1)
    rw [Jg hbs, Ra] at hle
    repeat' (first
 | refine Y2 (id := 6) 30 [] [0, 1, 2, 3, 4, 5, 6, 7, 8, 9, 10, 11, 12] 13 [] Ym hn rfl (by kernel_rfl) rfl .nil (by decide) (by decide) (by decide) ?_
 | refine RunsT.nil ?_
 | refine RunsT.pur (fun _ => Z0 v.items.length rfl hni) (by decide) rfl rfl ?_
 | refine RunsT.nil ?_
 | refine RunsT.step Zu rfl rfl (fun _ => rfl) (by decide) ?_
 | refine RunsT.pur (fun _ => Zw hI rfl) (by decide) rfl rfl ?_
 | refine RunsT.pur (fun _ => Nz rfl (Tre.cells_eq _) rfl) (by decide) rfl rfl ?_
 | refine RunsT.pur (fun _ => Zw hcall rfl) (by decide) rfl rfl ?_
 | refine RunsT.pur (fun _ => Zx rfl rfl (by omega)) (by decide) rfl rfl ?_
 | refine RunsT.pur (fun _ => Zb rfl rfl (by omega) (by assumption)) (by decide) rfl rfl ?_
 | ((first | refine Zg hn rfl rfl rfl ?_ | refine Zm rfl rfl ?_); first
 | refine ⟨_, Z0 v.items.length rfl hni, ?_⟩)
 | refine Rk Zu hn rfl ?_
 | refine Rl ?_
 | refine Zc 30 rfl ?_
 | ((first | refine Zg hn rfl rfl rfl ?_ | refine Zm rfl rfl ?_); first
 | refine ⟨_, Zw hI rfl, ?_⟩
 | refine ⟨_, Nz rfl (Tre.cells_eq _) rfl, ?_⟩
 | refine ⟨_, Zw hcall rfl, ?_⟩)
 | (refine Rj 30 rfl ?_; first | refine Zp rfl ?_ | ((first | refine Zd rfl ?_ ?_ | refine Ze rfl ?_ ?_); · first | omega | rfl | assumption | (simp only [lmT]; omega)) | ((first | refine Zf rfl ?_ ?_ | refine Za rfl ?_ ?_); · first | omega | rfl | assumption | (simp only [lmT]; omega)) | refine Ri (Zt hm rfl rfl ?_) | exact Ri (Zj hm rfl rfl rfl (nbT rfl) rfl rfl))
 | refine Z1 rfl (tl hn rfl) ?_
 | refine Z6 (tl hn rfl) ?_
 | refine Z3 rfl rfl rfl rfl (nbT rfl) ?_
 | refine Rm Zu hn rfl rfl ?_
 | refine Rn ?_
 | refine Z2 30 Ym hn rfl (by kernel_rfl) rfl ?_
 | ((first | refine Zg hn rfl rfl rfl ?_ | refine Zm rfl rfl ?_); first
 | refine ⟨_, Zx rfl rfl (by omega), ?_⟩
 | refine ⟨_, Zb rfl rfl (by omega) (by assumption), ?_⟩
 | refine ⟨_, Z4 rfl rfl (by omega), ?_⟩
 | refine ⟨_, Zv rfl rfl rfl, ?_⟩
 | refine ⟨_, Z7 rfl rfl (by omega), ?_⟩
 | refine ⟨_, Zr rfl rfl rfl rfl rfl rfl, ?_⟩)
 | ((first | refine Zi rfl rfl rfl ?_ ?_ | refine Zh rfl rfl rfl ?_ ?_ | refine Zk rfl rfl rfl ?_ ?_ | refine Zl rfl rfl rfl ?_ ?_ | refine Zo rfl rfl rfl ?_ ?_ | refine Zn rfl rfl rfl ?_ ?_ | refine Zq rfl rfl rfl ?_ ?_ | refine Zs rfl rfl rfl ?_ ?_) <;> intro h <;> try (exfalso; first | omega | contradiction | (simp only [lmT] at h; omega))))
    refine Yr (t := 37) (i := 3) (n := (ws.take j).flatten.length) (rs := (ws.take j).flatten.map RV.u8) (els := bs.map fun z => [RV.u8 z]) rfl rfl rfl rfl rfl rfl (by rw [lmT, Nat.mul_one]) (FreeI.at_ (i := 3) ⟨by simp [AV.onlys, AV.only], by simp [AV.onlys, AV.only], Yi _ _, Yi _ _, trivial⟩) (by simp only [lmT]; omega) (by simp only [lmT]; omega) (tl hn rfl) ?_
    repeat' (first
 | refine Rk Zu hn rfl ?_
 | refine Rl ?_
 | refine Zc 30 rfl ?_
 | (refine Rj 30 rfl ?_; first | refine Zp rfl ?_ | ((first | refine Zd rfl ?_ ?_ | refine Ze rfl ?_ ?_); · first | omega | rfl | assumption | (simp only [lmT]; omega)) | ((first | refine Zf rfl ?_ ?_ | refine Za rfl ?_ ?_); · first | omega | rfl | assumption | (simp only [lmT]; omega)) | refine Ri (Zt hm rfl rfl ?_) | exact Ri (Zj hm rfl rfl rfl (nbT rfl) rfl rfl))
 | refine Z1 rfl (tl hn rfl) ?_
 | refine Z6 (tl hn rfl) ?_
 | refine Z3 rfl rfl rfl rfl (nbT rfl) ?_
 | refine Rm Zu hn rfl rfl ?_
 | refine Rn ?_
 | refine Z2 30 Ym hn rfl (by kernel_rfl) rfl ?_
 | ((first | refine Zg hn rfl rfl rfl ?_ | refine Zm rfl rfl ?_); first
 | refine ⟨_, Zx rfl rfl (by omega), ?_⟩
 | refine ⟨_, Zb rfl rfl (by omega) (by assumption), ?_⟩
 | refine ⟨_, Z4 rfl rfl (by omega), ?_⟩
 | refine ⟨_, Zv rfl rfl rfl, ?_⟩
 | refine ⟨_, Z7 rfl rfl (by omega), ?_⟩
 | refine ⟨_, Zr rfl rfl rfl rfl rfl rfl, ?_⟩)
 | ((first | refine Zi rfl rfl rfl ?_ ?_ | refine Zh rfl rfl rfl ?_ ?_ | refine Zk rfl rfl rfl ?_ ?_ | refine Zl rfl rfl rfl ?_ ?_ | refine Zo rfl rfl rfl ?_ ?_ | refine Zn rfl rfl rfl ?_ ?_ | refine Zq rfl rfl rfl ?_ ?_ | refine Zs rfl rfl rfl ?_ ?_) <;> intro h <;> try (exfalso; first | omega | contradiction | (simp only [lmT] at h; omega))))
    refine next _ _ ⟨rfl, rfl, rfl, rfl, rfl, rfl, trivial⟩ hlt trivial ?_
    show prS d x v (ws.take (j + 1)).flatten = [_, _, _, Ob.mk _ _ _]
    rw [Wa, ← List.map_append, ← Jg hbs]
    rfl
  · obtain rfl : j = v.items.length := by omega
    have hwf : (ws.take v.items.length).flatten = ws.flatten := by rw [← hwl, List.take_length]
    rw [hwf]
    clear next
    rcases hout with ⟨k, rfl, hne⟩ | ⟨k, rfl⟩ | ⟨k, rfl⟩ | ⟨z, y, k, hz, hy, hz0, rfl, hne⟩ | ⟨z, y, k, hz, hy, hz0, rfl, hne⟩ | ⟨k, rfl⟩ | ⟨z, y, k, hz, hy, hz0, rfl, hne⟩ | ⟨k, rfl⟩ | ⟨s, k, hs, rfl⟩ | ⟨t0, k, hz, hwn, rfl⟩
    · have hE := Vl x v.number
      repeat' (first
 | refine U9 hE rfl (tl hn rfl) ?_
 | ((first | refine Zg hn rfl rfl rfl ?_ | refine Zm rfl rfl ?_); first
 | refine ⟨_, Z0 v.items.length rfl hni, ?_⟩
 | refine ⟨_, Z0 v.bytes.length rfl hnb, ?_⟩)
 | refine Rk Zu hn rfl ?_
 | refine Rl ?_
 | refine Zc 30 rfl ?_
 | (refine Rj 30 rfl ?_; first | refine Zp rfl ?_ | ((first | refine Zd rfl ?_ ?_ | refine Ze rfl ?_ ?_); · first | omega | rfl | assumption | (simp only [lmT]; omega)) | ((first | refine Zf rfl ?_ ?_ | refine Za rfl ?_ ?_); · first | omega | rfl | assumption | (simp only [lmT]; omega)) | refine Ri (Zt hm rfl rfl ?_) | exact Ri (Zj hm rfl rfl rfl (nbT rfl) rfl rfl))
 | refine Z1 rfl (tl hn rfl) ?_
 | refine Z6 (tl hn rfl) ?_
 | refine Z3 rfl rfl rfl rfl (nbT rfl) ?_
 | refine Rm Zu hn rfl rfl ?_
 | refine Rn ?_
 | refine Z2 30 Ym hn rfl (by kernel_rfl) rfl ?_
 | ((first | refine Zg hn rfl rfl rfl ?_ | refine Zm rfl rfl ?_); first
 | refine ⟨_, Zx rfl rfl (by omega), ?_⟩
 | refine ⟨_, Zb rfl rfl (by omega) (by assumption), ?_⟩
 | refine ⟨_, Z4 rfl rfl (by omega), ?_⟩
 | refine ⟨_, Zv rfl rfl rfl, ?_⟩
 | refine ⟨_, Z7 rfl rfl (by omega), ?_⟩
 | refine ⟨_, Zr rfl rfl rfl rfl rfl rfl, ?_⟩)
 | ((first | refine Zi rfl rfl rfl ?_ ?_ | refine Zh rfl rfl rfl ?_ ?_ | refine Zk rfl rfl rfl ?_ ?_ | refine Zl rfl rfl rfl ?_ ?_ | refine Zo rfl rfl rfl ?_ ?_ | refine Zn rfl rfl rfl ?_ ?_ | refine Zq rfl rfl rfl ?_ ?_ | refine Zs rfl rfl rfl ?_ ?_) <;> intro h <;> try (exfalso; first | omega | contradiction | (simp only [lmT] at h; omega))))
      exact Rj 30 rfl (Ri (Xd (rs := (Ln x v.number).map RV.u8) hm rfl rfl rfl rfl rfl))
    · have hbl : x.bytes.length ≤ 3 := (hD.lens hx').2.1
      repeat' (first
 | refine Xl (tl hn rfl) ?_
 | ((first | refine Zg hn rfl rfl rfl ?_ | refine Zm rfl rfl ?_); first
 | refine ⟨_, Z0 v.items.length rfl hni, ?_⟩
 | refine ⟨_, Z0 v.bytes.length rfl hnb, ?_⟩)
 | refine Rk Zu hn rfl ?_
 | refine Rl ?_
 | refine Zc 30 rfl ?_
 | (refine Rj 30 rfl ?_; first | refine Zp rfl ?_ | ((first | refine Zd rfl ?_ ?_ | refine Ze rfl ?_ ?_); · first | omega | rfl | assumption | (simp only [lmT]; omega)) | ((first | refine Zf rfl ?_ ?_ | refine Za rfl ?_ ?_); · first | omega | rfl | assumption | (simp only [lmT]; omega)) | refine Ri (Zt hm rfl rfl ?_) | exact Ri (Zj hm rfl rfl rfl (nbT rfl) rfl rfl))
 | refine Z1 rfl (tl hn rfl) ?_
 | refine Z6 (tl hn rfl) ?_
 | refine Z3 rfl rfl rfl rfl (nbT rfl) ?_
 | refine Rm Zu hn rfl rfl ?_
 | refine Rn ?_
 | refine Z2 30 Ym hn rfl (by kernel_rfl) rfl ?_
 | ((first | refine Zg hn rfl rfl rfl ?_ | refine Zm rfl rfl ?_); first
 | refine ⟨_, Zx rfl rfl (by omega), ?_⟩
 | refine ⟨_, Zb rfl rfl (by omega) (by assumption), ?_⟩
 | refine ⟨_, Z4 rfl rfl (by omega), ?_⟩
 | refine ⟨_, Zv rfl rfl rfl, ?_⟩
 | refine ⟨_, Z7 rfl rfl (by omega), ?_⟩
 | refine ⟨_, Zr rfl rfl rfl rfl rfl rfl, ?_⟩)
 | ((first | refine Zi rfl rfl rfl ?_ ?_ | refine Zh rfl rfl rfl ?_ ?_ | refine Zk rfl rfl rfl ?_ ?_ | refine Zl rfl rfl rfl ?_ ?_ | refine Zo rfl rfl rfl ?_ ?_ | refine Zn rfl rfl rfl ?_ ?_ | refine Zq rfl rfl rfl ?_ ?_ | refine Zs rfl rfl rfl ?_ ?_) <;> intro h <;> try (exfalso; first | omega | contradiction | (simp only [lmT] at h; omega))))
      refine Yr (t := 51) (i := 4) (n := 0) (rs := []) (els := (x.bytes).map fun z => [RV.u8 z]) rfl rfl rfl rfl rfl rfl rfl (FreeI.at_ (i := 4) ⟨by simp [AV.onlys, AV.only], by simp [AV.onlys, AV.only], Yi _ _, Yi _ _, by simp [AV.onlys], trivial⟩) (by simp only [lmT]; omega) (by simp only [lmT]; omega) (tl hn rfl) ?_
      repeat' (first
 | refine Rk Zu hn rfl ?_
 | refine Rl ?_
 | refine Zc 30 rfl ?_
 | (refine Rj 30 rfl ?_; first | refine Zp rfl ?_ | ((first | refine Zd rfl ?_ ?_ | refine Ze rfl ?_ ?_); · first | omega | rfl | assumption | (simp only [lmT]; omega)) | ((first | refine Zf rfl ?_ ?_ | refine Za rfl ?_ ?_); · first | omega | rfl | assumption | (simp only [lmT]; omega)) | refine Ri (Zt hm rfl rfl ?_) | exact Ri (Zj hm rfl rfl rfl (nbT rfl) rfl rfl))
 | refine Z1 rfl (tl hn rfl) ?_
 | refine Z6 (tl hn rfl) ?_
 | refine Z3 rfl rfl rfl rfl (nbT rfl) ?_
 | refine Rm Zu hn rfl rfl ?_
 | refine Rn ?_
 | refine Z2 30 Ym hn rfl (by kernel_rfl) rfl ?_
 | ((first | refine Zg hn rfl rfl rfl ?_ | refine Zm rfl rfl ?_); first
 | refine ⟨_, Zx rfl rfl (by omega), ?_⟩
 | refine ⟨_, Zb rfl rfl (by omega) (by assumption), ?_⟩
 | refine ⟨_, Z4 rfl rfl (by omega), ?_⟩
 | refine ⟨_, Zv rfl rfl rfl, ?_⟩
 | refine ⟨_, Z7 rfl rfl (by omega), ?_⟩
 | refine ⟨_, Zr rfl rfl rfl rfl rfl rfl, ?_⟩)
 | ((first | refine Zi rfl rfl rfl ?_ ?_ | refine Zh rfl rfl rfl ?_ ?_ | refine Zk rfl rfl rfl ?_ ?_ | refine Zl rfl rfl rfl ?_ ?_ | refine Zo rfl rfl rfl ?_ ?_ | refine Zn rfl rfl rfl ?_ ?_ | refine Zq rfl rfl rfl ?_ ?_ | refine Zs rfl rfl rfl ?_ ?_) <;> intro h <;> try (exfalso; first | omega | contradiction | (simp only [lmT] at h; omega))))
      refine Rj 30 rfl (Ri (Xd (rs := (x.bytes).map RV.u8) hm rfl rfl rfl ?_ rfl))
      show List.map AV.ro _ = List.map AV.ro _
      try generalize ws.flatten = wf
      simp [Wa]
    · repeat' (first
 | refine Xl (tl hn rfl) ?_
 | ((first | refine Zg hn rfl rfl rfl ?_ | refine Zm rfl rfl ?_); first
 | refine ⟨_, Z0 v.items.length rfl hni, ?_⟩
 | refine ⟨_, Z0 v.bytes.length rfl hnb, ?_⟩)
 | refine Rk Zu hn rfl ?_
 | refine Rl ?_
 | refine Zc 30 rfl ?_
 | (refine Rj 30 rfl ?_; first | refine Zp rfl ?_ | ((first | refine Zd rfl ?_ ?_ | refine Ze rfl ?_ ?_); · first | omega | rfl | assumption | (simp only [lmT]; omega)) | ((first | refine Zf rfl ?_ ?_ | refine Za rfl ?_ ?_); · first | omega | rfl | assumption | (simp only [lmT]; omega)) | refine Ri (Zt hm rfl rfl ?_) | exact Ri (Zj hm rfl rfl rfl (nbT rfl) rfl rfl))
 | refine Z1 rfl (tl hn rfl) ?_
 | refine Z6 (tl hn rfl) ?_
 | refine Z3 rfl rfl rfl rfl (nbT rfl) ?_
 | refine Rm Zu hn rfl rfl ?_
 | refine Rn ?_
 | refine Z2 30 Ym hn rfl (by kernel_rfl) rfl ?_
 | ((first | refine Zg hn rfl rfl rfl ?_ | refine Zm rfl rfl ?_); first
 | refine ⟨_, Zx rfl rfl (by omega), ?_⟩
 | refine ⟨_, Zb rfl rfl (by omega) (by assumption), ?_⟩
 | refine ⟨_, Z4 rfl rfl (by omega), ?_⟩
 | refine ⟨_, Zv rfl rfl rfl, ?_⟩
 | refine ⟨_, Z7 rfl rfl (by omega), ?_⟩
 | refine ⟨_, Zr rfl rfl rfl rfl rfl rfl, ?_⟩)
 | ((first | refine Zi rfl rfl rfl ?_ ?_ | refine Zh rfl rfl rfl ?_ ?_ | refine Zk rfl rfl rfl ?_ ?_ | refine Zl rfl rfl rfl ?_ ?_ | refine Zo rfl rfl rfl ?_ ?_ | refine Zn rfl rfl rfl ?_ ?_ | refine Zq rfl rfl rfl ?_ ?_ | refine Zs rfl rfl rfl ?_ ?_) <;> intro h <;> try (exfalso; first | omega | contradiction | (simp only [lmT] at h; omega))))
      refine Yr (t := 167) (i := 4) (n := 0) (rs := []) (els := (v.bytes).map fun z => [RV.u8 z]) rfl rfl rfl rfl rfl rfl rfl (FreeI.at_ (i := 4) ⟨by simp [AV.onlys, AV.only], by simp [AV.onlys, AV.only], Yi _ _, Yi _ _, by simp [AV.onlys], trivial⟩) (by simp only [lmT]; omega) (by simp only [lmT]; omega) (tl hn rfl) ?_
      repeat' (first
 | refine Rk Zu hn rfl ?_
 | refine Rl ?_
 | refine Zc 30 rfl ?_
 | (refine Rj 30 rfl ?_; first | refine Zp rfl ?_ | ((first | refine Zd rfl ?_ ?_ | refine Ze rfl ?_ ?_); · first | omega | rfl | assumption | (simp only [lmT]; omega)) | ((first | refine Zf rfl ?_ ?_ | refine Za rfl ?_ ?_); · first | omega | rfl | assumption | (simp only [lmT]; omega)) | refine Ri (Zt hm rfl rfl ?_) | exact Ri (Zj hm rfl rfl rfl (nbT rfl) rfl rfl))
 | refine Z1 rfl (tl hn rfl) ?_
 | refine Z6 (tl hn rfl) ?_
 | refine Z3 rfl rfl rfl rfl (nbT rfl) ?_
 | refine Rm Zu hn rfl rfl ?_
 | refine Rn ?_
 | refine Z2 30 Ym hn rfl (by kernel_rfl) rfl ?_
 | ((first | refine Zg hn rfl rfl rfl ?_ | refine Zm rfl rfl ?_); first
 | refine ⟨_, Zx rfl rfl (by omega), ?_⟩
 | refine ⟨_, Zb rfl rfl (by omega) (by assumption), ?_⟩
 | refine ⟨_, Z4 rfl rfl (by omega), ?_⟩
 | refine ⟨_, Zv rfl rfl rfl, ?_⟩
 | refine ⟨_, Z7 rfl rfl (by omega), ?_⟩
 | refine ⟨_, Zr rfl rfl rfl rfl rfl rfl, ?_⟩)
 | ((first | refine Zi rfl rfl rfl ?_ ?_ | refine Zh rfl rfl rfl ?_ ?_ | refine Zk rfl rfl rfl ?_ ?_ | refine Zl rfl rfl rfl ?_ ?_ | refine Zo rfl rfl rfl ?_ ?_ | refine Zn rfl rfl rfl ?_ ?_ | refine Zq rfl rfl rfl ?_ ?_ | refine Zs rfl rfl rfl ?_ ?_) <;> intro h <;> try (exfalso; first | omega | contradiction | (simp only [lmT] at h; omega))))
      refine Rj 30 rfl (Ri (Xd (rs := (v.bytes).map RV.u8) hm rfl rfl rfl ?_ rfl))
      show List.map AV.ro _ = List.map AV.ro _
      try generalize ws.flatten = wf
      simp [Wa]
    · have hE := Vl y v.bytes.length
      have hel := Ty y v.bytes.length
      repeat' (first
 | refine Kr (id := 13) 30 [] [0, 1, 2, 3, 4, 5, 6, 7, 8, 9, 10, 11, 12, 13] 14 [⟨11, none, 5, 1, (Ln y v.bytes.length).map RV.u8⟩] Ym hn rfl (by kernel_rfl) rfl rfl (by kernel_rfl) ?_
 | refine RunsU.made (t := 65) (p := 0) rfl rfl rfl rfl rfl (Hx hE (by simpa using hne) rfl) ?_
 | refine RunsU.pur (fun _ => Z0 v.items.length rfl hni) rfl (Xw rfl) rfl rfl ?_
 | refine RunsU.pur (fun _ => Z0 v.bytes.length rfl hnb) rfl (Xw rfl) rfl rfl ?_
 | refine RunsU.pur (fun _ => Zb rfl rfl (by omega) (by assumption)) rfl (Xw rfl) rfl rfl ?_
 | refine RunsU.step Zu rfl rfl (fun _ => rfl) rfl (Xw rfl) ?_
 | refine RunsU.nil ?_
 | ((first | refine Zg hn rfl rfl rfl ?_ | refine Zm rfl rfl ?_); first
 | refine ⟨_, Z0 v.items.length rfl hni, ?_⟩
 | refine ⟨_, Z0 v.bytes.length rfl hnb, ?_⟩)
 | refine Rk Zu hn rfl ?_
 | refine Rl ?_
 | refine Zc 30 rfl ?_
 | (refine Rj 30 rfl ?_; first | refine Zp rfl ?_ | ((first | refine Zd rfl ?_ ?_ | refine Ze rfl ?_ ?_); · first | omega | rfl | assumption | (simp only [lmT]; omega)) | ((first | refine Zf rfl ?_ ?_ | refine Za rfl ?_ ?_); · first | omega | rfl | assumption | (simp only [lmT]; omega)) | refine Ri (Zt hm rfl rfl ?_) | exact Ri (Zj hm rfl rfl rfl (nbT rfl) rfl rfl))
 | refine Z1 rfl (tl hn rfl) ?_
 | refine Z6 (tl hn rfl) ?_
 | refine Z3 rfl rfl rfl rfl (nbT rfl) ?_
 | refine Rm Zu hn rfl rfl ?_
 | refine Rn ?_
 | refine Z2 30 Ym hn rfl (by kernel_rfl) rfl ?_
 | ((first | refine Zg hn rfl rfl rfl ?_ | refine Zm rfl rfl ?_); first
 | refine ⟨_, Zx rfl rfl (by omega), ?_⟩
 | refine ⟨_, Zb rfl rfl (by omega) (by assumption), ?_⟩
 | refine ⟨_, Z4 rfl rfl (by omega), ?_⟩
 | refine ⟨_, Zv rfl rfl rfl, ?_⟩
 | refine ⟨_, Z7 rfl rfl (by omega), ?_⟩
 | refine ⟨_, Zr rfl rfl rfl rfl rfl rfl, ?_⟩)
 | ((first | refine Zi rfl rfl rfl ?_ ?_ | refine Zh rfl rfl rfl ?_ ?_ | refine Zk rfl rfl rfl ?_ ?_ | refine Zl rfl rfl rfl ?_ ?_ | refine Zo rfl rfl rfl ?_ ?_ | refine Zn rfl rfl rfl ?_ ?_ | refine Zq rfl rfl rfl ?_ ?_ | refine Zs rfl rfl rfl ?_ ?_) <;> intro h <;> try (exfalso; first | omega | contradiction | (simp only [lmT] at h; omega))))
      refine Yr (t := 68) (i := 4) (n := (Ln y v.bytes.length).length) (rs := (Ln y v.bytes.length).map RV.u8) (els := (v.bytes).map fun z => [RV.u8 z]) rfl rfl rfl rfl rfl rfl (by rw [lmT, Nat.mul_one]) (FreeI.at_ (i := 4) ⟨by simp [AV.onlys, AV.only], by simp [AV.onlys, AV.only], Yi _ _, Yi _ _, Yi _ _, trivial⟩) (by simp only [lmT]; omega) (by simp only [lmT]; omega) (tl hn rfl) ?_
      repeat' (first
 | refine Rk Zu hn rfl ?_
 | refine Rl ?_
 | refine Zc 30 rfl ?_
 | (refine Rj 30 rfl ?_; first | refine Zp rfl ?_ | ((first | refine Zd rfl ?_ ?_ | refine Ze rfl ?_ ?_); · first | omega | rfl | assumption | (simp only [lmT]; omega)) | ((first | refine Zf rfl ?_ ?_ | refine Za rfl ?_ ?_); · first | omega | rfl | assumption | (simp only [lmT]; omega)) | refine Ri (Zt hm rfl rfl ?_) | exact Ri (Zj hm rfl rfl rfl (nbT rfl) rfl rfl))
 | refine Z1 rfl (tl hn rfl) ?_
 | refine Z6 (tl hn rfl) ?_
 | refine Z3 rfl rfl rfl rfl (nbT rfl) ?_
 | refine Rm Zu hn rfl rfl ?_
 | refine Rn ?_
 | refine Z2 30 Ym hn rfl (by kernel_rfl) rfl ?_
 | ((first | refine Zg hn rfl rfl rfl ?_ | refine Zm rfl rfl ?_); first
 | refine ⟨_, Zx rfl rfl (by omega), ?_⟩
 | refine ⟨_, Zb rfl rfl (by omega) (by assumption), ?_⟩
 | refine ⟨_, Z4 rfl rfl (by omega), ?_⟩
 | refine ⟨_, Zv rfl rfl rfl, ?_⟩
 | refine ⟨_, Z7 rfl rfl (by omega), ?_⟩
 | refine ⟨_, Zr rfl rfl rfl rfl rfl rfl, ?_⟩)
 | ((first | refine Zi rfl rfl rfl ?_ ?_ | refine Zh rfl rfl rfl ?_ ?_ | refine Zk rfl rfl rfl ?_ ?_ | refine Zl rfl rfl rfl ?_ ?_ | refine Zo rfl rfl rfl ?_ ?_ | refine Zn rfl rfl rfl ?_ ?_ | refine Zq rfl rfl rfl ?_ ?_ | refine Zs rfl rfl rfl ?_ ?_) <;> intro h <;> try (exfalso; first | omega | contradiction | (simp only [lmT] at h; omega))))
      refine Rj 30 rfl (Ri (Xd (rs := (Ln y v.bytes.length ++ v.bytes).map RV.u8) hm rfl rfl rfl ?_ rfl))
      show List.map AV.ro _ = List.map AV.ro _
      try generalize ws.flatten = wf
      simp [Wa]
    · have hE := Vl y v.items.length
      have hel := Ty y v.items.length
      refine J2 3 8 (ws.flatten.map fun z => [RV.u8 z]) hm rfl rfl (by rw [Wa]) (fun x hx => by obtain ⟨y, _, rfl⟩ := List.mem_map.1 hx; rfl) (⟨by simp [AV.onlys, AV.only], by simp [AV.onlys, AV.only], Yi _ _, by simp [AV.onlys, AV.only], trivial⟩) ?_
      repeat' (first
 | refine Kr (id := 15) 30 [] [0, 1, 2, 3, 4, 5, 6, 7, 8, 9, 10, 11, 12] 13 [⟨11, none, 5, 1, (Ln y v.items.length).map RV.u8⟩] Ym hn rfl (by kernel_rfl) rfl rfl (by kernel_rfl) ?_
 | refine RunsU.made (t := 82) (p := 0) rfl rfl rfl rfl rfl (Hx hE (by simpa using hne) rfl) ?_
 | refine RunsU.pur (fun _ => Z0 v.items.length rfl hni) rfl (Xw rfl) rfl rfl ?_
 | refine RunsU.pur (fun _ => Z0 v.bytes.length rfl hnb) rfl (Xw rfl) rfl rfl ?_
 | refine RunsU.pur (fun _ => Zb rfl rfl (by omega) (by assumption)) rfl (Xw rfl) rfl rfl ?_
 | refine RunsU.step Zu rfl rfl (fun _ => rfl) rfl (Xw rfl) ?_
 | refine RunsU.nil ?_
 | ((first | refine Zg hn rfl rfl rfl ?_ | refine Zm rfl rfl ?_); first
 | refine ⟨_, Z0 v.items.length rfl hni, ?_⟩
 | refine ⟨_, Z0 v.bytes.length rfl hnb, ?_⟩)
 | refine Rk Zu hn rfl ?_
 | refine Rl ?_
 | refine Zc 30 rfl ?_
 | (refine Rj 30 rfl ?_; first | refine Zp rfl ?_ | ((first | refine Zd rfl ?_ ?_ | refine Ze rfl ?_ ?_); · first | omega | rfl | assumption | (simp only [lmT]; omega)) | ((first | refine Zf rfl ?_ ?_ | refine Za rfl ?_ ?_); · first | omega | rfl | assumption | (simp only [lmT]; omega)) | refine Ri (Zt hm rfl rfl ?_) | exact Ri (Zj hm rfl rfl rfl (nbT rfl) rfl rfl))
 | refine Z1 rfl (tl hn rfl) ?_
 | refine Z6 (tl hn rfl) ?_
 | refine Z3 rfl rfl rfl rfl (nbT rfl) ?_
 | refine Rm Zu hn rfl rfl ?_
 | refine Rn ?_
 | refine Z2 30 Ym hn rfl (by kernel_rfl) rfl ?_
 | ((first | refine Zg hn rfl rfl rfl ?_ | refine Zm rfl rfl ?_); first
 | refine ⟨_, Zx rfl rfl (by omega), ?_⟩
 | refine ⟨_, Zb rfl rfl (by omega) (by assumption), ?_⟩
 | refine ⟨_, Z4 rfl rfl (by omega), ?_⟩
 | refine ⟨_, Zv rfl rfl rfl, ?_⟩
 | refine ⟨_, Z7 rfl rfl (by omega), ?_⟩
 | refine ⟨_, Zr rfl rfl rfl rfl rfl rfl, ?_⟩)
 | ((first | refine Zi rfl rfl rfl ?_ ?_ | refine Zh rfl rfl rfl ?_ ?_ | refine Zk rfl rfl rfl ?_ ?_ | refine Zl rfl rfl rfl ?_ ?_ | refine Zo rfl rfl rfl ?_ ?_ | refine Zn rfl rfl rfl ?_ ?_ | refine Zq rfl rfl rfl ?_ ?_ | refine Zs rfl rfl rfl ?_ ?_) <;> intro h <;> try (exfalso; first | omega | contradiction | (simp only [lmT] at h; omega))))
      refine Yr (t := 84) (i := 4) (n := (Ln y v.items.length).length) (rs := (Ln y v.items.length).map RV.u8) (els := (ws.flatten).map fun z => [RV.u8 z]) rfl rfl rfl rfl rfl rfl (by rw [lmT, Nat.mul_one]) (FreeI.at_ (i := 4) ⟨by simp [AV.onlys, AV.only], by simp [AV.onlys, AV.only], Yi _ _, by simp [AV.onlys, AV.only], Yi _ _, trivial⟩) (by simp only [lmT]; omega) (by simp only [lmT]; omega) (tl hn rfl) ?_
      repeat' (first
 | refine Rk Zu hn rfl ?_
 | refine Rl ?_
 | refine Zc 30 rfl ?_
 | (refine Rj 30 rfl ?_; first | refine Zp rfl ?_ | ((first | refine Zd rfl ?_ ?_ | refine Ze rfl ?_ ?_); · first | omega | rfl | assumption | (simp only [lmT]; omega)) | ((first | refine Zf rfl ?_ ?_ | refine Za rfl ?_ ?_); · first | omega | rfl | assumption | (simp only [lmT]; omega)) | refine Ri (Zt hm rfl rfl ?_) | exact Ri (Zj hm rfl rfl rfl (nbT rfl) rfl rfl))
 | refine Z1 rfl (tl hn rfl) ?_
 | refine Z6 (tl hn rfl) ?_
 | refine Z3 rfl rfl rfl rfl (nbT rfl) ?_
 | refine Rm Zu hn rfl rfl ?_
 | refine Rn ?_
 | refine Z2 30 Ym hn rfl (by kernel_rfl) rfl ?_
 | ((first | refine Zg hn rfl rfl rfl ?_ | refine Zm rfl rfl ?_); first
 | refine ⟨_, Zx rfl rfl (by omega), ?_⟩
 | refine ⟨_, Zb rfl rfl (by omega) (by assumption), ?_⟩
 | refine ⟨_, Z4 rfl rfl (by omega), ?_⟩
 | refine ⟨_, Zv rfl rfl rfl, ?_⟩
 | refine ⟨_, Z7 rfl rfl (by omega), ?_⟩
 | refine ⟨_, Zr rfl rfl rfl rfl rfl rfl, ?_⟩)
 | ((first | refine Zi rfl rfl rfl ?_ ?_ | refine Zh rfl rfl rfl ?_ ?_ | refine Zk rfl rfl rfl ?_ ?_ | refine Zl rfl rfl rfl ?_ ?_ | refine Zo rfl rfl rfl ?_ ?_ | refine Zn rfl rfl rfl ?_ ?_ | refine Zq rfl rfl rfl ?_ ?_ | refine Zs rfl rfl rfl ?_ ?_) <;> intro h <;> try (exfalso; first | omega | contradiction | (simp only [lmT] at h; omega))))
      refine Rj 30 rfl (Ri (Xd (rs := (Ln y v.items.length ++ ws.flatten).map RV.u8) hm rfl rfl rfl ?_ rfl))
      show List.map AV.ro _ = List.map AV.ro _
      try generalize ws.flatten = wf
      simp [Wa]
    · repeat' (first
 | ((first | refine Zg hn rfl rfl rfl ?_ | refine Zm rfl rfl ?_); first
 | refine ⟨_, Z0 v.items.length rfl hni, ?_⟩
 | refine ⟨_, Z0 v.bytes.length rfl hnb, ?_⟩)
 | refine Rk Zu hn rfl ?_
 | refine Rl ?_
 | refine Zc 30 rfl ?_
 | (refine Rj 30 rfl ?_; first | refine Zp rfl ?_ | ((first | refine Zd rfl ?_ ?_ | refine Ze rfl ?_ ?_); · first | omega | rfl | assumption | (simp only [lmT]; omega)) | ((first | refine Zf rfl ?_ ?_ | refine Za rfl ?_ ?_); · first | omega | rfl | assumption | (simp only [lmT]; omega)) | refine Ri (Zt hm rfl rfl ?_) | exact Ri (Zj hm rfl rfl rfl (nbT rfl) rfl rfl))
 | refine Z1 rfl (tl hn rfl) ?_
 | refine Z6 (tl hn rfl) ?_
 | refine Z3 rfl rfl rfl rfl (nbT rfl) ?_
 | refine Rm Zu hn rfl rfl ?_
 | refine Rn ?_
 | refine Z2 30 Ym hn rfl (by kernel_rfl) rfl ?_
 | ((first | refine Zg hn rfl rfl rfl ?_ | refine Zm rfl rfl ?_); first
 | refine ⟨_, Zx rfl rfl (by omega), ?_⟩
 | refine ⟨_, Zb rfl rfl (by omega) (by assumption), ?_⟩
 | refine ⟨_, Z4 rfl rfl (by omega), ?_⟩
 | refine ⟨_, Zv rfl rfl rfl, ?_⟩
 | refine ⟨_, Z7 rfl rfl (by omega), ?_⟩
 | refine ⟨_, Zr rfl rfl rfl rfl rfl rfl, ?_⟩)
 | ((first | refine Zi rfl rfl rfl ?_ ?_ | refine Zh rfl rfl rfl ?_ ?_ | refine Zk rfl rfl rfl ?_ ?_ | refine Zl rfl rfl rfl ?_ ?_ | refine Zo rfl rfl rfl ?_ ?_ | refine Zn rfl rfl rfl ?_ ?_ | refine Zq rfl rfl rfl ?_ ?_ | refine Zs rfl rfl rfl ?_ ?_) <;> intro h <;> try (exfalso; first | omega | contradiction | (simp only [lmT] at h; omega))))
      exact Rj 30 rfl (Ri (Xd (rs := (ws.flatten).map RV.u8) hm rfl rfl rfl rfl rfl))
    · have hE := Vl y v.number
      have hel := Ty y v.number
      refine J2 3 8 (ws.flatten.map fun z => [RV.u8 z]) hm rfl rfl (by rw [Wa]) (fun x hx => by obtain ⟨y, _, rfl⟩ := List.mem_map.1 hx; rfl) (⟨by simp [AV.onlys, AV.only], by simp [AV.onlys, AV.only], Yi _ _, by simp [AV.onlys, AV.only], trivial⟩) ?_
      repeat' (first
 | refine Kr (id := 17) 30 [] [0, 1, 2, 3, 4, 5, 6, 7, 8, 9, 10, 11] 12 [⟨10, none, 5, 1, (Ln y v.number).map RV.u8⟩] Ym hn rfl (by kernel_rfl) rfl rfl (by kernel_rfl) ?_
 | refine RunsU.made (t := 97) (p := 0) rfl rfl rfl rfl rfl (Hx hE (by simpa using hne) rfl) ?_
 | refine RunsU.pur (fun _ => Z0 v.items.length rfl hni) rfl (Xw rfl) rfl rfl ?_
 | refine RunsU.pur (fun _ => Z0 v.bytes.length rfl hnb) rfl (Xw rfl) rfl rfl ?_
 | refine RunsU.pur (fun _ => Zb rfl rfl (by omega) (by assumption)) rfl (Xw rfl) rfl rfl ?_
 | refine RunsU.step Zu rfl rfl (fun _ => rfl) rfl (Xw rfl) ?_
 | refine RunsU.nil ?_
 | ((first | refine Zg hn rfl rfl rfl ?_ | refine Zm rfl rfl ?_); first
 | refine ⟨_, Z0 v.items.length rfl hni, ?_⟩
 | refine ⟨_, Z0 v.bytes.length rfl hnb, ?_⟩)
 | refine Rk Zu hn rfl ?_
 | refine Rl ?_
 | refine Zc 30 rfl ?_
 | (refine Rj 30 rfl ?_; first | refine Zp rfl ?_ | ((first | refine Zd rfl ?_ ?_ | refine Ze rfl ?_ ?_); · first | omega | rfl | assumption | (simp only [lmT]; omega)) | ((first | refine Zf rfl ?_ ?_ | refine Za rfl ?_ ?_); · first | omega | rfl | assumption | (simp only [lmT]; omega)) | refine Ri (Zt hm rfl rfl ?_) | exact Ri (Zj hm rfl rfl rfl (nbT rfl) rfl rfl))
 | refine Z1 rfl (tl hn rfl) ?_
 | refine Z6 (tl hn rfl) ?_
 | refine Z3 rfl rfl rfl rfl (nbT rfl) ?_
 | refine Rm Zu hn rfl rfl ?_
 | refine Rn ?_
 | refine Z2 30 Ym hn rfl (by kernel_rfl) rfl ?_
 | ((first | refine Zg hn rfl rfl rfl ?_ | refine Zm rfl rfl ?_); first
 | refine ⟨_, Zx rfl rfl (by omega), ?_⟩
 | refine ⟨_, Zb rfl rfl (by omega) (by assumption), ?_⟩
 | refine ⟨_, Z4 rfl rfl (by omega), ?_⟩
 | refine ⟨_, Zv rfl rfl rfl, ?_⟩
 | refine ⟨_, Z7 rfl rfl (by omega), ?_⟩
 | refine ⟨_, Zr rfl rfl rfl rfl rfl rfl, ?_⟩)
 | ((first | refine Zi rfl rfl rfl ?_ ?_ | refine Zh rfl rfl rfl ?_ ?_ | refine Zk rfl rfl rfl ?_ ?_ | refine Zl rfl rfl rfl ?_ ?_ | refine Zo rfl rfl rfl ?_ ?_ | refine Zn rfl rfl rfl ?_ ?_ | refine Zq rfl rfl rfl ?_ ?_ | refine Zs rfl rfl rfl ?_ ?_) <;> intro h <;> try (exfalso; first | omega | contradiction | (simp only [lmT] at h; omega))))
      refine Yr (t := 99) (i := 4) (n := (Ln y v.number).length) (rs := (Ln y v.number).map RV.u8) (els := (ws.flatten).map fun z => [RV.u8 z]) rfl rfl rfl rfl rfl rfl (by rw [lmT, Nat.mul_one]) (FreeI.at_ (i := 4) ⟨by simp [AV.onlys, AV.only], by simp [AV.onlys, AV.only], Yi _ _, by simp [AV.onlys, AV.only], Yi _ _, trivial⟩) (by simp only [lmT]; omega) (by simp only [lmT]; omega) (tl hn rfl) ?_
      repeat' (first
 | refine Rk Zu hn rfl ?_
 | refine Rl ?_
 | refine Zc 30 rfl ?_
 | (refine Rj 30 rfl ?_; first | refine Zp rfl ?_ | ((first | refine Zd rfl ?_ ?_ | refine Ze rfl ?_ ?_); · first | omega | rfl | assumption | (simp only [lmT]; omega)) | ((first | refine Zf rfl ?_ ?_ | refine Za rfl ?_ ?_); · first | omega | rfl | assumption | (simp only [lmT]; omega)) | refine Ri (Zt hm rfl rfl ?_) | exact Ri (Zj hm rfl rfl rfl (nbT rfl) rfl rfl))
 | refine Z1 rfl (tl hn rfl) ?_
 | refine Z6 (tl hn rfl) ?_
 | refine Z3 rfl rfl rfl rfl (nbT rfl) ?_
 | refine Rm Zu hn rfl rfl ?_
 | refine Rn ?_
 | refine Z2 30 Ym hn rfl (by kernel_rfl) rfl ?_
 | ((first | refine Zg hn rfl rfl rfl ?_ | refine Zm rfl rfl ?_); first
 | refine ⟨_, Zx rfl rfl (by omega), ?_⟩
 | refine ⟨_, Zb rfl rfl (by omega) (by assumption), ?_⟩
 | refine ⟨_, Z4 rfl rfl (by omega), ?_⟩
 | refine ⟨_, Zv rfl rfl rfl, ?_⟩
 | refine ⟨_, Z7 rfl rfl (by omega), ?_⟩
 | refine ⟨_, Zr rfl rfl rfl rfl rfl rfl, ?_⟩)
 | ((first | refine Zi rfl rfl rfl ?_ ?_ | refine Zh rfl rfl rfl ?_ ?_ | refine Zk rfl rfl rfl ?_ ?_ | refine Zl rfl rfl rfl ?_ ?_ | refine Zo rfl rfl rfl ?_ ?_ | refine Zn rfl rfl rfl ?_ ?_ | refine Zq rfl rfl rfl ?_ ?_ | refine Zs rfl rfl rfl ?_ ?_) <;> intro h <;> try (exfalso; first | omega | contradiction | (simp only [lmT] at h; omega))))
      refine Rj 30 rfl (Ri (Xd (rs := (Ln y v.number ++ ws.flatten).map RV.u8) hm rfl rfl rfl ?_ rfl))
      show List.map AV.ro _ = List.map AV.ro _
      try generalize ws.flatten = wf
      simp [Wa]
    · refine J2 3 8 (ws.flatten.map fun z => [RV.u8 z]) hm rfl rfl (by rw [Wa]) (fun x hx => by obtain ⟨y, _, rfl⟩ := List.mem_map.1 hx; rfl) (⟨by simp [AV.onlys, AV.only], by simp [AV.onlys, AV.only], Yi _ _, by simp [AV.onlys, AV.only], trivial⟩) ?_
      repeat' (first
 | refine V0 (t := 106) rfl rfl rfl rfl rfl (tl hn rfl) ?_
 | ((first | refine Zg hn rfl rfl rfl ?_ | refine Zm rfl rfl ?_); first
 | refine ⟨_, Z0 v.items.length rfl hni, ?_⟩
 | refine ⟨_, Z0 v.bytes.length rfl hnb, ?_⟩
 | refine ⟨_, U2 rfl, ?_⟩)
 | refine Rk Zu hn rfl ?_
 | refine Rl ?_
 | refine Zc 30 rfl ?_
 | (refine Rj 30 rfl ?_; first | refine Zp rfl ?_ | ((first | refine Zd rfl ?_ ?_ | refine Ze rfl ?_ ?_); · first | omega | rfl | assumption | (simp only [lmT]; omega)) | ((first | refine Zf rfl ?_ ?_ | refine Za rfl ?_ ?_); · first | omega | rfl | assumption | (simp only [lmT]; omega)) | refine Ri (Zt hm rfl rfl ?_) | exact Ri (Zj hm rfl rfl rfl (nbT rfl) rfl rfl))
 | refine Z1 rfl (tl hn rfl) ?_
 | refine Z6 (tl hn rfl) ?_
 | refine Z3 rfl rfl rfl rfl (nbT rfl) ?_
 | refine Rm Zu hn rfl rfl ?_
 | refine Rn ?_
 | refine Z2 30 Ym hn rfl (by kernel_rfl) rfl ?_
 | ((first | refine Zg hn rfl rfl rfl ?_ | refine Zm rfl rfl ?_); first
 | refine ⟨_, Zx rfl rfl (by omega), ?_⟩
 | refine ⟨_, Zb rfl rfl (by omega) (by assumption), ?_⟩
 | refine ⟨_, Z4 rfl rfl (by omega), ?_⟩
 | refine ⟨_, Zv rfl rfl rfl, ?_⟩
 | refine ⟨_, Z7 rfl rfl (by omega), ?_⟩
 | refine ⟨_, Zr rfl rfl rfl rfl rfl rfl, ?_⟩)
 | ((first | refine Zi rfl rfl rfl ?_ ?_ | refine Zh rfl rfl rfl ?_ ?_ | refine Zk rfl rfl rfl ?_ ?_ | refine Zl rfl rfl rfl ?_ ?_ | refine Zo rfl rfl rfl ?_ ?_ | refine Zn rfl rfl rfl ?_ ?_ | refine Zq rfl rfl rfl ?_ ?_ | refine Zs rfl rfl rfl ?_ ?_) <;> intro h <;> try (exfalso; first | omega | contradiction | (simp only [lmT] at h; omega))))
      refine Yr (t := 108) (i := 4) (n := 1) (rs := [RV.u8 (u8i v.items.length)]) (els := (ws.flatten).map fun z => [RV.u8 z]) rfl rfl rfl rfl rfl rfl rfl (FreeI.at_ (i := 4) ⟨by simp [AV.onlys, AV.only], by simp [AV.onlys, AV.only], Yi _ _, by simp [AV.onlys, AV.only], by simp [AV.onlys, AV.only], trivial⟩) (by simp only [lmT]; omega) (by simp only [lmT]; omega) (tl hn rfl) ?_
      repeat' (first
 | refine Rk Zu hn rfl ?_
 | refine Rl ?_
 | refine Zc 30 rfl ?_
 | (refine Rj 30 rfl ?_; first | refine Zp rfl ?_ | ((first | refine Zd rfl ?_ ?_ | refine Ze rfl ?_ ?_); · first | omega | rfl | assumption | (simp only [lmT]; omega)) | ((first | refine Zf rfl ?_ ?_ | refine Za rfl ?_ ?_); · first | omega | rfl | assumption | (simp only [lmT]; omega)) | refine Ri (Zt hm rfl rfl ?_) | exact Ri (Zj hm rfl rfl rfl (nbT rfl) rfl rfl))
 | refine Z1 rfl (tl hn rfl) ?_
 | refine Z6 (tl hn rfl) ?_
 | refine Z3 rfl rfl rfl rfl (nbT rfl) ?_
 | refine Rm Zu hn rfl rfl ?_
 | refine Rn ?_
 | refine Z2 30 Ym hn rfl (by kernel_rfl) rfl ?_
 | ((first | refine Zg hn rfl rfl rfl ?_ | refine Zm rfl rfl ?_); first
 | refine ⟨_, Zx rfl rfl (by omega), ?_⟩
 | refine ⟨_, Zb rfl rfl (by omega) (by assumption), ?_⟩
 | refine ⟨_, Z4 rfl rfl (by omega), ?_⟩
 | refine ⟨_, Zv rfl rfl rfl, ?_⟩
 | refine ⟨_, Z7 rfl rfl (by omega), ?_⟩
 | refine ⟨_, Zr rfl rfl rfl rfl rfl rfl, ?_⟩)
 | ((first | refine Zi rfl rfl rfl ?_ ?_ | refine Zh rfl rfl rfl ?_ ?_ | refine Zk rfl rfl rfl ?_ ?_ | refine Zl rfl rfl rfl ?_ ?_ | refine Zo rfl rfl rfl ?_ ?_ | refine Zn rfl rfl rfl ?_ ?_ | refine Zq rfl rfl rfl ?_ ?_ | refine Zs rfl rfl rfl ?_ ?_) <;> intro h <;> try (exfalso; first | omega | contradiction | (simp only [lmT] at h; omega))))
      refine Rj 30 rfl (Ri (Xd (rs := (u8i v.items.length :: ws.flatten).map RV.u8) hm rfl rfl rfl ?_ rfl))
      show List.map AV.ro _ = List.map AV.ro _
      try generalize ws.flatten = wf
      simp [Wa]
    · have hlend : ∀ C : Ctx, Lends C (prS d x v ws.flatten) (.own 3) (Yz ws.flatten) := fun C => Lends.own (i := 3) (o := ⟨5, 1, (ws.flatten.map RV.u8).map .ro⟩) (els := ws.flatten.map fun z => [RV.u8 z]) rfl (by rw [Wa]) (fun x hx => by obtain ⟨y, _, rfl⟩ := List.mem_map.1 hx; rfl)
      repeat' (first
 | ((first | refine Zg hn rfl rfl rfl ?_ | refine Zm rfl rfl ?_); first
 | refine ⟨_, Z0 v.items.length rfl hni, ?_⟩
 | refine ⟨_, Z0 v.bytes.length rfl hnb, ?_⟩
 | refine ⟨_, M2 hs (.cons (hlend C) .nil), ?_⟩
 | refine ⟨_, U2 rfl, ?_⟩)
 | refine Rk Zu hn rfl ?_
 | refine Rl ?_
 | refine Zc 30 rfl ?_
 | ((first | refine Zg hn rfl rfl rfl ?_ | refine Zm rfl rfl ?_); first
 | refine ⟨_, Zr rfl rfl rfl rfl rfl rfl, ?_⟩)
 | (refine Rj 30 rfl ?_; first | refine Zp rfl ?_ | ((first | refine Zd rfl ?_ ?_ | refine Ze rfl ?_ ?_); · first | omega | rfl | assumption | (simp only [lmT]; omega)) | ((first | refine Zf rfl ?_ ?_ | refine Za rfl ?_ ?_); · first | omega | rfl | assumption | (simp only [lmT]; omega)) | refine Ri (Zt hm rfl rfl ?_) | exact Ri (Zj hm rfl rfl rfl (nbT rfl) rfl rfl))
 | refine Z1 rfl (tl hn rfl) ?_
 | refine Z6 (tl hn rfl) ?_
 | refine Z3 rfl rfl rfl rfl (nbT rfl) ?_
 | refine Rm Zu hn rfl rfl ?_
 | refine Rn ?_
 | refine Z2 30 Ym hn rfl (by kernel_rfl) rfl ?_
 | ((first | refine Zg hn rfl rfl rfl ?_ | refine Zm rfl rfl ?_); first
 | refine ⟨_, Zx rfl rfl (by omega), ?_⟩
 | refine ⟨_, Zb rfl rfl (by omega) (by assumption), ?_⟩
 | refine ⟨_, Z4 rfl rfl (by omega), ?_⟩
 | refine ⟨_, Zv rfl rfl rfl, ?_⟩
 | refine ⟨_, Z7 rfl rfl (by omega), ?_⟩
 | refine ⟨_, Zr rfl rfl rfl rfl rfl rfl, ?_⟩)
 | ((first | refine Zi rfl rfl rfl ?_ ?_ | refine Zh rfl rfl rfl ?_ ?_ | refine Zk rfl rfl rfl ?_ ?_ | refine Zl rfl rfl rfl ?_ ?_ | refine Zo rfl rfl rfl ?_ ?_ | refine Zn rfl rfl rfl ?_ ?_ | refine Zq rfl rfl rfl ?_ ?_ | refine Zs rfl rfl rfl ?_ ?_) <;> intro h <;> try (exfalso; first | omega | contradiction | (simp only [lmT] at h; omega))))
      refine Yr (t := 116) (i := 3) (n := ws.flatten.length) (rs := ws.flatten.map RV.u8) (els := [[RV.u8 (u8i s)]]) rfl rfl rfl rfl rfl rfl (by rw [lmT, Nat.mul_one]) (FreeI.at_ (i := 3) ⟨by simp [AV.onlys, AV.only], by simp [AV.onlys, AV.only], Yi _ _, Yi _ _, trivial⟩) (by simp only [Rb, Rc]; omega) (by simp only [Rb, Rc]; omega) (tl hn rfl) ?_
      repeat' (first
 | refine Rk Zu hn rfl ?_
 | refine Rl ?_
 | refine Zc 30 rfl ?_
 | (refine Rj 30 rfl ?_; first | refine Zp rfl ?_ | ((first | refine Zd rfl ?_ ?_ | refine Ze rfl ?_ ?_); · first | omega | rfl | assumption | (simp only [lmT]; omega)) | ((first | refine Zf rfl ?_ ?_ | refine Za rfl ?_ ?_); · first | omega | rfl | assumption | (simp only [lmT]; omega)) | refine Ri (Zt hm rfl rfl ?_) | exact Ri (Zj hm rfl rfl rfl (nbT rfl) rfl rfl))
 | refine Z1 rfl (tl hn rfl) ?_
 | refine Z6 (tl hn rfl) ?_
 | refine Z3 rfl rfl rfl rfl (nbT rfl) ?_
 | refine Rm Zu hn rfl rfl ?_
 | refine Rn ?_
 | refine Z2 30 Ym hn rfl (by kernel_rfl) rfl ?_
 | ((first | refine Zg hn rfl rfl rfl ?_ | refine Zm rfl rfl ?_); first
 | refine ⟨_, Zx rfl rfl (by omega), ?_⟩
 | refine ⟨_, Zb rfl rfl (by omega) (by assumption), ?_⟩
 | refine ⟨_, Z4 rfl rfl (by omega), ?_⟩
 | refine ⟨_, Zv rfl rfl rfl, ?_⟩
 | refine ⟨_, Z7 rfl rfl (by omega), ?_⟩
 | refine ⟨_, Zr rfl rfl rfl rfl rfl rfl, ?_⟩)
 | ((first | refine Zi rfl rfl rfl ?_ ?_ | refine Zh rfl rfl rfl ?_ ?_ | refine Zk rfl rfl rfl ?_ ?_ | refine Zl rfl rfl rfl ?_ ?_ | refine Zo rfl rfl rfl ?_ ?_ | refine Zn rfl rfl rfl ?_ ?_ | refine Zq rfl rfl rfl ?_ ?_ | refine Zs rfl rfl rfl ?_ ?_) <;> intro h <;> try (exfalso; first | omega | contradiction | (simp only [lmT] at h; omega))))
      refine Rj 30 rfl (Ri (Xd (rs := (ws.flatten ++ [u8i s]).map RV.u8) hm rfl rfl rfl ?_ rfl))
      show List.map AV.ro _ = List.map AV.ro _
      try generalize ws.flatten = wf
      simp [Wa]
    · rw [hwn]
      repeat' (first
 | ((first | refine Zg hn rfl rfl rfl ?_ | refine Zm rfl rfl ?_); first
 | refine ⟨_, Z0 v.items.length rfl hni, ?_⟩
 | refine ⟨_, Z0 v.bytes.length rfl hnb, ?_⟩)
 | refine Rk Zu hn rfl ?_
 | refine Rl ?_
 | refine Zc 30 rfl ?_
 | (refine Rj 30 rfl ?_; first | refine Zp rfl ?_ | ((first | refine Zd rfl ?_ ?_ | refine Ze rfl ?_ ?_); · first | omega | rfl | assumption | (simp only [lmT]; omega)) | ((first | refine Zf rfl ?_ ?_ | refine Za rfl ?_ ?_); · first | omega | rfl | assumption | (simp only [lmT]; omega)) | refine Ri (Zt hm rfl rfl ?_) | exact Ri (Zj hm rfl rfl rfl (nbT rfl) rfl rfl))
 | refine Z1 rfl (tl hn rfl) ?_
 | refine Z6 (tl hn rfl) ?_
 | refine Z3 rfl rfl rfl rfl (nbT rfl) ?_
 | refine Rm Zu hn rfl rfl ?_
 | refine Rn ?_
 | refine Z2 30 Ym hn rfl (by kernel_rfl) rfl ?_
 | ((first | refine Zg hn rfl rfl rfl ?_ | refine Zm rfl rfl ?_); first
 | refine ⟨_, Zx rfl rfl (by omega), ?_⟩
 | refine ⟨_, Zb rfl rfl (by omega) (by assumption), ?_⟩
 | refine ⟨_, Z4 rfl rfl (by omega), ?_⟩
 | refine ⟨_, Zv rfl rfl rfl, ?_⟩
 | refine ⟨_, Z7 rfl rfl (by omega), ?_⟩
 | refine ⟨_, Zr rfl rfl rfl rfl rfl rfl, ?_⟩)
 | ((first | refine Zi rfl rfl rfl ?_ ?_ | refine Zh rfl rfl rfl ?_ ?_ | refine Zk rfl rfl rfl ?_ ?_ | refine Zl rfl rfl rfl ?_ ?_ | refine Zo rfl rfl rfl ?_ ?_ | refine Zn rfl rfl rfl ?_ ?_ | refine Zq rfl rfl rfl ?_ ?_ | refine Zs rfl rfl rfl ?_ ?_) <;> intro h <;> try (exfalso; first | omega | contradiction | (simp only [lmT] at h; omega))))
      refine Yw 30 rfl (fun j => [(5, .obj 1 0), (7, .obj 2 0), (8, .own 3), (10, .int (j : Int))]) (fun j => prS d x v (Mz t0 (v.bytes.take j))) (fun _ => True) v.bytes.length 0 (Nat.zero_le _) trivial ⟨rfl, rfl, rfl, rfl, trivial⟩ rfl fun j hj _ next => ?_
      by_cases hlt : j < v.bytes.length
      · obtain ⟨c, hc⟩ : ∃ c, v.bytes[(j : Int).toNat]? = some c := ⟨_, P9 hlt⟩
        have hc' : v.bytes[j]? = some c := hc
        have hel := Bs t0 (v.bytes.take j)
        have htl : (v.bytes.take j).length ≤ j := by rw [List.length_take]; omega
        have hcl := c.toNat_lt
        by_cases h1 : c = t0
        · have h1' : (c.toNat : Int) = t0.toNat := by rw [h1]
          repeat' (first
 | refine Yr (t := 146) (i := 3) (n := (Mz t0 (v.bytes.take j)).length) (rs := (Mz t0 (v.bytes.take j)).map RV.u8) (els := [[RV.u8 92]]) rfl rfl rfl rfl rfl rfl (by rw [lmT, Nat.mul_one]) (FreeI.at_ (i := 3) ⟨by simp [AV.onlys, AV.only], by simp [AV.onlys, AV.only], Yi _ _, Yi _ _, trivial⟩) (by simp only [Rb, Rc]; omega) (by simp only [Rb, Rc]; omega) (tl hn rfl) ?_
 | refine Yr (t := 154) (i := 3) (n := (Mz t0 (v.bytes.take j)).length + 1) (rs := (Mz t0 (v.bytes.take j)).map RV.u8 ++ [RV.u8 92]) (els := [[RV.u8 c]]) rfl rfl rfl rfl rfl rfl (by simp) (FreeI.at_ (i := 3) ⟨by simp [AV.onlys, AV.only], by simp [AV.onlys, AV.only], Yi _ _, Yi _ _, trivial⟩) (by simp only [Rb, Rc]; omega) (by simp only [Rb, Rc]; omega) (tl hn rfl) ?_
 | ((first | refine Zg hn rfl rfl rfl ?_ | refine Zm rfl rfl ?_); first
 | refine ⟨_, Z0 v.items.length rfl hni, ?_⟩
 | refine ⟨_, Z0 v.bytes.length rfl hnb, ?_⟩)
 | refine Rk Zu hn rfl ?_
 | refine Rl ?_
 | refine Zc 30 rfl ?_
 | ((first | refine Zg hn rfl rfl rfl ?_ | refine Zm rfl rfl ?_); first
 | refine ⟨_, Zr rfl rfl rfl rfl rfl rfl, ?_⟩)
 | (refine Rj 30 rfl ?_; first | refine Zp rfl ?_ | ((first | refine Zd rfl ?_ ?_ | refine Ze rfl ?_ ?_); · first | omega | rfl | assumption | (simp only [lmT]; omega)) | ((first | refine Zf rfl ?_ ?_ | refine Za rfl ?_ ?_); · first | omega | rfl | assumption | (simp only [lmT]; omega)) | refine Ri (Zt hm rfl rfl ?_) | exact Ri (Zj hm rfl rfl rfl (nbT rfl) rfl rfl))
 | refine Z1 rfl (tl hn rfl) ?_
 | refine Z6 (tl hn rfl) ?_
 | refine Z3 rfl rfl rfl rfl (nbT rfl) ?_
 | refine Rm Zu hn rfl rfl ?_
 | refine Rn ?_
 | refine Z2 30 Ym hn rfl (by kernel_rfl) rfl ?_
 | ((first | refine Zg hn rfl rfl rfl ?_ | refine Zm rfl rfl ?_); first
 | refine ⟨_, Zx rfl rfl (by omega), ?_⟩
 | refine ⟨_, Zb rfl rfl (by omega) (by assumption), ?_⟩
 | refine ⟨_, Z4 rfl rfl (by omega), ?_⟩
 | refine ⟨_, Zv rfl rfl rfl, ?_⟩
 | refine ⟨_, Z7 rfl rfl (by omega), ?_⟩
 | refine ⟨_, Zr rfl rfl rfl rfl rfl rfl, ?_⟩)
 | ((first | refine Zi rfl rfl rfl ?_ ?_ | refine Zh rfl rfl rfl ?_ ?_ | refine Zk rfl rfl rfl ?_ ?_ | refine Zl rfl rfl rfl ?_ ?_ | refine Zo rfl rfl rfl ?_ ?_ | refine Zn rfl rfl rfl ?_ ?_ | refine Zq rfl rfl rfl ?_ ?_ | refine Zs rfl rfl rfl ?_ ?_) <;> intro h <;> try (exfalso; first | omega | contradiction | (simp only [lmT] at h; omega))))
          refine next _ _ ⟨rfl, rfl, rfl, rfl, trivial⟩ hlt trivial ?_
          show prS d x v (Mz t0 (v.bytes.take (j + 1))) = [_, _, _, Ob.mk _ _ _]
          rw [Tw hc', if_pos (.inl h1)]
          simp only [prS, List.map_append, List.map_cons, List.map_nil, List.flatten_cons, List.flatten_nil, List.append_nil, List.append_assoc, List.cons_append, List.nil_append]
        by_cases h2 : c = 92
        · have h1' : ¬ (c.toNat : Int) = t0.toNat := fun e => h1 (UInt8.toNat_inj.1 (by omega))
          have h2' : (c.toNat : Int) = 92 := by rw [h2]; rfl
          repeat' (first
 | refine Yr (t := 146) (i := 3) (n := (Mz t0 (v.bytes.take j)).length) (rs := (Mz t0 (v.bytes.take j)).map RV.u8) (els := [[RV.u8 92]]) rfl rfl rfl rfl rfl rfl (by rw [lmT, Nat.mul_one]) (FreeI.at_ (i := 3) ⟨by simp [AV.onlys, AV.only], by simp [AV.onlys, AV.only], Yi _ _, Yi _ _, trivial⟩) (by simp only [Rb, Rc]; omega) (by simp only [Rb, Rc]; omega) (tl hn rfl) ?_
 | refine Yr (t := 154) (i := 3) (n := (Mz t0 (v.bytes.take j)).length + 1) (rs := (Mz t0 (v.bytes.take j)).map RV.u8 ++ [RV.u8 92]) (els := [[RV.u8 c]]) rfl rfl rfl rfl rfl rfl (by simp) (FreeI.at_ (i := 3) ⟨by simp [AV.onlys, AV.only], by simp [AV.onlys, AV.only], Yi _ _, Yi _ _, trivial⟩) (by simp only [Rb, Rc]; omega) (by simp only [Rb, Rc]; omega) (tl hn rfl) ?_
 | ((first | refine Zg hn rfl rfl rfl ?_ | refine Zm rfl rfl ?_); first
 | refine ⟨_, Z0 v.items.length rfl hni, ?_⟩
 | refine ⟨_, Z0 v.bytes.length rfl hnb, ?_⟩)
 | refine Rk Zu hn rfl ?_
 | refine Rl ?_
 | refine Zc 30 rfl ?_
 | ((first | refine Zg hn rfl rfl rfl ?_ | refine Zm rfl rfl ?_); first
 | refine ⟨_, Zr rfl rfl rfl rfl rfl rfl, ?_⟩)
 | (refine Rj 30 rfl ?_; first | refine Zp rfl ?_ | ((first | refine Zd rfl ?_ ?_ | refine Ze rfl ?_ ?_); · first | omega | rfl | assumption | (simp only [lmT]; omega)) | ((first | refine Zf rfl ?_ ?_ | refine Za rfl ?_ ?_); · first | omega | rfl | assumption | (simp only [lmT]; omega)) | refine Ri (Zt hm rfl rfl ?_) | exact Ri (Zj hm rfl rfl rfl (nbT rfl) rfl rfl))
 | refine Z1 rfl (tl hn rfl) ?_
 | refine Z6 (tl hn rfl) ?_
 | refine Z3 rfl rfl rfl rfl (nbT rfl) ?_
 | refine Rm Zu hn rfl rfl ?_
 | refine Rn ?_
 | refine Z2 30 Ym hn rfl (by kernel_rfl) rfl ?_
 | ((first | refine Zg hn rfl rfl rfl ?_ | refine Zm rfl rfl ?_); first
 | refine ⟨_, Zx rfl rfl (by omega), ?_⟩
 | refine ⟨_, Zb rfl rfl (by omega) (by assumption), ?_⟩
 | refine ⟨_, Z4 rfl rfl (by omega), ?_⟩
 | refine ⟨_, Zv rfl rfl rfl, ?_⟩
 | refine ⟨_, Z7 rfl rfl (by omega), ?_⟩
 | refine ⟨_, Zr rfl rfl rfl rfl rfl rfl, ?_⟩)
 | ((first | refine Zi rfl rfl rfl ?_ ?_ | refine Zh rfl rfl rfl ?_ ?_ | refine Zk rfl rfl rfl ?_ ?_ | refine Zl rfl rfl rfl ?_ ?_ | refine Zo rfl rfl rfl ?_ ?_ | refine Zn rfl rfl rfl ?_ ?_ | refine Zq rfl rfl rfl ?_ ?_ | refine Zs rfl rfl rfl ?_ ?_) <;> intro h <;> try (exfalso; first | omega | contradiction | (simp only [lmT] at h; omega))))
          refine next _ _ ⟨rfl, rfl, rfl, rfl, trivial⟩ hlt trivial ?_
          show prS d x v (Mz t0 (v.bytes.take (j + 1))) = [_, _, _, Ob.mk _ _ _]
          rw [Tw hc', if_pos (.inr h2)]
          simp only [prS, List.map_append, List.map_cons, List.map_nil, List.flatten_cons, List.flatten_nil, List.append_nil, List.append_assoc, List.cons_append, List.nil_append]
        · have h1' : ¬ (c.toNat : Int) = t0.toNat := fun e => h1 (UInt8.toNat_inj.1 (by omega))
          have h2' : ¬ (c.toNat : Int) = 92 := fun e => h2 (UInt8.toNat_inj.1 (by rw [show (92 : UInt8).toNat = 92 from rfl]; omega))
          repeat' (first
 | refine Yr (t := 154) (i := 3) (n := (Mz t0 (v.bytes.take j)).length) (rs := (Mz t0 (v.bytes.take j)).map RV.u8) (els := [[RV.u8 c]]) rfl rfl rfl rfl rfl rfl (by rw [lmT, Nat.mul_one]) (FreeI.at_ (i := 3) ⟨by simp [AV.onlys, AV.only], by simp [AV.onlys, AV.only], Yi _ _, Yi _ _, trivial⟩) (by simp only [Rb, Rc]; omega) (by simp only [Rb, Rc]; omega) (tl hn rfl) ?_
 | ((first | refine Zg hn rfl rfl rfl ?_ | refine Zm rfl rfl ?_); first
 | refine ⟨_, Z0 v.items.length rfl hni, ?_⟩
 | refine ⟨_, Z0 v.bytes.length rfl hnb, ?_⟩)
 | refine Rk Zu hn rfl ?_
 | refine Rl ?_
 | refine Zc 30 rfl ?_
 | ((first | refine Zg hn rfl rfl rfl ?_ | refine Zm rfl rfl ?_); first
 | refine ⟨_, Zr rfl rfl rfl rfl rfl rfl, ?_⟩)
 | (refine Rj 30 rfl ?_; first | refine Zp rfl ?_ | ((first | refine Zd rfl ?_ ?_ | refine Ze rfl ?_ ?_); · first | omega | rfl | assumption | (simp only [lmT]; omega)) | ((first | refine Zf rfl ?_ ?_ | refine Za rfl ?_ ?_); · first | omega | rfl | assumption | (simp only [lmT]; omega)) | refine Ri (Zt hm rfl rfl ?_) | exact Ri (Zj hm rfl rfl rfl (nbT rfl) rfl rfl))
 | refine Z1 rfl (tl hn rfl) ?_
 | refine Z6 (tl hn rfl) ?_
 | refine Z3 rfl rfl rfl rfl (nbT rfl) ?_
 | refine Rm Zu hn rfl rfl ?_
 | refine Rn ?_
 | refine Z2 30 Ym hn rfl (by kernel_rfl) rfl ?_
 | ((first | refine Zg hn rfl rfl rfl ?_ | refine Zm rfl rfl ?_); first
 | refine ⟨_, Zx rfl rfl (by omega), ?_⟩
 | refine ⟨_, Zb rfl rfl (by omega) (by assumption), ?_⟩
 | refine ⟨_, Z4 rfl rfl (by omega), ?_⟩
 | refine ⟨_, Zv rfl rfl rfl, ?_⟩
 | refine ⟨_, Z7 rfl rfl (by omega), ?_⟩
 | refine ⟨_, Zr rfl rfl rfl rfl rfl rfl, ?_⟩)
 | ((first | refine Zi rfl rfl rfl ?_ ?_ | refine Zh rfl rfl rfl ?_ ?_ | refine Zk rfl rfl rfl ?_ ?_ | refine Zl rfl rfl rfl ?_ ?_ | refine Zo rfl rfl rfl ?_ ?_ | refine Zn rfl rfl rfl ?_ ?_ | refine Zq rfl rfl rfl ?_ ?_ | refine Zs rfl rfl rfl ?_ ?_) <;> intro h <;> try (exfalso; first | omega | contradiction | (simp only [lmT] at h; omega))))
          refine next _ _ ⟨rfl, rfl, rfl, rfl, trivial⟩ hlt trivial ?_
          show prS d x v (Mz t0 (v.bytes.take (j + 1))) = [_, _, _, Ob.mk _ _ _]
          rw [Tw hc', if_neg (fun e => e.elim h1 h2)]
          simp only [prS, List.map_append, List.map_cons, List.map_nil, List.flatten_cons, List.flatten_nil, List.append_nil, List.append_assoc, List.cons_append, List.nil_append]
      · obtain rfl : j = v.bytes.length := by omega
        have htk : v.bytes.take v.bytes.length = v.bytes := List.take_length
        rw [htk]
        have hel := Bs t0 v.bytes
        repeat' (first
 | refine Yr (t := 161) (i := 3) (n := (Mz t0 v.bytes).length) (rs := (Mz t0 v.bytes).map RV.u8) (els := [[RV.u8 t0]]) rfl rfl rfl rfl rfl rfl (by rw [lmT, Nat.mul_one]) (FreeI.at_ (i := 3) ⟨by simp [AV.onlys, AV.only], by simp [AV.onlys, AV.only], Yi _ _, Yi _ _, trivial⟩) (by simp only [Rb, Rc]; omega) (by simp only [Rb, Rc]; omega) (tl hn rfl) ?_
 | ((first | refine Zg hn rfl rfl rfl ?_ | refine Zm rfl rfl ?_); first
 | refine ⟨_, Z0 v.items.length rfl hni, ?_⟩
 | refine ⟨_, Z0 v.bytes.length rfl hnb, ?_⟩)
 | refine Rk Zu hn rfl ?_
 | refine Rl ?_
 | refine Zc 30 rfl ?_
 | ((first | refine Zg hn rfl rfl rfl ?_ | refine Zm rfl rfl ?_); first
 | refine ⟨_, Zr rfl rfl rfl rfl rfl rfl, ?_⟩)
 | (refine Rj 30 rfl ?_; first | refine Zp rfl ?_ | ((first | refine Zd rfl ?_ ?_ | refine Ze rfl ?_ ?_); · first | omega | rfl | assumption | (simp only [lmT]; omega)) | ((first | refine Zf rfl ?_ ?_ | refine Za rfl ?_ ?_); · first | omega | rfl | assumption | (simp only [lmT]; omega)) | refine Ri (Zt hm rfl rfl ?_) | exact Ri (Zj hm rfl rfl rfl (nbT rfl) rfl rfl))
 | refine Z1 rfl (tl hn rfl) ?_
 | refine Z6 (tl hn rfl) ?_
 | refine Z3 rfl rfl rfl rfl (nbT rfl) ?_
 | refine Rm Zu hn rfl rfl ?_
 | refine Rn ?_
 | refine Z2 30 Ym hn rfl (by kernel_rfl) rfl ?_
 | ((first | refine Zg hn rfl rfl rfl ?_ | refine Zm rfl rfl ?_); first
 | refine ⟨_, Zx rfl rfl (by omega), ?_⟩
 | refine ⟨_, Zb rfl rfl (by omega) (by assumption), ?_⟩
 | refine ⟨_, Z4 rfl rfl (by omega), ?_⟩
 | refine ⟨_, Zv rfl rfl rfl, ?_⟩
 | refine ⟨_, Z7 rfl rfl (by omega), ?_⟩
 | refine ⟨_, Zr rfl rfl rfl rfl rfl rfl, ?_⟩)
 | ((first | refine Zi rfl rfl rfl ?_ ?_ | refine Zh rfl rfl rfl ?_ ?_ | refine Zk rfl rfl rfl ?_ ?_ | refine Zl rfl rfl rfl ?_ ?_ | refine Zo rfl rfl rfl ?_ ?_ | refine Zn rfl rfl rfl ?_ ?_ | refine Zq rfl rfl rfl ?_ ?_ | refine Zs rfl rfl rfl ?_ ?_) <;> intro h <;> try (exfalso; first | omega | contradiction | (simp only [lmT] at h; omega))))
        refine Rj 30 rfl (Ri (Xd (rs := (Mz t0 v.bytes ++ [t0]).map RV.u8) hm rfl rfl rfl ?_ rfl))
        show List.map AV.ro _ = List.map AV.ro _
        generalize Mz t0 v.bytes = ee
        simp
set_option maxHeartbeats 8000000 in
theorem print_acR {d : Des} (hD : DrawD d) : ∀ v : Tre, v.Ok → v.total ≤ 16384 → ∀ (r : Nat) (x : Rul), d[r]? = some x → Vld d r v → ∃ bs : List UInt8, AC Try.prog 139 [W1 d, .int (r : Int), treR v] (fun rr => rr = .row 5 1 (bs.map RV.u8)) ∧ Prt d r v bs := by
  refine Tre.ind fun v ih hvo ht r x hx hv => ?_
  have hG := hD.good
  obtain ⟨hown, hit⟩ := (Ni hx).1 hv
  have hte := v.total_eq
  have hce := v.count_eq
  have hwe := v.weight_eq
  have hcl := v.count_le
  have hwl' := v.weight_le
  have hvi := hvo.out.2.2.2
  obtain ⟨ws, hwl, hws⟩ := Da (fun j y bs => ∃ q : Nat, Xz x v.number j = q ∧ q < r ∧ ACv Try.prog 139 [W1 d, .int (Xz x v.number j), treR y] (Yz bs) ∧ Prt d q y bs) v.items 0 (fun j y hj => by
    have hjl := (P8.1 hj).1
    have hm := Re hj
    have hb := own_item hG hx hown hjl
    have hs := U5 (f := Tre.total) hm
    obtain ⟨q, hq⟩ : ∃ q : Nat, Xz x v.number j = q := ⟨(Xz x v.number j).toNat, by omega⟩
    have h1 := hit j y hj
    rw [hq] at h1 hb
    obtain ⟨bs, h2, h3⟩ := ih y hm (hvi y hm) (by omega) q _ (P9 (show q < d.length by have := (P8.1 hx).1; omega)) h1
    rw [Nat.zero_add]
    exact ⟨bs, q, hq, by omega, by rw [hq]; exact h2.shut (by rintro _ rfl; exact Ua _ _), h3⟩)
  have hfm := flat_most v.items ws hwl fun j y bs hj hj' => by
    obtain ⟨q, _, _, _, h⟩ := hws j y bs hj hj'
    exact h.most
  have hw : ∀ (j : Nat) y bs, v.items[j]? = some y → ws[j]? = some bs → ACv Try.prog 139 [W1 d, .int (Xz x v.number j), treR y] (Yz bs) := fun j y bs hj hj' => by
    obtain ⟨q, _, _, h, _⟩ := hws j y bs hj hj'
    rwa [Nat.zero_add] at h
  have hfl : ws.flatten.length ≤ 200000 := by omega
  have W := Hu hD v hvo (by omega) r x hx hv ws hwl hfl hw
  obtain ⟨k', k1, k2, hr, hk', _, hrl⟩ := hD.kinds hx
  have hlen := hD.lens hx
  have hfirst : ∀ b : Nat, stB d (r + 1) r b = _ := fun b => stB_at hx
  have hdef : ∀ b : Nat, (x.kind = 1 ∨ x.kind = 3 ∨ x.kind = 4 ∨ x.kind = 5 ∨ x.kind = 10) → stB d (r + 1) r b = true := fun b e => by
    rw [hfirst, if_neg (by omega), if_neg (by omega), if_neg (by omega), if_neg (by omega)]
  have hne : ∀ {l : List UInt8}, 1 ≤ l.length → l ≠ [] := fun {l} h e => by subst e; simp at h
  -- the first item, of kinds 6 and 9
  have hone : (x.kind = 6 ∨ x.kind = 9) → 0 < v.items.length → 1 ≤ ws.flatten.length ∧ stB d (r + 1) r (ws.flatten.headD 0).toNat = true := fun e hpos => by
    obtain ⟨y, hy⟩ : ∃ y, v.items[0]? = some y := ⟨_, P9 hpos⟩
    obtain ⟨bs, hbs⟩ : ∃ bs, ws[0]? = some bs := ⟨_, P9 (by omega)⟩
    obtain ⟨q, hq, hqr, _, hp⟩ := hws 0 y bs hy hbs
    obtain ⟨h1, h2⟩ := flat_head hbs hp.pos
    have hpp := hp.pos
    refine ⟨by omega, ?_⟩
    rw [h1, hfirst, if_neg (by omega), if_pos e]
    have hk0 : x.kids.headD 0 = q := by
      have hkl : 0 < x.kids.length := by
        rcases e with e | e
        · have := hr.hkids.2.2.1 (by omega); have := hr.hnames.1 (by omega); omega
        · obtain ⟨z, _, hz⟩ := hr.hkids.2.2.2.2.1 (by omega); rw [hz]; simp
      have hh : x.kids[0]? = some (x.kids.headD 0) := by
        cases hxk : x.kids with
        | nil => rw [hxk] at hkl; simp at hkl
        | cons a l => rfl
      simp only [Nat.add_zero, Nat.zero_add] at hq
      unfold Xz at hq
      rw [if_neg (by omega)] at hq
      rcases e with e | e
      · rw [if_pos e] at hq
        rw [show ((0 : Nat) : Int).toNat = 0 from rfl, hh] at hq
        exact hq
      · rw [if_neg (by omega), if_neg (by omega), if_pos (.inr e), hh] at hq
        exact hq
    rw [hk0, Int.toNat_natCast, stB_deep hG q (by omega) r hqr]
    exact hp.first
  by_cases e1 : x.kind = 1
  · unfold Ls at hown
    rw [if_pos e1] at hown
    have hs := hr.hsize.1 (by omega)
    have hf : Fit v.number x.size := ⟨hs.1, by omega, hown.1.1, by omega⟩
    have hl := M9 hf
    exact ⟨_, W _ (.inl ⟨e1, rfl, hne hl.1⟩), hl.1, by omega, hdef _ (.inl e1)⟩
  by_cases e2 : x.kind = 2
  · have hb := hr.hbytes.1 (by omega)
    refine ⟨_, W _ (.inr (.inl ⟨e2, rfl⟩)), hb.1, by omega, ?_⟩
    rw [hfirst, if_pos e2]
    exact decide_eq_true rfl
  by_cases e3 : x.kind = 3
  · have hs := hr.hsize.2.1 (by omega)
    unfold Ls at hown
    rw [if_neg e1, if_neg e2, if_pos e3] at hown
    exact ⟨_, W _ (.inr (.inr (.inl ⟨e3, rfl⟩))), by omega, by omega, hdef _ (.inr (.inl e3))⟩
  by_cases e4 : x.kind = 4
  · obtain ⟨z, hz, hkd⟩ := hr.hkids.1 (by omega)
    obtain ⟨y, hy, hz0, hfit⟩ := H6 hD hz.up.1
    unfold Ls at hown
    rw [if_neg e1, if_neg e2, if_neg e3, if_pos e4, hkd] at hown
    have hml := (mn_le 400 (lim d z)).2.1
    have hm : (v.bytes.length : Int) ≤ mn 400 (lim d z) := hown.2.1
    have hf := hfit v.bytes.length (by omega) (by omega)
    have hl := M9 hf
    exact ⟨_, W _ (.inr (.inr (.inr (.inl ⟨z, y, e4, by rw [hkd]; rfl, hy, hz0, rfl, hne hl.1⟩)))), by rw [Ra]; omega, by rw [Ra]; omega, hdef _ (.inr (.inr (.inl e4)))⟩
  by_cases e5 : x.kind = 5
  · obtain ⟨z, z', hz, _, hkd⟩ := hr.hkids.2.1 (by omega)
    obtain ⟨y, hy, hz0, hfit⟩ := H6 hD hz.up.1
    unfold Ls at hown
    rw [if_neg e1, if_neg e2, if_neg e3, if_neg e4, if_neg (by omega), if_pos e5, hkd] at hown
    have hml := (mn_le 40 (lim d z)).2.1
    have hm : (v.items.length : Int) ≤ mn 40 (lim d z) := hown.2.2
    have hf := hfit v.items.length (by omega) (by omega)
    have hl := M9 hf
    exact ⟨_, W _ (.inr (.inr (.inr (.inr (.inl ⟨z, y, e5, by rw [hkd]; rfl, hy, hz0, rfl, hne hl.1⟩))))), by rw [Ra]; omega, by rw [Ra]; omega, hdef _ (.inr (.inr (.inr (.inl e5))))⟩
  by_cases e6 : x.kind = 6
  · have hil : v.items.length = x.kids.length := by
      unfold Ls at hown
      rw [if_neg e1, if_neg e2, if_neg e3, if_neg e4, if_neg (by omega), if_neg e5, if_pos e6] at hown
      exact hown.2.2
    have hkk := (hr.hkids.2.2.1 (by omega)).1
    have hnn := hr.hnames.1 (by omega)
    obtain ⟨h1, h2⟩ := hone (.inl e6) (by omega)
    exact ⟨_, W _ (.inr (.inr (.inr (.inr (.inr (.inl ⟨e6, rfl⟩)))))), h1, by omega, h2⟩
  by_cases e7 : x.kind = 7
  · obtain ⟨z, kl, hz, hkl, _, hkd⟩ := hr.hkids.2.2.2.1 (by omega)
    obtain ⟨y, hy, hz0, hfit⟩ := H6 hD hz.up.1
    have hTo := (Wk (Tj hG hx)).2.1 e7
    unfold Ls at hown
    rw [if_neg e1, if_neg e2, if_neg e3, if_neg e4, if_neg (by omega), if_neg e5, if_neg e6, if_pos e7] at hown
    have hnb := Gj hTo e7 hown.2.2
    have hk0 : x.kids.headD 0 = z := by rw [hkd]; rfl
    rw [hk0] at hnb
    have hf := hfit v.number hnb.1 hnb.2
    have hl := M9 hf
    refine ⟨_, W _ (.inr (.inr (.inr (.inr (.inr (.inr (.inl ⟨z, y, e7, by rw [hkd]; rfl, hy, hz0, rfl, hne hl.1⟩))))))), by rw [Ra]; omega, by rw [Ra]; omega, ?_⟩
    rw [Ow (hne hl.1), hfirst, if_neg e2, if_neg (by omega), if_pos e7, hk0, hy]
    have hmem : v.number ∈ x.tags := by
      have h0 := hown.2.2
      unfold Xz at h0
      rw [if_neg e5, if_neg e6, if_pos e7] at h0
      have : J4 x.tags v.number < x.tags.length := by
        rcases Nat.lt_or_ge (J4 x.tags v.number) x.tags.length with h | h
        · exact h
        · rw [Lm (by rw [hkd]; simp; omega)] at h0; omega
      exact Re (D1 this)
    exact List.any_eq_true.2 ⟨_, hmem, decide_eq_true rfl⟩
  by_cases e8 : x.kind = 8
  · unfold Ls at hown
    rw [if_neg e1, if_neg e2, if_neg e3, if_neg e4, if_neg (by omega), if_neg e5, if_neg e6, if_neg e7, if_pos e8] at hown
    refine ⟨_, W _ (.inr (.inr (.inr (.inr (.inr (.inr (.inr (.inl ⟨e8, rfl⟩)))))))), by simp, by rw [Rb]; omega, ?_⟩
    rw [hfirst, if_neg e2, if_neg (by omega), if_neg e7, if_pos e8]
    refine decide_eq_true ?_
    show (u8i (v.items.length : Int)).toNat < 2
    have : v.items.length = 0 ∨ v.items.length = 1 := by omega
    rcases this with h | h <;> rw [h] <;> decide
  by_cases e9 : x.kind = 9
  · unfold Ls at hown
    rw [if_neg e1, if_neg e2, if_neg e3, if_neg e4, if_neg (by omega), if_neg e5, if_neg e6, if_neg e7, if_neg e8] at hown
    obtain ⟨s, _, _, hs⟩ := D3 ws.flatten (by omega)
    obtain ⟨h1, h2⟩ := hone (.inr e9) (by omega)
    refine ⟨_, W _ (.inr (.inr (.inr (.inr (.inr (.inr (.inr (.inr (.inl ⟨s, e9, hs, rfl⟩))))))))), by rw [Ra]; omega, by rw [Ra, Rf]; omega, ?_⟩
    rw [Ow (hne h1)]
    exact h2
  have e10 : x.kind = 10 := by omega
  unfold Ls at hown
  rw [if_neg e1, if_neg e2, if_neg e3, if_neg e4, if_pos e10] at hown
  obtain ⟨y0, hy0, hbk⟩ := hr.hbytes.2.1 (by omega)
  have hw0 : ws.flatten = [] := by
    have : ws.length = 0 := by omega
    rw [List.length_eq_zero_iff.1 this]; rfl
  have hel := Bs (u8i y0) v.bytes
  refine ⟨_, W _ (.inr (.inr (.inr (.inr (.inr (.inr (.inr (.inr (.inr ⟨u8i y0, e10, by rw [hbk]; rfl, hw0, rfl⟩))))))))), by rw [Ra, Rf]; omega, by rw [Ra, Rf]; omega, hdef _ (.inr (.inr (.inr (.inr e10))))⟩
set_option maxHeartbeats 8000000 in
theorem l1Bent_d (b : List UInt8) (hb : b.length ≤ 1048576) (l : List UInt8) (h0 : 0 < l.length) (hl : l.length ≤ 200000) : Drw Try.prog 123 140 b [Yz l] (QBy fun x => x.length ≤ l.length + 1) := by
  have hll : (l.map fun z => [RV.u8 z]).length = l.length := lmT ..
  have hl4 := Bi b hb [0, 1, 128, 255] (by simp) (by simp)
  refine Yu Try.func140 rfl _ Try.ntmps140 (by simp) fun C g u i h hn hm hu hi => ?_
  repeat' (first
 | refine Xl (tl hn rfl) ?_
 | refine Rk Zu hn rfl ?_
 | refine Rl ?_
 | refine Zc 30 rfl ?_
 | (refine Rj 30 rfl ?_; first | ((first | refine Zd rfl ?_ ?_ | refine Ze rfl ?_ ?_); · first | omega | rfl | assumption | (simp only [lmT]; omega)) | ((first | refine Zf rfl ?_ ?_ | refine Za rfl ?_ ?_); · first | omega | rfl | assumption | (simp only [lmT]; omega)) | refine Z9 rfl (fun h => ?_) (fun h => ?_) | refine Ri (Zt hm rfl rfl ?_) | exact Ri (Zj hm rfl rfl rfl (nbT rfl) rfl rfl))
 | refine Yc rfl rfl rfl rfl (nbT rfl) ?_
 | (refine Zg hn rfl rfl rfl ?_; first
 | refine ⟨_, Zx rfl rfl (by omega), ?_⟩
 | refine ⟨_, Zr rfl rfl rfl rfl rfl rfl, ?_⟩))
  refine Yr (t := 8) (i := 1) (n := 0) (rs := []) (els := l.map fun z => [RV.u8 z]) rfl rfl rfl rfl rfl rfl rfl (FreeI.at_ (i := 1) ⟨by simp [Yq, AV.onlys, AV.only], by simp [AV.onlys, AV.only], trivial⟩) (by simp only [lmT]; omega) (by simp only [lmT]; omega) (tl hn rfl) ?_
  rw [Wa, List.nil_append]
  have hrow : ((l.map RV.u8).map AV.ro).length = l.length := by simp
  repeat' (first
 | (refine Yv (t := 10) (Yt b hb 6 (by omega)) rfl hu hi rfl (Ya [.int 6]) rfl (by first | rfl | repeat' (first | rfl | exact Z5 _ | refine Zy ?_ ?_)) (tl hn rfl) ?_; intro i h k hi hk; obtain ⟨hka, hkb⟩ := hk.2 (by omega))
 | (refine Yv (t := 20) (Yt b hb (l.length : Int) (by omega)) rfl hu hi rfl (Ya [.int (l.length : Int)]) rfl (by first | rfl | repeat' (first | rfl | exact Z5 _ | refine Zy ?_ ?_)) (tl hn rfl) ?_; intro i h y hi hy; obtain ⟨hya, hyb⟩ := hy.2 (by omega))
 | (refine Yv (t := 22) (Yt b hb 256 (by omega)) rfl hu hi rfl (Ya [.int 256]) rfl (by first | rfl | repeat' (first | rfl | exact Z5 _ | refine Zy ?_ ?_)) (tl hn rfl) ?_; intro i h z hi hz; obtain ⟨hza, hzb⟩ := hz.2 (by omega))
 | (refine Yv (t := 32) (Yt b hb ((l.length : Int) + 1) (by omega)) rfl hu hi rfl (Ya [.int ((l.length : Int) + 1)]) rfl (by first | rfl | repeat' (first | rfl | exact Z5 _ | refine Zy ?_ ?_)) (tl hn rfl) ?_; intro i h y hi hy; obtain ⟨hya, hyb⟩ := hy.2 (by omega))
 | (refine Yv (t := 39) hl4 rfl hu hi rfl (Ya [Xc [0, 1, 128, 255]]) rfl (by first | rfl | repeat' (first | rfl | exact Z5 _ | refine Zy ?_ ?_)) (tl hn rfl) ?_; intro i h z hi hz)
 | refine Rk Zu hn rfl ?_
 | refine Rl ?_
 | refine Zc 30 rfl ?_
 | refine Yc rfl rfl rfl rfl (by rw [hrow]; omega) ?_
 | (refine Zg hn rfl rfl rfl ?_; first
 | refine ⟨_, Yp (n := l.length) rfl rfl (by rw [hrow, Nat.mul_one]), ?_⟩
 | refine ⟨_, U2 rfl, ?_⟩
 | refine ⟨_, Yl (n := l.length) rfl rfl rfl rfl (by rw [hrow, Nat.mul_one]) (by omega) (by omega), ?_⟩)
 | (refine Rj 30 rfl ?_; first | ((first | refine Zd rfl ?_ ?_ | refine Ze rfl ?_ ?_); · first | omega | rfl | assumption | (simp only [lmT]; omega)) | ((first | refine Zf rfl ?_ ?_ | refine Za rfl ?_ ?_); · first | omega | rfl | assumption | (simp only [lmT]; omega)) | refine Z9 rfl (fun h => ?_) (fun h => ?_) | refine Ri (Zt hm rfl rfl ?_) | exact Ri (Zj hm rfl rfl rfl (nbT rfl) rfl rfl))
 | refine Yc rfl rfl rfl rfl (nbT rfl) ?_
 | (refine Zg hn rfl rfl rfl ?_; first
 | refine ⟨_, Zx rfl rfl (by omega), ?_⟩
 | refine ⟨_, Zr rfl rfl rfl rfl rfl rfl, ?_⟩))
  · refine Yc rfl rfl rfl rfl (by show y.toNat * 1 < ((l.map RV.u8).map AV.ro).length; rw [hrow]; omega) ?_
    repeat' (first
 | refine Rk Zu hn rfl ?_
 | refine Rl ?_
 | refine Zc 30 rfl ?_
 | (refine Rj 30 rfl ?_; first | ((first | refine Zd rfl ?_ ?_ | refine Ze rfl ?_ ?_); · first | omega | rfl | assumption | (simp only [lmT]; omega)) | ((first | refine Zf rfl ?_ ?_ | refine Za rfl ?_ ?_); · first | omega | rfl | assumption | (simp only [lmT]; omega)) | refine Z9 rfl (fun h => ?_) (fun h => ?_) | refine Ri (Zt hm rfl rfl ?_) | exact Ri (Zj hm rfl rfl rfl (nbT rfl) rfl rfl))
 | refine Yc rfl rfl rfl rfl (nbT rfl) ?_
 | (refine Zg hn rfl rfl rfl ?_; first
 | refine ⟨_, Zx rfl rfl (by omega), ?_⟩
 | refine ⟨_, Zr rfl rfl rfl rfl rfl rfl, ?_⟩))
    refine Rj 30 rfl (Ri (Kh (rs := (l.set y.toNat (u8i z)).map RV.u8) hm rfl rfl rfl hi rfl (by decide) ?_ ⟨_, rfl, by simp⟩))
    show some (Ob.mk _ _ (((l.map RV.u8).map AV.ro).set (y.toNat * 1) (.ro (.u8 (u8i z))))) = _
    rw [Nat.mul_one, List.map_set, List.map_set]
  · refine I2 (i := 1) (n := l.length) (q := y) rfl rfl rfl rfl (by rw [hrow, Nat.mul_one]) hya (by omega) h0 ⟨by simp [Yq, AV.onlys, AV.only], by simp [AV.onlys, AV.only], trivial⟩ (fun j v hv => by obtain ⟨x, _, rfl⟩ := List.mem_map.1 (Re hv); simp [AV.only]) (tl hn rfl) ?_
    repeat' (first
 | refine Rk Zu hn rfl ?_
 | refine Rl ?_
 | refine Zc 30 rfl ?_
 | (refine Rj 30 rfl ?_; first | ((first | refine Zd rfl ?_ ?_ | refine Ze rfl ?_ ?_); · first | omega | rfl | assumption | (simp only [lmT]; omega)) | ((first | refine Zf rfl ?_ ?_ | refine Za rfl ?_ ?_); · first | omega | rfl | assumption | (simp only [lmT]; omega)) | refine Z9 rfl (fun h => ?_) (fun h => ?_) | refine Ri (Zt hm rfl rfl ?_) | exact Ri (Zj hm rfl rfl rfl (nbT rfl) rfl rfl))
 | refine Yc rfl rfl rfl rfl (nbT rfl) ?_
 | (refine Zg hn rfl rfl rfl ?_; first
 | refine ⟨_, Zx rfl rfl (by omega), ?_⟩
 | refine ⟨_, Zr rfl rfl rfl rfl rfl rfl, ?_⟩))
    refine Rj 30 rfl (Ri (Kh (rs := (l.take y.toNat).map RV.u8) hm rfl rfl rfl hi rfl (by decide) ?_ ⟨_, rfl, by show (l.take y.toNat).length ≤ l.length + 1; rw [List.length_take]; omega⟩))
    show some (Ob.mk _ _ (((l.map RV.u8).map AV.ro).take (y.toNat * 1))) = _
    rw [Nat.mul_one, List.map_take, List.map_take]
  · refine Yr (t := 42) (i := 1) (n := l.length) (rs := l.map RV.u8) (els := [[RV.u8 (u8i z)]]) rfl rfl rfl rfl rfl rfl (by rw [lmT, Nat.mul_one]) (FreeI.at_ (i := 1) ⟨by simp [Yq, AV.onlys, AV.only], Yi _ _, trivial⟩) (by simp only [Rb, Rc]; omega) (by simp only [Rb, Rc]; omega) (tl hn rfl) ?_
    repeat' (first
 | refine Rk Zu hn rfl ?_
 | refine Rl ?_
 | refine Zc 30 rfl ?_
 | (refine Rj 30 rfl ?_; first | ((first | refine Zd rfl ?_ ?_ | refine Ze rfl ?_ ?_); · first | omega | rfl | assumption | (simp only [lmT]; omega)) | ((first | refine Zf rfl ?_ ?_ | refine Za rfl ?_ ?_); · first | omega | rfl | assumption | (simp only [lmT]; omega)) | refine Z9 rfl (fun h => ?_) (fun h => ?_) | refine Ri (Zt hm rfl rfl ?_) | exact Ri (Zj hm rfl rfl rfl (nbT rfl) rfl rfl))
 | refine Yc rfl rfl rfl rfl (nbT rfl) ?_
 | (refine Zg hn rfl rfl rfl ?_; first
 | refine ⟨_, Zx rfl rfl (by omega), ?_⟩
 | refine ⟨_, Zr rfl rfl rfl rfl rfl rfl, ?_⟩))
    refine Rj 30 rfl (Ri (Kh (rs := (l ++ [u8i z]).map RV.u8) hm rfl rfl rfl hi rfl (by decide) ?_ ⟨_, rfl, by simp⟩))
    show some (Ob.mk _ _ ((l.map RV.u8 ++ [[RV.u8 (u8i z)]].flatten).map AV.ro)) = _
    simp
  · exact Rj 30 rfl (Ri (Kh (rs := l.map RV.u8) hm rfl rfl rfl hi rfl (by decide) rfl ⟨_, rfl, by omega⟩))
theorem Ji {P : Program} {C : Ctx} {fn : Func} {ct : TypeId} {b : List UInt8} {g : Nat} {u : Value} {Q : RR → Prop} {S : St} {i h : Int} {more : List Ob} {xs : List ResultVar} (hm : ∀ x, C.mu x → x = g) (hr : fn.results = xs.toArray) (hl : xs.length ≠ 1) (hσ : S.σ = Yq ct u i h :: more) (ht : look S.env 0 = .pin 0 0 g) (hi : Xv b i) (vs : List AV) (hx : M0 P S xs vs) (rs : List RR) (is : List Nat) (hh : Vk S.σ rs vs is) (hn : is.Nodup) (h0 : 0 ∉ is) (hQ : Q (.tup rs)) :
    ∀ a w, Sim C S a w → Ab P C fn ct b g u Q a w := by
  intro a w ⟨h1, h2, φ, hG, hH⟩
  obtain ⟨us, k1, k2⟩ := Ns (P := P) hG hH xs vs hx
  have hlen : ∀ (xs : List ResultVar) (vs : List AV), M0 P S xs vs → vs.length = xs.length := by
    intro xs
    induction xs with
    | nil => intro vs h; simp only [M0] at h; simp [h]
    | cons x xs ih => intro vs h; simp only [M0] at h; obtain ⟨v, vs', rfl, _, h⟩ := h; simp [ih vs' h]
  have hul : us.length ≠ 1 := by rw [AV.rels_len vs us k2, hlen xs vs hx]; exact hl
  exact Oj (v := .tup vs) (x := .tuple us.toArray) hm h1 hG hσ (pin_at hH ht) hi (by rw [Wy, hr]; simp [List.mapM_toArray, k1, hul]) (by simp only [AV.rel]; exact ⟨_, rfl, k2⟩) (.tup rs) is (by simp only [Qq]; exact ⟨vs, rfl, hh⟩) hn h0 hQ
def QFil (rr : RR) : Prop := ∃ d, ∃ bs : List UInt8, rr = .tup [.agg [.ro (X4 d)], .row 5 1 (bs.map RV.u8)] ∧ DrawD d ∧ bs.length ≤ 100000
theorem qfil_ok : ∀ rr, QFil rr → ∃ r, Seals rr r ∧ ∃ d bs, r = .tup [W1 d, Yz bs] ∧ DrawD d ∧ bs.length ≤ 100000 := by
  rintro _ ⟨d, bs, rfl, h1, h2⟩
  refine ⟨.tup [W1 d, Yz bs], ?_, d, bs, rfl, h1, h2⟩
  have h3 := Ua 5 bs
  simp only [Seals, X3, W1] at h3 ⊢
  exact ⟨_, rfl, _, _, rfl, ⟨_, rfl, _, _, rfl, rfl, rfl⟩, _, _, rfl, h3, rfl⟩
set_option maxRecDepth 100000 in
set_option maxHeartbeats 16000000 in
theorem l11File_d (b : List UInt8) (hb : b.length ≤ 1048576) : Drw Try.prog 123 99 b [] QFil := by
  refine Yu Try.func99 rfl _ Try.ntmps99 (by simp) fun C g u i h hn hm hu hi => ?_
  repeat' (first
 | (refine I1 (t := 7) (Ti b hb) qdes_ok rfl hu hi rfl rfl rfl (by first | rfl | repeat' (first | rfl | exact Z5 _ | refine Zy ?_ ?_)) (tl hn rfl) ?_; rintro i h _ hi ⟨d, rfl, hD⟩; have hlm : (d.map Ws).length = d.length := lmT ..; have hdl := hD.good.1; have hd6 := hD.most; obtain ⟨x, hx⟩ : ∃ x, d[d.length - 1]? = some x := ⟨_, P9 (by omega)⟩; have hI := l9Make_d b hb d hD (d.length - 1) (by omega) 8 (by omega); rw [show ((d.length - 1 : Nat) : Int) = ((d.map Ws).length : Int) - 1 by omega] at hI)
 | refine Xf (id := 2) 30 [0, 1, 2, 3, 4, 5, 6, 7, 8, 9, 10] [11, 12, 13] Ym rfl rfl (by kernel_rfl) (by kernel_rfl) (by kernel_rfl) ?_
 | (refine Vi (t := 19) hI L5 rfl hu hi rfl rfl (by first | rfl | repeat' (first | rfl | exact Z5 _ | refine Zy ?_ ?_)) (tl hn rfl) ?_; rintro i h _ hi ⟨v, rfl, hv⟩; have ht : v.total ≤ 16384 := (by have h1 := hv.total; have h2 : 4 ^ (d.length - 1) ≤ 4 ^ 5 := Nat.pow_le_pow_right (by omega) (by omega); unfold tb at h1; omega); obtain ⟨bs, hP, hp⟩ := print_acR hD v hv.ok ht _ x hx hv.vld; rw [show ((d.length - 1 : Nat) : Int) = ((d.map Ws).length : Int) - 1 by omega] at hP; have hbl : bs.length ≤ 99000 := (by have h1 := hp.most; have h2 := v.count_le; have h3 := v.weight_le; omega); have hb1 := hp.pos; have hrow : ((bs.map RV.u8).map AV.ro).length = bs.length := by simp)
 | refine U9 hP rfl (tl hn rfl) ?_
 | refine Qy rfl rfl rfl ?_
 | (refine M3 (M5 b hb 3 (by decide)) rfl hu hi rfl (Ya [.int 3]) rfl (by first | rfl | repeat' (first | rfl | exact Z5 _ | refine Zy ?_ ?_)) (tl hn rfl) ?_; intro i h y1 hi; cases y1)
 | refine RunsH.pur (fun _ _ => Y3 Zu rfl) rfl (tl hn rfl) rfl ?_
 | refine RunsH.pur (fun _ _ => Yp (n := bs.length) rfl rfl (by rw [hrow, Nat.mul_one])) rfl (tl hn rfl) rfl ?_
 | refine RunsH.pur (fun _ _ => Zx rfl rfl (by omega)) rfl (tl hn rfl) rfl ?_
 | refine RunsH.pur (fun _ _ => Z4 rfl rfl (by omega)) rfl (tl hn rfl) rfl ?_
 | refine RunsH.pur (fun _ _ => Zr rfl rfl rfl rfl rfl rfl) rfl (tl hn rfl) rfl ?_
 | refine RunsH.nil ?_
 | refine Rk Zu hn rfl ?_
 | refine Rl ?_
 | refine Zc 30 rfl ?_
 | refine Xr 12 rfl (nbT rfl) (by kernel_rfl) (by kernel_rfl) ?_
 | ((first | refine Zg hn rfl rfl rfl ?_ | refine Zm rfl rfl ?_); first
 | refine ⟨_, Yp (n := bs.length) rfl rfl (by rw [hrow, Nat.mul_one]), ?_⟩)
 | (refine Rj 30 rfl ?_; first | refine Zp rfl ?_ | refine Zz rfl ?_ | ((first | refine Zd rfl ?_ ?_ | refine Ze rfl ?_ ?_); · first | omega | rfl | assumption | (simp only [lmT]; omega)) | ((first | refine Zf rfl ?_ ?_ | refine Za rfl ?_ ?_); · first | omega | rfl | assumption | (simp only [lmT]; omega)) | refine Z9 rfl (fun h => ?_) (fun h => ?_) | refine Ri (Zt hm rfl rfl ?_) | exact Ri (Zj hm rfl rfl rfl (nbT rfl) rfl rfl))
 | refine Z6 (tl hn rfl) ?_
 | refine Z3 rfl rfl rfl rfl (nbT rfl) ?_
 | ((first | refine Zg hn rfl rfl rfl ?_ | refine Zm rfl rfl ?_); first
 | refine ⟨_, Zx rfl rfl (by omega), ?_⟩
 | refine ⟨_, Zb rfl rfl (by omega) (by assumption), ?_⟩
 | refine ⟨_, Z4 rfl rfl (by omega), ?_⟩
 | refine ⟨_, Zv rfl rfl rfl, ?_⟩
 | refine ⟨_, Z7 rfl rfl (by omega), ?_⟩
 | refine ⟨_, Zr rfl rfl rfl rfl rfl rfl, ?_⟩)
 | ((first | refine Zi rfl rfl rfl ?_ ?_ | refine Zh rfl rfl rfl ?_ ?_ | refine Zk rfl rfl rfl ?_ ?_ | refine Zl rfl rfl rfl ?_ ?_ | refine Zo rfl rfl rfl ?_ ?_ | refine Zn rfl rfl rfl ?_ ?_ | refine Zq rfl rfl rfl ?_ ?_ | refine Zs rfl rfl rfl ?_ ?_) <;> intro h <;> try (exfalso; first | omega | contradiction | (simp only [lmT] at h; omega))))
  · repeat' (first
 | (refine Yv (t := 32) (Yt b hb 24 (by omega)) rfl hu hi rfl (Ya [.int 24]) rfl (by first | rfl | repeat' (first | rfl | exact Z5 _ | refine Zy ?_ ?_)) (tl hn rfl) ?_; intro i h k hi hk; obtain ⟨hka, hkb⟩ := hk.2 (by omega))
 | (refine Yv (t := 36) (Yt b hb 2 (by omega)) rfl hu hi rfl (Ya [.int 2]) rfl (by first | rfl | repeat' (first | rfl | exact Z5 _ | refine Zy ?_ ?_)) (tl hn rfl) ?_; intro i h y hi hy; have hy01 : y = 0 ∨ y = 1 := (by have := hy.2 (by omega); omega); rcases hy01 with rfl | rfl)
 | (refine Yv (t := 43) (Yt b hb 8 (by omega)) rfl hu hi rfl (Ya [.int 8]) rfl (by first | rfl | repeat' (first | rfl | exact Z5 _ | refine Zy ?_ ?_)) (tl hn rfl) ?_; intro i h y hi hy; obtain ⟨n3, rfl, hn3⟩ : ∃ n3 : Nat, y = n3 ∧ n3 ≤ 7 := ⟨y.toNat, (by unfold Bel at hy; omega), (by unfold Bel at hy; omega)⟩)
 | (refine Qt (t := 44) (Qe b hb n3 (by omega)) rfl hu hi rfl rfl rfl (by first | rfl | repeat' (first | rfl | exact Z5 _ | refine Zy ?_ ?_)) (tl hn rfl) ?_; rintro i h _ hi ⟨z2, rfl, hz2⟩)
 | refine Yr (t := 49) (i := 3) (n := bs.length) (rs := bs.map RV.u8) (els := [[RV.u8 92]]) rfl rfl rfl rfl rfl rfl (by rw [lmT, Nat.mul_one]) (FreeI.at_ (i := 3) ⟨by simp [Yq, AV.onlys, AV.only], by simp [AV.onlys, AV.only, Wx], by simp [AV.onlys, AV.only, Wx], Yi _ _, trivial⟩) (by simp only [Rb, Rc]; omega) (by simp only [Rb, Rc]; omega) (tl hn rfl) ?_
 | refine Rk Zu hn rfl ?_
 | refine Rl ?_
 | refine Zc 30 rfl ?_
 | refine Le (n := 400) rfl rfl rfl rfl (by omega) (by unfold maxLen; omega) (tl hn rfl) ?_
 | refine Le (n := 401) rfl rfl rfl rfl (by omega) (by unfold maxLen; omega) (tl hn rfl) ?_
 | ((first | refine Zg hn rfl rfl rfl ?_ | refine Zm rfl rfl ?_); first
 | refine ⟨_, Zr rfl rfl rfl rfl rfl rfl, ?_⟩)
 | (refine Rj 30 rfl ?_; first | refine Zp rfl ?_ | refine Zz rfl ?_ | ((first | refine Zd rfl ?_ ?_ | refine Ze rfl ?_ ?_); · first | omega | rfl | assumption | (simp only [lmT]; omega)) | ((first | refine Zf rfl ?_ ?_ | refine Za rfl ?_ ?_); · first | omega | rfl | assumption | (simp only [lmT]; omega)) | refine Z9 rfl (fun h => ?_) (fun h => ?_) | refine Ri (Zt hm rfl rfl ?_) | exact Ri (Zj hm rfl rfl rfl (nbT rfl) rfl rfl))
 | refine Z6 (tl hn rfl) ?_
 | refine Z3 rfl rfl rfl rfl (nbT rfl) ?_
 | ((first | refine Zg hn rfl rfl rfl ?_ | refine Zm rfl rfl ?_); first
 | refine ⟨_, Zx rfl rfl (by omega), ?_⟩
 | refine ⟨_, Zb rfl rfl (by omega) (by assumption), ?_⟩
 | refine ⟨_, Z4 rfl rfl (by omega), ?_⟩
 | refine ⟨_, Zv rfl rfl rfl, ?_⟩
 | refine ⟨_, Z7 rfl rfl (by omega), ?_⟩
 | refine ⟨_, Zr rfl rfl rfl rfl rfl rfl, ?_⟩)
 | ((first | refine Zi rfl rfl rfl ?_ ?_ | refine Zh rfl rfl rfl ?_ ?_ | refine Zk rfl rfl rfl ?_ ?_ | refine Zl rfl rfl rfl ?_ ?_ | refine Zo rfl rfl rfl ?_ ?_ | refine Zn rfl rfl rfl ?_ ?_ | refine Zq rfl rfl rfl ?_ ?_ | refine Zs rfl rfl rfl ?_ ?_) <;> intro h <;> try (exfalso; first | omega | contradiction | (simp only [lmT] at h; omega))))
    all_goals refine Rj 30 rfl ?_
    all_goals first
      | exact Ri (Ji (xs := [.cell 2 38, .tmp 3]) hm rfl (by simp) rfl rfl hi [.agg [.ro (X4 d)], .own 3] ⟨_, _, rfl, ⟨1, 0, _, rfl, rfl, .inr ⟨1, inferInstance, Nat.le_refl _, rfl⟩⟩, _, _, rfl, rfl, rfl⟩ [.agg [.ro (X4 d)], .row 5 1 (bs.map RV.u8)] [3] (by simp only [Vk, Qq]; exact ⟨_, _, [], [3], rfl, rfl, ⟨_, rfl, _, _, [], [], rfl, rfl, ⟨rfl, rfl⟩, rfl, rfl⟩, _, _, [3], [], rfl, rfl, ⟨3, rfl, rfl, rfl⟩, rfl, rfl⟩) (by simp) (by simp) ⟨d, _, rfl, hD, by omega⟩)
      | exact Ri (Ji (xs := [.cell 2 38, .tmp 3]) hm rfl (by simp) rfl rfl hi [.agg [.ro (X4 d)], .own 3] ⟨_, _, rfl, ⟨1, 0, _, rfl, rfl, .inr ⟨1, inferInstance, Nat.le_refl _, rfl⟩⟩, _, _, rfl, rfl, rfl⟩ [.agg [.ro (X4 d)], .row 5 1 ((bs ++ [92]).map RV.u8)] [3] (by simp only [Vk, Qq]; exact ⟨_, _, [], [3], rfl, rfl, ⟨_, rfl, _, _, [], [], rfl, rfl, ⟨rfl, rfl⟩, rfl, rfl⟩, _, _, [3], [], rfl, rfl, ⟨3, rfl, (by show some (Ob.mk _ _ ((bs.map RV.u8 ++ [[RV.u8 92]].flatten).map AV.ro)) = _; simp), rfl⟩, rfl, rfl⟩) (by simp) (by simp) ⟨d, _, rfl, hD, by rw [Ra, Rf]; omega⟩)
      | exact Ri (Ji (xs := [.cell 2 38, .tmp 3]) hm rfl (by simp) rfl rfl hi [.agg [.ro (X4 d)], .own 4] ⟨_, _, rfl, ⟨1, 0, _, rfl, rfl, .inr ⟨1, inferInstance, Nat.le_refl _, rfl⟩⟩, _, _, rfl, rfl, rfl⟩ [.agg [.ro (X4 d)], .row 5 1 (z2.map RV.u8)] [4] (by simp only [Vk, Qq]; exact ⟨_, _, [], [4], rfl, rfl, ⟨_, rfl, _, _, [], [], rfl, rfl, ⟨rfl, rfl⟩, rfl, rfl⟩, _, _, [4], [], rfl, rfl, ⟨4, rfl, rfl, rfl⟩, rfl, rfl⟩) (by simp) (by simp) ⟨d, _, rfl, hD, by omega⟩)
      | exact Ri (Ji (xs := [.cell 2 38, .tmp 3]) hm rfl (by simp) rfl rfl hi [.agg [.ro (X4 d)], .own 4] ⟨_, _, rfl, ⟨1, 0, _, rfl, rfl, .inr ⟨1, inferInstance, Nat.le_refl _, rfl⟩⟩, _, _, rfl, rfl, rfl⟩ [.agg [.ro (X4 d)], .row 5 1 ((List.replicate 400 (0 : UInt8)).map RV.u8)] [4] (by simp only [Vk, Qq]; exact ⟨_, _, [], [4], rfl, rfl, ⟨_, rfl, _, _, [], [], rfl, rfl, ⟨rfl, rfl⟩, rfl, rfl⟩, _, _, [4], [], rfl, rfl, ⟨4, rfl, (by show some (Ob.mk _ _ ((List.replicate _ (RV.c (.int .u8 0))).map AV.ro)) = some (Ob.mk _ _ (((List.replicate _ (0 : UInt8)).map RV.u8).map AV.ro)); rw [List.map_replicate (f := RV.u8)]; rfl), rfl⟩, rfl, rfl⟩) (by simp) (by simp) ⟨d, _, rfl, hD, by rw [List.length_replicate]; omega⟩)
      | exact Ri (Ji (xs := [.cell 2 38, .tmp 3]) hm rfl (by simp) rfl rfl hi [.agg [.ro (X4 d)], .own 4] ⟨_, _, rfl, ⟨1, 0, _, rfl, rfl, .inr ⟨1, inferInstance, Nat.le_refl _, rfl⟩⟩, _, _, rfl, rfl, rfl⟩ [.agg [.ro (X4 d)], .row 5 1 ((List.replicate 401 (0 : UInt8)).map RV.u8)] [4] (by simp only [Vk, Qq]; exact ⟨_, _, [], [4], rfl, rfl, ⟨_, rfl, _, _, [], [], rfl, rfl, ⟨rfl, rfl⟩, rfl, rfl⟩, _, _, [4], [], rfl, rfl, ⟨4, rfl, (by show some (Ob.mk _ _ ((List.replicate _ (RV.c (.int .u8 0))).map AV.ro)) = some (Ob.mk _ _ (((List.replicate _ (0 : UInt8)).map RV.u8).map AV.ro)); rw [List.map_replicate (f := RV.u8)]; rfl), rfl⟩, rfl, rfl⟩) (by simp) (by simp) ⟨d, _, rfl, hD, by rw [List.length_replicate]; omega⟩)
  · refine B7 (g := g) 3 29 (bs.map fun z => [RV.u8 z]) hm rfl (by decide) rfl rfl (by rw [Wa]) (fun x hx => by obtain ⟨y, _, rfl⟩ := List.mem_map.1 hx; rfl) ⟨by simp [Yq, AV.onlys, AV.only], by simp [AV.onlys, AV.only, Wx], by simp [AV.onlys, AV.only, Wx], by simp [AV.onlys, AV.only], trivial⟩ ?_
    refine Qt (t := 30) (l1Bent_d b hb bs (by omega) (by omega)) rfl hu hi rfl rfl rfl (by first | rfl | repeat' (first | rfl | exact Z5 _ | refine Zy ?_ ?_)) (tl hn rfl) ?_
    rintro i h _ hi ⟨z, rfl, hz⟩
    repeat' (first
 | (refine Yv (t := 32) (Yt b hb 24 (by omega)) rfl hu hi rfl (Ya [.int 24]) rfl (by first | rfl | repeat' (first | rfl | exact Z5 _ | refine Zy ?_ ?_)) (tl hn rfl) ?_; intro i h k hi hk; obtain ⟨hka, hkb⟩ := hk.2 (by omega))
 | (refine Yv (t := 36) (Yt b hb 2 (by omega)) rfl hu hi rfl (Ya [.int 2]) rfl (by first | rfl | repeat' (first | rfl | exact Z5 _ | refine Zy ?_ ?_)) (tl hn rfl) ?_; intro i h y hi hy; have hy01 : y = 0 ∨ y = 1 := (by have := hy.2 (by omega); omega); rcases hy01 with rfl | rfl)
 | (refine Yv (t := 43) (Yt b hb 8 (by omega)) rfl hu hi rfl (Ya [.int 8]) rfl (by first | rfl | repeat' (first | rfl | exact Z5 _ | refine Zy ?_ ?_)) (tl hn rfl) ?_; intro i h y hi hy; obtain ⟨n3, rfl, hn3⟩ : ∃ n3 : Nat, y = n3 ∧ n3 ≤ 7 := ⟨y.toNat, (by unfold Bel at hy; omega), (by unfold Bel at hy; omega)⟩)
 | (refine Qt (t := 44) (Qe b hb n3 (by omega)) rfl hu hi rfl rfl rfl (by first | rfl | repeat' (first | rfl | exact Z5 _ | refine Zy ?_ ?_)) (tl hn rfl) ?_; rintro i h _ hi ⟨z2, rfl, hz2⟩)
 | refine Yr (t := 49) (i := 4) (n := z.length) (rs := z.map RV.u8) (els := [[RV.u8 92]]) rfl rfl rfl rfl rfl rfl (by rw [lmT, Nat.mul_one]) (FreeI.at_ (i := 4) ⟨by simp [Yq, AV.onlys, AV.only], by simp [AV.onlys, AV.only, Wx], by simp [AV.onlys, AV.only, Wx], by simp [AV.onlys, AV.only], Yi _ _, trivial⟩) (by simp only [Rb, Rc]; omega) (by simp only [Rb, Rc]; omega) (tl hn rfl) ?_
 | refine Rk Zu hn rfl ?_
 | refine Rl ?_
 | refine Zc 30 rfl ?_
 | refine Le (n := 400) rfl rfl rfl rfl (by omega) (by unfold maxLen; omega) (tl hn rfl) ?_
 | refine Le (n := 401) rfl rfl rfl rfl (by omega) (by unfold maxLen; omega) (tl hn rfl) ?_
 | ((first | refine Zg hn rfl rfl rfl ?_ | refine Zm rfl rfl ?_); first
 | refine ⟨_, Zr rfl rfl rfl rfl rfl rfl, ?_⟩)
 | (refine Rj 30 rfl ?_; first | refine Zp rfl ?_ | refine Zz rfl ?_ | ((first | refine Zd rfl ?_ ?_ | refine Ze rfl ?_ ?_); · first | omega | rfl | assumption | (simp only [lmT]; omega)) | ((first | refine Zf rfl ?_ ?_ | refine Za rfl ?_ ?_); · first | omega | rfl | assumption | (simp only [lmT]; omega)) | refine Z9 rfl (fun h => ?_) (fun h => ?_) | refine Ri (Zt hm rfl rfl ?_) | exact Ri (Zj hm rfl rfl rfl (nbT rfl) rfl rfl))
 | refine Z6 (tl hn rfl) ?_
 | refine Z3 rfl rfl rfl rfl (nbT rfl) ?_
 | ((first | refine Zg hn rfl rfl rfl ?_ | refine Zm rfl rfl ?_); first
 | refine ⟨_, Zx rfl rfl (by omega), ?_⟩
 | refine ⟨_, Zb rfl rfl (by omega) (by assumption), ?_⟩
 | refine ⟨_, Z4 rfl rfl (by omega), ?_⟩
 | refine ⟨_, Zv rfl rfl rfl, ?_⟩
 | refine ⟨_, Z7 rfl rfl (by omega), ?_⟩
 | refine ⟨_, Zr rfl rfl rfl rfl rfl rfl, ?_⟩)
 | ((first | refine Zi rfl rfl rfl ?_ ?_ | refine Zh rfl rfl rfl ?_ ?_ | refine Zk rfl rfl rfl ?_ ?_ | refine Zl rfl rfl rfl ?_ ?_ | refine Zo rfl rfl rfl ?_ ?_ | refine Zn rfl rfl rfl ?_ ?_ | refine Zq rfl rfl rfl ?_ ?_ | refine Zs rfl rfl rfl ?_ ?_) <;> intro h <;> try (exfalso; first | omega | contradiction | (simp only [lmT] at h; omega))))
    all_goals refine Rj 30 rfl ?_
    all_goals first
      | exact Ri (Ji (xs := [.cell 2 38, .tmp 3]) hm rfl (by simp) rfl rfl hi [.agg [.ro (X4 d)], .own 4] ⟨_, _, rfl, ⟨1, 0, _, rfl, rfl, .inr ⟨1, inferInstance, Nat.le_refl _, rfl⟩⟩, _, _, rfl, rfl, rfl⟩ [.agg [.ro (X4 d)], .row 5 1 (z.map RV.u8)] [4] (by simp only [Vk, Qq]; exact ⟨_, _, [], [4], rfl, rfl, ⟨_, rfl, _, _, [], [], rfl, rfl, ⟨rfl, rfl⟩, rfl, rfl⟩, _, _, [4], [], rfl, rfl, ⟨4, rfl, rfl, rfl⟩, rfl, rfl⟩) (by simp) (by simp) ⟨d, _, rfl, hD, by omega⟩)
      | exact Ri (Ji (xs := [.cell 2 38, .tmp 3]) hm rfl (by simp) rfl rfl hi [.agg [.ro (X4 d)], .own 4] ⟨_, _, rfl, ⟨1, 0, _, rfl, rfl, .inr ⟨1, inferInstance, Nat.le_refl _, rfl⟩⟩, _, _, rfl, rfl, rfl⟩ [.agg [.ro (X4 d)], .row 5 1 ((z ++ [92]).map RV.u8)] [4] (by simp only [Vk, Qq]; exact ⟨_, _, [], [4], rfl, rfl, ⟨_, rfl, _, _, [], [], rfl, rfl, ⟨rfl, rfl⟩, rfl, rfl⟩, _, _, [4], [], rfl, rfl, ⟨4, rfl, (by show some (Ob.mk _ _ ((z.map RV.u8 ++ [[RV.u8 92]].flatten).map AV.ro)) = _; simp), rfl⟩, rfl, rfl⟩) (by simp) (by simp) ⟨d, _, rfl, hD, by rw [Ra, Rf]; omega⟩)
      | exact Ri (Ji (xs := [.cell 2 38, .tmp 3]) hm rfl (by simp) rfl rfl hi [.agg [.ro (X4 d)], .own 5] ⟨_, _, rfl, ⟨1, 0, _, rfl, rfl, .inr ⟨1, inferInstance, Nat.le_refl _, rfl⟩⟩, _, _, rfl, rfl, rfl⟩ [.agg [.ro (X4 d)], .row 5 1 (z2.map RV.u8)] [5] (by simp only [Vk, Qq]; exact ⟨_, _, [], [5], rfl, rfl, ⟨_, rfl, _, _, [], [], rfl, rfl, ⟨rfl, rfl⟩, rfl, rfl⟩, _, _, [5], [], rfl, rfl, ⟨5, rfl, rfl, rfl⟩, rfl, rfl⟩) (by simp) (by simp) ⟨d, _, rfl, hD, by omega⟩)
      | exact Ri (Ji (xs := [.cell 2 38, .tmp 3]) hm rfl (by simp) rfl rfl hi [.agg [.ro (X4 d)], .own 5] ⟨_, _, rfl, ⟨1, 0, _, rfl, rfl, .inr ⟨1, inferInstance, Nat.le_refl _, rfl⟩⟩, _, _, rfl, rfl, rfl⟩ [.agg [.ro (X4 d)], .row 5 1 ((List.replicate 400 (0 : UInt8)).map RV.u8)] [5] (by simp only [Vk, Qq]; exact ⟨_, _, [], [5], rfl, rfl, ⟨_, rfl, _, _, [], [], rfl, rfl, ⟨rfl, rfl⟩, rfl, rfl⟩, _, _, [5], [], rfl, rfl, ⟨5, rfl, (by show some (Ob.mk _ _ ((List.replicate _ (RV.c (.int .u8 0))).map AV.ro)) = some (Ob.mk _ _ (((List.replicate _ (0 : UInt8)).map RV.u8).map AV.ro)); rw [List.map_replicate (f := RV.u8)]; rfl), rfl⟩, rfl, rfl⟩) (by simp) (by simp) ⟨d, _, rfl, hD, by rw [List.length_replicate]; omega⟩)
      | exact Ri (Ji (xs := [.cell 2 38, .tmp 3]) hm rfl (by simp) rfl rfl hi [.agg [.ro (X4 d)], .own 5] ⟨_, _, rfl, ⟨1, 0, _, rfl, rfl, .inr ⟨1, inferInstance, Nat.le_refl _, rfl⟩⟩, _, _, rfl, rfl, rfl⟩ [.agg [.ro (X4 d)], .row 5 1 ((List.replicate 401 (0 : UInt8)).map RV.u8)] [5] (by simp only [Vk, Qq]; exact ⟨_, _, [], [5], rfl, rfl, ⟨_, rfl, _, _, [], [], rfl, rfl, ⟨rfl, rfl⟩, rfl, rfl⟩, _, _, [5], [], rfl, rfl, ⟨5, rfl, (by show some (Ob.mk _ _ ((List.replicate _ (RV.c (.int .u8 0))).map AV.ro)) = some (Ob.mk _ _ (((List.replicate _ (0 : UInt8)).map RV.u8).map AV.ro)); rw [List.map_replicate (f := RV.u8)]; rfl), rfl⟩, rfl, rfl⟩) (by simp) (by simp) ⟨d, _, rfl, hD, by rw [List.length_replicate]; omega⟩)
def QFim (rr : RR) : Prop := ∃ d, ∃ bs : List UInt8, rr = .tup [.agg [.ro (X4 d)], .ro (Yz bs)] ∧ DrawD d ∧ bs.length ≤ 100000
theorem qfim_ok : ∀ rr, QFim rr → ∃ r, Seals rr r ∧ ∃ d bs, r = .tup [W1 d, Yz bs] ∧ DrawD d ∧ bs.length ≤ 100000 := by
  rintro _ ⟨d, bs, rfl, h1, h2⟩
  refine ⟨.tup [W1 d, Yz bs], ?_, d, bs, rfl, h1, h2⟩
  simp only [Seals, X3, W1]
  exact ⟨_, rfl, _, _, rfl, ⟨_, rfl, _, _, rfl, rfl, rfl⟩, _, _, rfl, rfl, rfl⟩
set_option maxHeartbeats 8000000 in
theorem Ib (b : List UInt8) (hb : b.length ≤ 1048576) : AC Try.prog 42 [Yz b] QFim := by
  refine acu_enter Try.func42 rfl _ Try.ntmps42 (by simp) fun C u hn hm hu => ?_
  have hmu : ∀ x, C.mu x → x = 0 := fun x h => (hm x h).elim
  repeat' (first
 | (refine op_newU (l1New_u b hb) rfl hu (tl hn rfl) ?_; intro h hi)
 | (refine I1 (t := 8) (l11File_d b hb) qfil_ok rfl hu hi rfl rfl rfl (by first | rfl | repeat' (first | rfl | exact Z5 _ | refine Zy ?_ ?_)) (tl hn rfl) ?_; rintro i h _ hi ⟨d, bs, rfl, hD, hbl⟩)
 | refine Rk Zu hn rfl ?_
 | refine Rl ?_
 | refine Zc 30 rfl ?_
 | (refine Rj 30 rfl ?_; first | ((first | refine Zd rfl ?_ ?_ | refine Ze rfl ?_ ?_); · first | omega | rfl | assumption | (simp only [lmT]; omega)) | ((first | refine Zf rfl ?_ ?_ | refine Za rfl ?_ ?_); · first | omega | rfl | assumption | (simp only [lmT]; omega)) | refine Ri (Zt hm rfl rfl ?_) | exact Ri (Zj hm rfl rfl rfl (nbT rfl) rfl rfl))
 | refine Z6 (tl hn rfl) ?_
 | refine Z3 rfl rfl rfl rfl (nbT rfl) ?_
    )
  exact Rj 30 rfl (Ri (endsN (xs := [.cell 2 38, .tmp 3]) hm rfl (by simp) [.agg [.ro (X4 d)], .ro (Yz bs)] ⟨_, _, rfl, ⟨1, 0, _, rfl, rfl, .inr ⟨1, inferInstance, Nat.le_refl _, rfl⟩⟩, _, _, rfl, rfl, rfl⟩ [.agg [.ro (X4 d)], .ro (Yz bs)] [] (by
    simp only [Vk, Qq]
    exact ⟨_, _, [], [], rfl, rfl, ⟨_, rfl, _, _, [], [], rfl, rfl, ⟨rfl, rfl⟩, rfl, rfl⟩, _, _, [], [], rfl, rfl, ⟨rfl, rfl⟩, rfl, rfl⟩) (by simp) ⟨d, bs, rfl, hD, hbl⟩))
set_option maxRecDepth 100000
def Xa (en : List Int) (r : Int) : Ins := ⟨9, (en[r.toNat]?).getD 0, 0⟩
def Ql (tags : List Int) (first : Int) (j : Nat) : List Ins := (List.range j).map fun i : Nat => ⟨11, (tags[i]?).getD 0, w64 (first + 2 * (i : Int))⟩
def X5 (kids : List Int) (en : List Int) (j : Nat) : List Ins := (List.range j).flatMap fun i : Nat => (if i = 0 then [] else [⟨10, 0, 0⟩]) ++ [Xa en ((kids[i + 1]?).getD 0)]
def Xe (x : Rul) (s : Int) (en : List Int) : List Ins :=
  if x.kind = 1 then [⟨1, x.size, if x.little = true then 1 else 0⟩]
  else if x.kind = 2 then x.bytes.map fun b => ⟨2, (b.toNat : Int), 0⟩
  else if x.kind = 3 then [⟨3, x.size, 0⟩]
  else if x.kind = 4 then [Xa en (x.kids.headD 0), ⟨4, 0, 0⟩]
  else if x.kind = 5 then [Xa en (x.kids.headD 0), ⟨5, 40, 0⟩, ⟨6, 0, 0⟩, ⟨7, w64 (s + 6), 0⟩, Xa en ((x.kids[1]?).getD 0), ⟨8, w64 (s + 3), 0⟩]
  else if x.kind = 6 then x.kids.map (Xa en)
  else if x.kind = 7 then Xa en (x.kids.headD 0) :: (Ql x.tags (s + (x.tags.length : Int) + 2) x.tags.length ++ ⟨12, 3, 0⟩ :: X5 x.kids en x.tags.length)
  else if x.kind = 8 then [⟨13, w64 (s + 2), 0⟩, Xa en (x.kids.headD 0)]
  else if x.kind = 9 then [⟨14, 0, 0⟩, Xa en (x.kids.headD 0), ⟨15, 0, 0⟩]
  else [⟨16, (((x.bytes[0]?).getD 0).toNat : Int), 0⟩]
def Xm (x : Rul) (s : Int) (en : List Int) : List Ins := Xe x s en ++ [⟨10, 0, 0⟩]
theorem Ih {tags : List Int} {first : Int} {j : Nat} {t : Int} (h : tags[j]? = some t) : Ql tags first (j + 1) = Ql tags first j ++ [⟨11, t, w64 (first + 2 * (j : Int))⟩] := by
  unfold Ql
  rw [List.range_succ, List.map_append, List.map_singleton, h]
  rfl
theorem Mn {kids en : List Int} {j : Nat} {z : Int} (h : kids[j + 1]? = some z) : X5 kids en (j + 1) = X5 kids en j ++ ((if j = 0 then [] else [⟨10, 0, 0⟩]) ++ [Xa en z]) := by
  unfold X5
  rw [List.range_succ, List.flatMap_append, List.flatMap_singleton, h]
  rfl
theorem Vh (tags : List Int) (first : Int) (j : Nat) : (Ql tags first j).length = j := by simp [Ql]
theorem Un (kids en : List Int) : ∀ j : Nat, (X5 kids en j).length ≤ 2 * j
  | 0 => by simp [X5]
  | j + 1 => by
    have h := Un kids en j
    unfold X5 at h ⊢
    rw [List.range_succ, List.flatMap_append, List.flatMap_singleton, Ra, Ra, Rf]
    split
    · simp only [Rc]; omega
    · simp only [Rf]; omega
instance tb_ins : TB Try.prog 59 [(0, 1), (1, 1), (2, 1)] [.int .i64 0, .int .i64 0, .int .i64 0] := ⟨_, _, _, rfl, rfl, rfl, rfl, by kernel_rfl, by decide⟩
instance tb_cmpr : TB Try.prog 107 [(0, 1), (1, 1), (2, 1), (3, 1)] [.slice none 0 0, .int .i64 0, .slice none 0 0, .slice none 0 0] := ⟨_, _, _, rfl, rfl, rfl, rfl, by kernel_rfl, by decide⟩
def cO (d : Des) (s : Int) (en : List Int) (code : List Ins) : List Ob := [⟨107, 0, [.ro (X4 d), .int s, .ro (Xc en), .own 1]⟩, ⟨59, 3, (code.flatMap Vr).map .ro⟩]
theorem N5 (p : Nat → Prop) : ∀ rs : List RV, AV.onlys p (rs.map .ro)
  | [] => by simp [AV.onlys]
  | r :: rs => by simp only [List.map_cons, AV.onlys, AV.only]; exact ⟨trivial, N5 p rs⟩
theorem Yk (d : Des) (s : Int) (en : List Int) (code : List Ins) : FreeO 2 (cO d s en code) := by
  simp only [cO, FreeO]
  exact ⟨by simp [AV.onlys, AV.only], N5 _ _, trivial⟩
theorem To (l : List Ins) : (l.flatMap Vr).length = l.length * 3 := by
  induction l with
  | nil => rfl
  | cons x l ih => rw [List.flatMap_cons, Ra, ih, insR_len, Rb]; omega
theorem X7 {P : Program} {C : Ctx} {fn : Func} {gs : Nat → Nat} {env : Env} {σ σ' more : List Ob} {t : Nat} (hp : look env t = .pin 0 0 (gs 0)) (hσ : σ = σ' ++ more) (hl : 0 < σ'.length) (hc : FreeO σ'.length σ') (hr : fn.results = #[]) :
    Runs P C [] (Hd P C fn gs [0] σ' (.tup [])) ⟨env, σ⟩ :=
  Ks (E' := [(t, .pin 0 0 (gs 0))]) ⟨hp, trivial⟩ hσ ⟨by simpa only [AV.only] using hl, trivial⟩ hc (Qn (Mm (fun i hi => by simp at hi; subst hi; exact ⟨t, 0, by simp [look]⟩) hr rfl))
set_option maxHeartbeats 2000000 in
theorem Uq (d : Des) (s : Int) (en : List Int) (code : List Ins) (op a b : Int) (hl : code.length ≤ 4194304) : AM Try.prog 92 (cO d s en code) [0] [.obj 0 0, .int op, .int a, .int b] (cO d s en (code ++ [⟨op, a, b⟩])) (.tup []) := by
  refine Y1 Try.func92 rfl _ Try.ntmps92 (by simp) (by simp) fun C gs hn => ?_
  have hfl := To code
  repeat' (first
 | refine RunsL.junk 0 3 rfl (Yr (n := code.length) (i := 1) rfl rfl rfl rfl rfl rfl (by rw [hfl]) (FreeI.at_ (i := 1) ⟨by simp [AV.onlys, AV.only], N5 _ _, trivial⟩) (by simp; omega) (by simp; omega) (tl hn rfl) ?_)
 | refine Rk Zu hn rfl ?_
 | refine Rl ?_
 | refine Zc 30 rfl ?_
 | (refine Zg hn rfl rfl rfl ?_; first
 | refine ⟨_, Yb rfl, ?_⟩
 | refine ⟨_, Yj rfl, ?_⟩)
 | (refine Rj 30 rfl ?_; first | ((first | refine Zd rfl ?_ ?_ | refine Ze rfl ?_ ?_); · first | omega | rfl | assumption | (simp only [lmT]; omega)) | ((first | refine Zf rfl ?_ ?_ | refine Za rfl ?_ ?_); · first | omega | rfl | assumption | (simp only [lmT]; omega)) )
 | refine Yc rfl rfl rfl rfl (nbT rfl) ?_
 | (refine Zg hn rfl rfl rfl ?_; first
 | refine ⟨_, Zr rfl rfl rfl rfl rfl rfl, ?_⟩))
  refine Rj 30 rfl ?_
  refine X7 (more := []) (t := 0) rfl ?_ (by simp [cO]) (Yk _ _ _ _) rfl
  rw [List.append_nil]
  unfold cO
  rw [List.flatMap_append]
  rfl
theorem Vw {d : Des} {s : Int} {en : List Int} {code code' : List Ins} {more : List Ob} (h : code = code') : cO d s en code ++ more = cO d s en code' ++ more := by rw [h]
theorem lend_c {C : Ctx} {d : Des} {s : Int} {en : List Int} {code : List Ins} {σ more : List Ob} {g : Nat} (h : σ = cO d s en code ++ more) : Lends C σ (.pin 0 0 g) (.rp [X4 d, .int s, Xc en, Ul code]) := by
  subst h
  exact Lends.pin rfl (.cons .ro (.cons .ro (.cons .ro (.cons (Lends.own (o := ⟨59, 3, (code.flatMap Vr).map .ro⟩) (els := code.map Vr) rfl rfl fun x hx => by obtain ⟨y, _, rfl⟩ := List.mem_map.1 hx; rfl) .nil))))
theorem H7 (d : Des) (s : Int) (en : List Int) (code : List Ins) : ACv Try.prog 132 [.rp [X4 d, .int s, Xc en, Ul code]] (.int (w64 (s + code.length))) := by
  have hl : (code.map Vr).length = code.length := lmT ..
  refine Yh Try.func132 rfl _ Try.ntmps132 (by simp) fun C hn hm => ?_
  repeat' (first
 | ((first | refine Zg hn rfl rfl rfl ?_ | refine Zm rfl rfl ?_); first
 | refine ⟨_, X0 rfl rfl, ?_⟩)
 | refine Rk Zu hn rfl ?_
 | refine Rl ?_
 | refine Zc 30 rfl ?_
 | ((first | refine Zg hn rfl rfl rfl ?_ | refine Zm rfl rfl ?_); first
 | refine ⟨_, Hp rfl, ?_⟩)
 | (refine Rj 30 rfl ?_; first | ((first | refine Zd rfl ?_ ?_ | refine Ze rfl ?_ ?_); · first | omega | rfl | assumption | (simp only [lmT]; omega)) | ((first | refine Zf rfl ?_ ?_ | refine Za rfl ?_ ?_); · first | omega | rfl | assumption | (simp only [lmT]; omega)) | refine Ri (Zt hm rfl rfl ?_) | exact Ri (Zj hm rfl rfl rfl (nbT rfl) rfl rfl))
 | refine Rm Zu hn rfl rfl ?_
 | refine Rn ?_
 | refine Z2 30 Ym hn rfl (by kernel_rfl) rfl ?_
 | ((first | refine Zg hn rfl rfl rfl ?_ | refine Zm rfl rfl ?_); first
 | refine ⟨_, Zx rfl rfl (by omega), ?_⟩
 | refine ⟨_, Zb rfl rfl (by omega) (by assumption), ?_⟩
 | refine ⟨_, Z4 rfl rfl (by omega), ?_⟩
 | refine ⟨_, Zv rfl rfl rfl, ?_⟩
 | refine ⟨_, Z7 rfl rfl (by omega), ?_⟩
 | refine ⟨_, Zr rfl rfl rfl rfl rfl rfl, ?_⟩))
  exact Xx (by rw [hl])
set_option maxHeartbeats 2000000 in
theorem Kl (d : Des) (s : Int) (en : List Int) (code : List Ins) (r : Int) (hl : code.length ≤ 4194304) (h0 : 0 ≤ r) (h1 : r < en.length) : AM Try.prog 131 (cO d s en code) [0] [.obj 0 0, .int r] (cO d s en (code ++ [Xa en r])) (.tup []) := by
  refine Y1 Try.func131 rfl _ Try.ntmps131 (by simp) (by simp) fun C gs hn => ?_
  obtain ⟨z, hz⟩ : ∃ z, en[r.toNat]? = some z := ⟨_, P9 (by omega)⟩
  have hle : (en.map fun z => [RV.int z]).length = en.length := lmT ..
  repeat' (first
 | refine Yg 2 (Uq d s en _ _ _ _ (by first | omega | (simp only [Ra, Rb, Rc]; omega))) rfl (by simp [AV.onlys, AV.only]) (by simp [AV.only, AV.onlys]) (List.append_nil _).symm rfl rfl (Yk _ _ _ _) (Yk _ _ _ _) rfl trivial (fun t h => by injection h with h; subst h; exact tl hn rfl) ?_
 | refine Rk Zu hn rfl ?_
 | refine Rl ?_
 | refine Zc 30 rfl ?_
 | (refine Zg hn rfl rfl rfl ?_; first
 | refine ⟨_, Yb rfl, ?_⟩)
 | (refine Rj 30 rfl ?_; first | ((first | refine Zd rfl ?_ ?_ | refine Ze rfl ?_ ?_); · first | omega | rfl | assumption | (simp only [lmT]; omega)) | ((first | refine Zf rfl ?_ ?_ | refine Za rfl ?_ ?_); · first | omega | rfl | assumption | (simp only [lmT]; omega)) )
 | (refine Zg hn rfl rfl rfl ?_; first
 | refine ⟨_, Zb rfl rfl (by omega) (by assumption), ?_⟩
      ))
  refine Rj 30 rfl ?_
  refine X7 (more := []) (t := 0) rfl (Vw ?_) (by simp [cO]) (Yk _ _ _ _) rfl
  unfold Xa
  rw [hz]
  rfl
def Kt (d : Des) (x : Rul) (en : List Int) : Prop := Va d x ∧ ∀ (k : Nat) z, x.kids[k]? = some z → 0 ≤ z ∧ z < en.length
theorem kid0 {d : Des} {x : Rul} {en : List Int} (h : Kt d x en) (hl : 0 < x.kids.length) : x.kids[(0 : Int).toNat]? = some (x.kids.headD 0) ∧ 0 ≤ x.kids.headD 0 ∧ x.kids.headD 0 < en.length := by
  have hx : x.kids[(0 : Int).toNat]? = some (x.kids.headD 0) := by
    cases hk : x.kids with
    | nil => rw [hk] at hl; simp at hl
    | cons a l => rfl
  exact ⟨hx, h.2 0 _ hx⟩
set_option maxHeartbeats 4000000 in
theorem Po (d : Des) (s : Int) (en : List Int) (x : Rul) (hk : x.kind = 1) : AM Try.prog 82 (cO d s en []) [0] [.obj 0 0, .ro (.agg (Ws x))] (cO d s en (Xe x s en)) (.tup []) := by
  refine Y1 Try.func82 rfl _ Try.ntmps82 (by simp) (by simp) fun C gs hn => ?_
  obtain ⟨nm, kd, sz, li, bs, ns, tg, ki⟩ := x
  simp only at hk
  subst hk
  cases li
  all_goals
    repeat' (first
 | refine Yg 2 (Uq d s en _ _ _ _ (by first | omega | (simp only [Ra, Rb, Rc]; omega))) rfl (by simp [AV.onlys, AV.only]) (by simp [AV.only, AV.onlys]) rfl rfl rfl (Yk _ _ _ _) (Yk _ _ _ _) rfl ⟨rfl, trivial⟩ (fun t h => by injection h with h; subst h; exact tl hn rfl) ?_
 | refine Rk Zu hn rfl ?_
 | refine Rl ?_
 | refine Zc 30 rfl ?_
 | (refine Rj 30 rfl ?_; first | refine Zp rfl ?_ | refine Zz rfl ?_ | ((first | refine Zd rfl ?_ ?_ | refine Ze rfl ?_ ?_); · first | omega | rfl | assumption | (simp only [lmT]; omega)) | ((first | refine Zf rfl ?_ ?_ | refine Za rfl ?_ ?_); · first | omega | rfl | assumption | (simp only [lmT]; omega)) )
 | refine Z1 rfl (tl hn rfl) ?_
      )
    refine Rj 30 rfl ?_
    exact X7 (t := 0) rfl (Vw rfl) (by simp [cO]) (Yk _ _ _ _) rfl
theorem fixed_am (d : Des) (s : Int) (en : List Int) (x : Rul) (hk : x.kind = 3) : AM Try.prog 84 (cO d s en []) [0] [.obj 0 0, .ro (.agg (Ws x))] (cO d s en (Xe x s en)) (.tup []) := by
  refine Y1 Try.func84 rfl _ Try.ntmps84 (by simp) (by simp) fun C gs hn => ?_
  repeat' (first
 | refine Yg 2 (Uq d s en _ _ _ _ (by first | omega | (simp only [Ra, Rb, Rc]; omega))) rfl (by simp [AV.onlys, AV.only]) (by simp [AV.only, AV.onlys]) rfl rfl rfl (Yk _ _ _ _) (Yk _ _ _ _) rfl ⟨rfl, trivial⟩ (fun t h => by injection h with h; subst h; exact tl hn rfl) ?_
 | refine Rk Zu hn rfl ?_
 | refine Rl ?_
 | refine Zc 30 rfl ?_
 | (refine Rj 30 rfl ?_; first | ((first | refine Zd rfl ?_ ?_ | refine Ze rfl ?_ ?_); · first | omega | rfl | assumption | (simp only [lmT]; omega)) | ((first | refine Zf rfl ?_ ?_ | refine Za rfl ?_ ?_); · first | omega | rfl | assumption | (simp only [lmT]; omega)) )
 | refine Z1 rfl (tl hn rfl) ?_
    )
  refine Rj 30 rfl ?_
  refine X7 (t := 0) rfl (Vw ?_) (by simp [cO]) (Yk _ _ _ _) rfl
  simp [Xe, hk]
theorem D0 (d : Des) (s : Int) (en : List Int) (x : Rul) (hk : x.kind = 10) (hb : x.bytes.length = 1) : AM Try.prog 91 (cO d s en []) [0] [.obj 0 0, .ro (.agg (Ws x))] (cO d s en (Xe x s en)) (.tup []) := by
  refine Y1 Try.func91 rfl _ Try.ntmps91 (by simp) (by simp) fun C gs hn => ?_
  obtain ⟨b, hx⟩ : ∃ b, x.bytes[(0 : Int).toNat]? = some b := ⟨_, P9 (by simp; omega)⟩
  have hx' : x.bytes[0]? = some b := hx
  have hle : (x.bytes.map fun z => [RV.u8 z]).length = x.bytes.length := lmT ..
  repeat' (first
 | refine Yg 2 (Uq d s en _ _ _ _ (by first | omega | (simp only [Ra, Rb, Rc]; omega))) rfl (by simp [AV.onlys, AV.only]) (by simp [AV.only, AV.onlys]) rfl rfl rfl (Yk _ _ _ _) (Yk _ _ _ _) rfl ⟨rfl, trivial⟩ (fun t h => by injection h with h; subst h; exact tl hn rfl) ?_
 | refine Rk Zu hn rfl ?_
 | refine Rl ?_
 | refine Zc 30 rfl ?_
 | (refine Zg hn rfl rfl rfl ?_; first
 | refine ⟨_, Vf rfl, ?_⟩)
 | (refine Rj 30 rfl ?_; first | ((first | refine Zd rfl ?_ ?_ | refine Ze rfl ?_ ?_); · first | omega | rfl | assumption | (simp only [lmT]; omega)) | ((first | refine Zf rfl ?_ ?_ | refine Za rfl ?_ ?_); · first | omega | rfl | assumption | (simp only [lmT]; omega)) )
 | refine Z1 rfl (tl hn rfl) ?_
 | (refine Zg hn rfl rfl rfl ?_; first
 | refine ⟨_, Zb rfl rfl (by omega) (by assumption), ?_⟩
      ))
  refine Rj 30 rfl ?_
  refine X7 (t := 0) rfl (Vw ?_) (by simp [cO]) (Yk _ _ _ _) rfl
  simp [Xe, hk, hx']
set_option maxHeartbeats 4000000 in
theorem sized_am (d : Des) (s : Int) (en : List Int) (x : Rul) (hk : x.kind = 4) (hr : Kt d x en) : AM Try.prog 85 (cO d s en []) [0] [.obj 0 0, .ro (.agg (Ws x))] (cO d s en (Xe x s en)) (.tup []) := by
  refine Y1 Try.func85 rfl _ Try.ntmps85 (by simp) (by simp) fun C gs hn => ?_
  obtain ⟨f5, f7, f8, f4⟩ := Wk hr.1
  have hlk : (x.kids.map fun z => [RV.int z]).length = x.kids.length := lmT ..
  obtain ⟨h0, h1, h2⟩ := kid0 hr (by have := f4 hk; omega)
  repeat' (first
 | refine Yg 2 (Uq d s en _ _ _ _ (by first | omega | (simp only [Ra, Rb, Rc]; omega))) rfl (by simp [AV.onlys, AV.only]) (by simp [AV.only, AV.onlys]) rfl rfl rfl (Yk _ _ _ _) (Yk _ _ _ _) rfl ⟨rfl, trivial⟩ (fun t h => by injection h with h; subst h; exact tl hn rfl) ?_
 | refine Yg 2 (Kl d s en _ _ (by first | omega | (simp only [Ra, Rb, Rc]; omega)) (by omega) (by omega)) rfl (by simp [AV.onlys, AV.only]) (by simp [AV.only, AV.onlys]) rfl rfl rfl (Yk _ _ _ _) (Yk _ _ _ _) rfl ⟨rfl, trivial⟩ (fun t h => by injection h with h; subst h; exact tl hn rfl) ?_
 | refine Rk Zu hn rfl ?_
 | refine Rl ?_
 | refine Zc 30 rfl ?_
 | (refine Rj 30 rfl ?_; first | ((first | refine Zd rfl ?_ ?_ | refine Ze rfl ?_ ?_); · first | omega | rfl | assumption | (simp only [lmT]; omega)) | ((first | refine Zf rfl ?_ ?_ | refine Za rfl ?_ ?_); · first | omega | rfl | assumption | (simp only [lmT]; omega)) )
 | refine Z1 rfl (tl hn rfl) ?_
 | (refine Zg hn rfl rfl rfl ?_; first
 | refine ⟨_, Zb rfl rfl (by omega) (by assumption), ?_⟩
      ))
  refine Rj 30 rfl ?_
  refine X7 (t := 0) rfl (Vw ?_) (by simp [cO]) (Yk _ _ _ _) rfl
  simp [Xe, hk]
set_option maxHeartbeats 4000000 in
theorem option_am (d : Des) (s : Int) (en : List Int) (x : Rul) (hk : x.kind = 8) (hr : Kt d x en) : AM Try.prog 89 (cO d s en []) [0] [.obj 0 0, .ro (.agg (Ws x))] (cO d s en (Xe x s en)) (.tup []) := by
  refine Y1 Try.func89 rfl _ Try.ntmps89 (by simp) (by simp) fun C gs hn => ?_
  obtain ⟨f5, f7, f8, f4⟩ := Wk hr.1
  have hlk : (x.kids.map fun z => [RV.int z]).length = x.kids.length := lmT ..
  obtain ⟨h0, h1, h2⟩ := kid0 hr (by have := f8 (.inl hk); omega)
  repeat' (first
 | refine Yg 2 (Uq d s en _ _ _ _ (by first | omega | (simp only [Ra, Rb, Rc]; omega))) rfl (by simp [AV.onlys, AV.only]) (by simp [AV.only, AV.onlys]) rfl rfl rfl (Yk _ _ _ _) (Yk _ _ _ _) rfl ⟨rfl, trivial⟩ (fun t h => by injection h with h; subst h; exact tl hn rfl) ?_
 | refine Yg 2 (Kl d s en _ _ (by first | omega | (simp only [Ra, Rb, Rc]; omega)) (by omega) (by omega)) rfl (by simp [AV.onlys, AV.only]) (by simp [AV.only, AV.onlys]) rfl rfl rfl (Yk _ _ _ _) (Yk _ _ _ _) rfl ⟨rfl, trivial⟩ (fun t h => by injection h with h; subst h; exact tl hn rfl) ?_
 | (refine Zg hn rfl rfl rfl ?_; first
 | refine ⟨_, M2 (H7 d s en _) (.cons (lend_c rfl) .nil), ?_⟩
 | refine ⟨_, X0 rfl rfl, ?_⟩)
 | refine Rk Zu hn rfl ?_
 | refine Rl ?_
 | refine Zc 30 rfl ?_
 | (refine Rj 30 rfl ?_; first | ((first | refine Zd rfl ?_ ?_ | refine Ze rfl ?_ ?_); · first | omega | rfl | assumption | (simp only [lmT]; omega)) | ((first | refine Zf rfl ?_ ?_ | refine Za rfl ?_ ?_); · first | omega | rfl | assumption | (simp only [lmT]; omega)) )
 | refine Z1 rfl (tl hn rfl) ?_
 | (refine Zg hn rfl rfl rfl ?_; first
 | refine ⟨_, Zb rfl rfl (by omega) (by assumption), ?_⟩
      ))
  refine Rj 30 rfl ?_
  refine X7 (t := 0) rfl (Vw ?_) (by simp [cO]) (Yk _ _ _ _) rfl
  have := Nh (s + 0) 2
  simp [Xe, hk]
  simpa using this
set_option maxHeartbeats 4000000 in
theorem Pu (d : Des) (s : Int) (en : List Int) (x : Rul) (hk : x.kind = 9) (hr : Kt d x en) : AM Try.prog 90 (cO d s en []) [0] [.obj 0 0, .ro (.agg (Ws x))] (cO d s en (Xe x s en)) (.tup []) := by
  refine Y1 Try.func90 rfl _ Try.ntmps90 (by simp) (by simp) fun C gs hn => ?_
  obtain ⟨f5, f7, f8, f4⟩ := Wk hr.1
  have hlk : (x.kids.map fun z => [RV.int z]).length = x.kids.length := lmT ..
  obtain ⟨h0, h1, h2⟩ := kid0 hr (by have := f8 (.inr hk); omega)
  repeat' (first
 | refine Yg 2 (Uq d s en _ _ _ _ (by first | omega | (simp only [Ra, Rb, Rc]; omega))) rfl (by simp [AV.onlys, AV.only]) (by simp [AV.only, AV.onlys]) rfl rfl rfl (Yk _ _ _ _) (Yk _ _ _ _) rfl ⟨rfl, trivial⟩ (fun t h => by injection h with h; subst h; exact tl hn rfl) ?_
 | refine Yg 2 (Kl d s en _ _ (by first | omega | (simp only [Ra, Rb, Rc]; omega)) (by omega) (by omega)) rfl (by simp [AV.onlys, AV.only]) (by simp [AV.only, AV.onlys]) rfl rfl rfl (Yk _ _ _ _) (Yk _ _ _ _) rfl ⟨rfl, trivial⟩ (fun t h => by injection h with h; subst h; exact tl hn rfl) ?_
 | refine Rk Zu hn rfl ?_
 | refine Rl ?_
 | refine Zc 30 rfl ?_
 | (refine Rj 30 rfl ?_; first | ((first | refine Zd rfl ?_ ?_ | refine Ze rfl ?_ ?_); · first | omega | rfl | assumption | (simp only [lmT]; omega)) | ((first | refine Zf rfl ?_ ?_ | refine Za rfl ?_ ?_); · first | omega | rfl | assumption | (simp only [lmT]; omega)) )
 | refine Z1 rfl (tl hn rfl) ?_
 | (refine Zg hn rfl rfl rfl ?_; first
 | refine ⟨_, Zb rfl rfl (by omega) (by assumption), ?_⟩
      ))
  refine Rj 30 rfl ?_
  refine X7 (t := 0) rfl (Vw ?_) (by simp [cO]) (Yk _ _ _ _) rfl
  simp [Xe, hk]
set_option maxHeartbeats 8000000 in
theorem array_am (d : Des) (s : Int) (en : List Int) (x : Rul) (hk : x.kind = 5) (hr : Kt d x en) : AM Try.prog 86 (cO d s en []) [0] [.obj 0 0, .ro (.agg (Ws x))] (cO d s en (Xe x s en)) (.tup []) := by
  refine Y1 Try.func86 rfl _ Try.ntmps86 (by simp) (by simp) fun C gs hn => ?_
  obtain ⟨f5, f7, f8, f4⟩ := Wk hr.1
  have hlk : (x.kids.map fun z => [RV.int z]).length = x.kids.length := lmT ..
  have hk2 := f5 hk
  obtain ⟨h0, h1, h2⟩ := kid0 hr (by omega)
  obtain ⟨z, hz⟩ : ∃ z, x.kids[(1 : Int).toNat]? = some z := ⟨_, P9 (by simp; omega)⟩
  have hz' : x.kids[1]? = some z := hz
  obtain ⟨h3, h4⟩ := hr.2 1 z hz'
  repeat' (first
 | refine Yg 2 (Uq d s en _ _ _ _ (by first | omega | (simp only [Ra, Rb, Rc]; omega))) rfl (by simp [AV.onlys, AV.only]) (by simp [AV.only, AV.onlys]) rfl rfl rfl (Yk _ _ _ _) (Yk _ _ _ _) rfl ⟨rfl, trivial⟩ (fun t h => by injection h with h; subst h; exact tl hn rfl) ?_
 | refine Yg 2 (Kl d s en _ _ (by first | omega | (simp only [Ra, Rb, Rc]; omega)) (by omega) (by omega)) rfl (by simp [AV.onlys, AV.only]) (by simp [AV.only, AV.onlys]) rfl rfl rfl (Yk _ _ _ _) (Yk _ _ _ _) rfl ⟨rfl, trivial⟩ (fun t h => by injection h with h; subst h; exact tl hn rfl) ?_
 | (refine Zg hn rfl rfl rfl ?_; first
 | refine ⟨_, M2 (H7 d s en _) (.cons (lend_c rfl) .nil), ?_⟩
 | refine ⟨_, X0 rfl rfl, ?_⟩)
 | refine Rk Zu hn rfl ?_
 | refine Rl ?_
 | refine Zc 30 rfl ?_
 | (refine Rj 30 rfl ?_; first | ((first | refine Zd rfl ?_ ?_ | refine Ze rfl ?_ ?_); · first | omega | rfl | assumption | (simp only [lmT]; omega)) | ((first | refine Zf rfl ?_ ?_ | refine Za rfl ?_ ?_); · first | omega | rfl | assumption | (simp only [lmT]; omega)) )
 | refine Z1 rfl (tl hn rfl) ?_
 | (refine Zg hn rfl rfl rfl ?_; first
 | refine ⟨_, Zb rfl rfl (by omega) (by assumption), ?_⟩
      ))
  refine Rj 30 rfl ?_
  refine X7 (t := 0) rfl (Vw ?_) (by simp [cO]) (Yk _ _ _ _) rfl
  have := Nh (s + 3) 3
  simp [Xe, hk, hz']
  simpa [Int.add_assoc] using this
set_option maxRecDepth 100000
def conI (l : List UInt8) : List Ins := l.map fun b => ⟨2, (b.toNat : Int), 0⟩
theorem conI_next {l : List UInt8} {j : Nat} {b : UInt8} (h : l[j]? = some b) : conI (l.take (j + 1)) = conI (l.take j) ++ [⟨2, (b.toNat : Int), 0⟩] := by
  unfold conI
  rw [List.take_add_one, h, List.map_append]
  rfl
theorem conI_len (l : List UInt8) (j : Nat) : (conI (l.take j)).length ≤ j := by unfold conI; rw [lmT, List.length_take]; omega
def seqC (en : List Int) (l : List Int) : List Ins := l.map (Xa en)
theorem seqC_next {en l : List Int} {j : Nat} {b : Int} (h : l[j]? = some b) : seqC en (l.take (j + 1)) = seqC en (l.take j) ++ [Xa en b] := by
  unfold seqC
  rw [List.take_add_one, h, List.map_append]
  rfl
theorem seqC_len (en l : List Int) (j : Nat) : (seqC en (l.take j)).length ≤ j := by unfold seqC; rw [lmT, List.length_take]; omega
set_option maxHeartbeats 4000000 in
theorem Ie (d : Des) (s : Int) (en : List Int) (x : Rul) (hk : x.kind = 2) (hl : x.bytes.length ≤ 1048576) : AM Try.prog 83 (cO d s en []) [0] [.obj 0 0, .ro (.agg (Ws x))] (cO d s en (Xe x s en)) (.tup []) := by
  refine Y1 Try.func83 rfl _ Try.ntmps83 (by simp) (by simp) fun C gs hn => ?_
  have hle : (x.bytes.map fun z => [RV.u8 z]).length = x.bytes.length := lmT ..
  repeat' (first
 | refine Rk Zu hn rfl ?_
 | refine Rl ?_
 | refine Zc 30 rfl ?_
 | (refine Rj 30 rfl ?_; first | ((first | refine Zd rfl ?_ ?_ | refine Ze rfl ?_ ?_); · first | omega | rfl | assumption | (simp only [lmT]; omega)) | ((first | refine Zf rfl ?_ ?_ | refine Za rfl ?_ ?_); · first | omega | rfl | assumption | (simp only [lmT]; omega)) )
 | refine Z1 rfl (tl hn rfl) ?_
 | (refine Zg hn rfl rfl rfl ?_; first
 | refine ⟨_, Zx rfl rfl (by omega), ?_⟩
 | refine ⟨_, Zb rfl rfl (by omega) (by assumption), ?_⟩
      ))
  refine Yw 30 rfl (fun j => [(0, .pin 0 0 (gs 0)), (7, .ro (Yz x.bytes)), (8, .int (x.bytes.length : Int)), (9, .int (j : Int))]) (fun j => cO d s en (conI (x.bytes.take j)) ++ [⟨52, 0, (Ws x).map .ro⟩]) (fun _ => True) x.bytes.length 0 (Nat.zero_le _) trivial ⟨rfl, rfl, by simp [look], rfl, trivial⟩ rfl fun j hj _ next => ?_
  have hcl := conI_len x.bytes j
  by_cases hlt : j < x.bytes.length
  · obtain ⟨b, hb⟩ : ∃ b, x.bytes[(j : Int).toNat]? = some b := ⟨_, P9 hlt⟩
    have hb' : x.bytes[j]? = some b := hb
    repeat' (first
 | refine Yg 2 (Uq d s en _ _ _ _ (by first | omega | (simp only [Ra, Rb, Rc]; omega))) rfl (by simp [AV.onlys, AV.only]) (by simp [AV.only, AV.onlys]) rfl rfl rfl (Yk _ _ _ _) (Yk _ _ _ _) rfl ⟨rfl, trivial⟩ (fun t h => by injection h with h; subst h; exact tl hn rfl) ?_
 | refine Rk Zu hn rfl ?_
 | refine Rl ?_
 | refine Zc 30 rfl ?_
 | (refine Zg hn rfl rfl rfl ?_; first
 | refine ⟨_, Vf rfl, ?_⟩)
 | (refine Rj 30 rfl ?_; first | ((first | refine Zd rfl ?_ ?_ | refine Ze rfl ?_ ?_); · first | omega | rfl | assumption | (simp only [lmT]; omega)) | ((first | refine Zf rfl ?_ ?_ | refine Za rfl ?_ ?_); · first | omega | rfl | assumption | (simp only [lmT]; omega)) )
 | refine Z1 rfl (tl hn rfl) ?_
 | (refine Zg hn rfl rfl rfl ?_; first
 | refine ⟨_, Zx rfl rfl (by omega), ?_⟩
 | refine ⟨_, Zb rfl rfl (by omega) (by assumption), ?_⟩
        ))
    exact next _ _ ⟨rfl, rfl, rfl, rfl, trivial⟩ hlt trivial (Vw (conI_next hb'))
  · obtain rfl : j = x.bytes.length := by omega
    repeat' (first
 | refine Rk Zu hn rfl ?_
 | refine Rl ?_
 | refine Zc 30 rfl ?_
 | (refine Rj 30 rfl ?_; first | ((first | refine Zd rfl ?_ ?_ | refine Ze rfl ?_ ?_); · first | omega | rfl | assumption | (simp only [lmT]; omega)) | ((first | refine Zf rfl ?_ ?_ | refine Za rfl ?_ ?_); · first | omega | rfl | assumption | (simp only [lmT]; omega)) )
 | refine Z1 rfl (tl hn rfl) ?_
 | (refine Zg hn rfl rfl rfl ?_; first
 | refine ⟨_, Zx rfl rfl (by omega), ?_⟩
 | refine ⟨_, Zb rfl rfl (by omega) (by assumption), ?_⟩
        ))
    refine Rj 30 rfl ?_
    refine X7 (t := 0) rfl (Vw ?_) (by simp [cO]) (Yk _ _ _ _) rfl
    rw [List.take_length]
    simp [Xe, hk, conI]
set_option maxHeartbeats 4000000 in
theorem Hj (d : Des) (s : Int) (en : List Int) (x : Rul) (hk : x.kind = 6) (hr : Kt d x en) (hl : x.kids.length ≤ 1048576) : AM Try.prog 87 (cO d s en []) [0] [.obj 0 0, .ro (.agg (Ws x))] (cO d s en (Xe x s en)) (.tup []) := by
  refine Y1 Try.func87 rfl _ Try.ntmps87 (by simp) (by simp) fun C gs hn => ?_
  have hle : (x.kids.map fun z => [RV.int z]).length = x.kids.length := lmT ..
  repeat' (first
 | refine Rk Zu hn rfl ?_
 | refine Rl ?_
 | refine Zc 30 rfl ?_
 | (refine Rj 30 rfl ?_; first | ((first | refine Zd rfl ?_ ?_ | refine Ze rfl ?_ ?_); · first | omega | rfl | assumption | (simp only [lmT]; omega)) | ((first | refine Zf rfl ?_ ?_ | refine Za rfl ?_ ?_); · first | omega | rfl | assumption | (simp only [lmT]; omega)) )
 | refine Z1 rfl (tl hn rfl) ?_
 | (refine Zg hn rfl rfl rfl ?_; first
 | refine ⟨_, Zx rfl rfl (by omega), ?_⟩
 | refine ⟨_, Zb rfl rfl (by omega) (by assumption), ?_⟩
      ))
  refine Yw 30 rfl (fun j => [(0, .pin 0 0 (gs 0)), (7, .ro (Xc x.kids)), (8, .int (x.kids.length : Int)), (9, .int (j : Int))]) (fun j => cO d s en (seqC en (x.kids.take j)) ++ [⟨52, 0, (Ws x).map .ro⟩]) (fun _ => True) x.kids.length 0 (Nat.zero_le _) trivial ⟨rfl, rfl, by simp [look], rfl, trivial⟩ rfl fun j hj _ next => ?_
  have hcl := seqC_len en x.kids j
  by_cases hlt : j < x.kids.length
  · obtain ⟨b, hb⟩ : ∃ b, x.kids[(j : Int).toNat]? = some b := ⟨_, P9 hlt⟩
    have hb' : x.kids[j]? = some b := hb
    obtain ⟨h3, h4⟩ := hr.2 j b hb'
    repeat' (first
 | refine Yg 2 (Kl d s en _ _ (by first | omega | (simp only [Ra, Rb, Rc]; omega)) (by omega) (by omega)) rfl (by simp [AV.onlys, AV.only]) (by simp [AV.only, AV.onlys]) rfl rfl rfl (Yk _ _ _ _) (Yk _ _ _ _) rfl ⟨rfl, trivial⟩ (fun t h => by injection h with h; subst h; exact tl hn rfl) ?_
 | refine Rk Zu hn rfl ?_
 | refine Rl ?_
 | refine Zc 30 rfl ?_
 | (refine Rj 30 rfl ?_; first | ((first | refine Zd rfl ?_ ?_ | refine Ze rfl ?_ ?_); · first | omega | rfl | assumption | (simp only [lmT]; omega)) | ((first | refine Zf rfl ?_ ?_ | refine Za rfl ?_ ?_); · first | omega | rfl | assumption | (simp only [lmT]; omega)) )
 | refine Z1 rfl (tl hn rfl) ?_
 | (refine Zg hn rfl rfl rfl ?_; first
 | refine ⟨_, Zx rfl rfl (by omega), ?_⟩
 | refine ⟨_, Zb rfl rfl (by omega) (by assumption), ?_⟩
        ))
    exact next _ _ ⟨rfl, rfl, rfl, rfl, trivial⟩ hlt trivial (Vw (seqC_next hb'))
  · obtain rfl : j = x.kids.length := by omega
    repeat' (first
 | refine Rk Zu hn rfl ?_
 | refine Rl ?_
 | refine Zc 30 rfl ?_
 | (refine Rj 30 rfl ?_; first | ((first | refine Zd rfl ?_ ?_ | refine Ze rfl ?_ ?_); · first | omega | rfl | assumption | (simp only [lmT]; omega)) | ((first | refine Zf rfl ?_ ?_ | refine Za rfl ?_ ?_); · first | omega | rfl | assumption | (simp only [lmT]; omega)) )
 | refine Z1 rfl (tl hn rfl) ?_
 | (refine Zg hn rfl rfl rfl ?_; first
 | refine ⟨_, Zx rfl rfl (by omega), ?_⟩
 | refine ⟨_, Zb rfl rfl (by omega) (by assumption), ?_⟩
        ))
    refine Rj 30 rfl ?_
    refine X7 (t := 0) rfl (Vw ?_) (by simp [cO]) (Yk _ _ _ _) rfl
    rw [List.take_length]
    simp [Xe, hk, seqC]
def choA (x : Rul) (s : Int) (en : List Int) (j : Nat) : List Ins := Xa en (x.kids.headD 0) :: Ql x.tags (s + (x.tags.length : Int) + 2) j
def choB (x : Rul) (s : Int) (en : List Int) (j : Nat) : List Ins := choA x s en x.tags.length ++ ⟨12, 3, 0⟩ :: X5 x.kids en j
theorem choB_len (x : Rul) (s : Int) (en : List Int) (j : Nat) : (choB x s en j).length ≤ x.tags.length + 2 + 2 * j := by
  have := Un x.kids en j
  unfold choB choA
  simp only [Ra, Rb, Vh]
  omega
theorem choA_len (x : Rul) (s : Int) (en : List Int) (j : Nat) : (choA x s en j).length = j + 1 := by
  unfold choA
  simp only [Rb, Vh]
set_option maxHeartbeats 8000000 in
theorem choice_am (d : Des) (s : Int) (en : List Int) (x : Rul) (hk : x.kind = 7) (hr : Kt d x en) (hl : x.kids.length ≤ 1048576) : AM Try.prog 88 (cO d s en []) [0] [.obj 0 0, .ro (.agg (Ws x))] (cO d s en (Xe x s en)) (.tup []) := by
  refine Y1 Try.func88 rfl _ Try.ntmps88 (by simp) (by simp) fun C gs hn => ?_
  obtain ⟨f5, f7, f8, f4⟩ := Wk hr.1
  have hlk : (x.kids.map fun z => [RV.int z]).length = x.kids.length := lmT ..
  have hlt' : (x.tags.map fun z => [RV.int z]).length = x.tags.length := lmT ..
  obtain ⟨hkl, _, _, _⟩ := f7 hk
  obtain ⟨h0, h1, h2⟩ := kid0 hr (by omega)
  repeat' (first
 | refine Yg 2 (Uq d s en _ _ _ _ (by first | omega | (simp only [Ra, Rb, Rc]; omega))) rfl (by simp [AV.onlys, AV.only]) (by simp [AV.only, AV.onlys]) rfl rfl rfl (Yk _ _ _ _) (Yk _ _ _ _) rfl ⟨rfl, trivial⟩ (fun t h => by injection h with h; subst h; exact tl hn rfl) ?_
 | refine Yg 2 (Kl d s en _ _ (by first | omega | (simp only [Ra, Rb, Rc]; omega)) (by omega) (by omega)) rfl (by simp [AV.onlys, AV.only]) (by simp [AV.only, AV.onlys]) rfl rfl rfl (Yk _ _ _ _) (Yk _ _ _ _) rfl ⟨rfl, trivial⟩ (fun t h => by injection h with h; subst h; exact tl hn rfl) ?_
 | ((first | refine Zg hn rfl rfl rfl ?_ | refine Zm rfl rfl ?_); first
 | refine ⟨_, M2 (H7 d s en _) (.cons (lend_c rfl) .nil), ?_⟩
 | refine ⟨_, X0 rfl rfl, ?_⟩)
 | refine Rk Zu hn rfl ?_
 | refine Rl ?_
 | refine Zc 30 rfl ?_
 | ((first | refine Zg hn rfl rfl rfl ?_ | refine Zm rfl rfl ?_); first
 | refine ⟨_, Yb rfl, ?_⟩)
 | (refine Rj 30 rfl ?_; first | refine Zz rfl ?_ | ((first | refine Zd rfl ?_ ?_ | refine Ze rfl ?_ ?_); · first | omega | rfl | assumption | (simp only [lmT]; omega)) | ((first | refine Zf rfl ?_ ?_ | refine Za rfl ?_ ?_); · first | omega | rfl | assumption | (simp only [lmT]; omega)) )
 | refine Z1 rfl (tl hn rfl) ?_
 | refine Rm Zu hn rfl rfl ?_
 | refine Rn ?_
 | refine Z2 30 Ym hn rfl (by kernel_rfl) rfl ?_
 | ((first | refine Zg hn rfl rfl rfl ?_ | refine Zm rfl rfl ?_); first
 | refine ⟨_, Zx rfl rfl (by omega), ?_⟩
 | refine ⟨_, Zb rfl rfl (by omega) (by assumption), ?_⟩
 | refine ⟨_, Z4 rfl rfl (by omega), ?_⟩
 | refine ⟨_, Zv rfl rfl rfl, ?_⟩
 | refine ⟨_, Z7 rfl rfl (by omega), ?_⟩
 | refine ⟨_, Zr rfl rfl rfl rfl rfl rfl, ?_⟩))
  refine Yw 30 rfl (fun j => [(0, .pin 0 0 (gs 0)), (3, .obj 2 0), (4, .int (w64 (s + (x.tags.length : Int) + 2))), (22, .ro (Xc x.tags)), (23, .int (x.tags.length : Int)), (24, .int (j : Int))]) (fun j => cO d s en (choA x s en j) ++ [⟨52, 0, (Ws x).map .ro⟩]) (fun _ => True) x.tags.length 0 (Nat.zero_le _) trivial ⟨rfl, rfl, ?_, rfl, by simp [look], rfl, trivial⟩ rfl fun j hj _ next => ?_
  · show AV.int _ = AV.int _
    rw [hlt']
    have e1 := Nh (w64 (s + 1) + (x.tags.length : Int)) 1
    have e2 := Nh (s + 1) (x.tags.length + 1 : Int)
    simp only [Ra, Rb, Rc]
    show AV.int (w64 (w64 (w64 (s + (1 : Int)) + (x.tags.length : Int)) + 1)) = _
    rw [e1, Int.add_assoc, e2, show s + 1 + ((x.tags.length : Int) + 1) = s + (x.tags.length : Int) + 2 by omega]
  have hcl := choA_len x s en j
  by_cases hlt : j < x.tags.length
  · obtain ⟨b, hb⟩ : ∃ b, x.tags[(j : Int).toNat]? = some b := ⟨_, P9 hlt⟩
    have hb' : x.tags[j]? = some b := hb
    repeat' (first
 | refine Yg 2 (Uq d s en _ _ _ _ (by first | omega | (simp only [Ra, Rb, Rc]; omega))) rfl (by simp [AV.onlys, AV.only]) (by simp [AV.only, AV.onlys]) rfl rfl rfl (Yk _ _ _ _) (Yk _ _ _ _) rfl ⟨rfl, trivial⟩ (fun t h => by injection h with h; subst h; exact tl hn rfl) ?_
 | ((first | refine Zg hn rfl rfl rfl ?_ | refine Zm rfl rfl ?_); first
 | refine ⟨_, Z7 rfl rfl (by omega), ?_⟩)
 | refine Rk Zu hn rfl ?_
 | refine Rl ?_
 | refine Zc 30 rfl ?_
 | ((first | refine Zg hn rfl rfl rfl ?_ | refine Zm rfl rfl ?_); first
 | refine ⟨_, X0 (t := 34) rfl rfl, ?_⟩)
 | (refine Rj 30 rfl ?_; first | refine Zz rfl ?_ | ((first | refine Zd rfl ?_ ?_ | refine Ze rfl ?_ ?_); · first | omega | rfl | assumption | (simp only [lmT]; omega)) | ((first | refine Zf rfl ?_ ?_ | refine Za rfl ?_ ?_); · first | omega | rfl | assumption | (simp only [lmT]; omega)) )
 | refine Z1 rfl (tl hn rfl) ?_
 | refine Rm Zu hn rfl rfl ?_
 | refine Rn ?_
 | refine Z2 30 Ym hn rfl (by kernel_rfl) rfl ?_
 | ((first | refine Zg hn rfl rfl rfl ?_ | refine Zm rfl rfl ?_); first
 | refine ⟨_, Zx rfl rfl (by omega), ?_⟩
 | refine ⟨_, Zb rfl rfl (by omega) (by assumption), ?_⟩
 | refine ⟨_, Z4 rfl rfl (by omega), ?_⟩
 | refine ⟨_, Zv rfl rfl rfl, ?_⟩
 | refine ⟨_, Z7 rfl rfl (by omega), ?_⟩
 | refine ⟨_, Zr rfl rfl rfl rfl rfl rfl, ?_⟩))
    refine next _ _ ⟨rfl, rfl, rfl, rfl, rfl, rfl, trivial⟩ hlt trivial (Vw ?_)
    unfold choA
    rw [Ih hb']
    have := Nh (s + (x.tags.length : Int) + 2) (2 * (j : Int))
    show _ :: (_ ++ [(⟨11, b, w64 (s + (x.tags.length : Int) + 2 + 2 * (j : Int))⟩ : Ins)]) = _ :: _ ++ [(⟨11, b, w64 (w64 (s + (x.tags.length : Int) + 2) + 2 * (j : Int))⟩ : Ins)]
    rw [this]
    rfl
  · obtain rfl : j = x.tags.length := by omega
    repeat' (first
 | refine Yg 2 (Uq d s en _ _ _ _ (by first | omega | (simp only [Ra, Rb, Rc]; omega))) rfl (by simp [AV.onlys, AV.only]) (by simp [AV.only, AV.onlys]) rfl rfl rfl (Yk _ _ _ _) (Yk _ _ _ _) rfl ⟨rfl, trivial⟩ (fun t h => by injection h with h; subst h; exact tl hn rfl) ?_
 | refine Rk Zu hn rfl ?_
 | refine Rl ?_
 | refine Zc 30 rfl ?_
 | (refine Rj 30 rfl ?_; first | refine Zz rfl ?_ | ((first | refine Zd rfl ?_ ?_ | refine Ze rfl ?_ ?_); · first | omega | rfl | assumption | (simp only [lmT]; omega)) | ((first | refine Zf rfl ?_ ?_ | refine Za rfl ?_ ?_); · first | omega | rfl | assumption | (simp only [lmT]; omega)) )
 | refine Z1 rfl (tl hn rfl) ?_
 | refine Rm Zu hn rfl rfl ?_
 | refine Rn ?_
 | refine Z2 30 Ym hn rfl (by kernel_rfl) rfl ?_
 | ((first | refine Zg hn rfl rfl rfl ?_ | refine Zm rfl rfl ?_); first
 | refine ⟨_, Zx rfl rfl (by omega), ?_⟩
 | refine ⟨_, Zb rfl rfl (by omega) (by assumption), ?_⟩
 | refine ⟨_, Z4 rfl rfl (by omega), ?_⟩
 | refine ⟨_, Zv rfl rfl rfl, ?_⟩
 | refine ⟨_, Z7 rfl rfl (by omega), ?_⟩
 | refine ⟨_, Zr rfl rfl rfl rfl rfl rfl, ?_⟩))
    refine Yw 30 rfl (fun j => [(0, .pin 0 0 (gs 0)), (3, .obj 2 0), (41, .int (x.tags.length : Int)), (42, .int (j : Int))]) (fun j => cO d s en (choB x s en j) ++ [⟨52, 0, (Ws x).map .ro⟩]) (fun _ => True) x.tags.length 0 (Nat.zero_le _) trivial ⟨rfl, rfl, by simp [look], rfl, trivial⟩ rfl fun j hj _ next2 => ?_
    have hcb := choB_len x s en j
    by_cases hlt : j < x.tags.length
    · obtain ⟨b, hb⟩ : ∃ b, x.kids[((j : Int) + 1).toNat]? = some b := ⟨_, P9 (by omega)⟩
      have hb' : x.kids[j + 1]? = some b := by rw [← hb]; congr 1
      obtain ⟨h3, h4⟩ := hr.2 (j + 1) b hb'
      have hbn : choB x s en (j + 1) = choB x s en j ++ ((if j = 0 then [] else [⟨10, 0, 0⟩]) ++ [Xa en b]) := by
        unfold choB
        rw [Mn hb']
        simp
      by_cases hj0 : j = 0
      · subst hj0
        repeat' (first
 | refine Yg 2 (Uq d s en _ _ _ _ (by first | omega | (simp only [Ra, Rb, Rc]; omega))) rfl (by simp [AV.onlys, AV.only]) (by simp [AV.only, AV.onlys]) rfl rfl rfl (Yk _ _ _ _) (Yk _ _ _ _) rfl ⟨rfl, trivial⟩ (fun t h => by injection h with h; subst h; exact tl hn rfl) ?_
 | refine Yg 2 (Kl d s en _ _ (by first | omega | (simp only [Ra, Rb, Rc]; omega)) (by omega) (by omega)) rfl (by simp [AV.onlys, AV.only]) (by simp [AV.only, AV.onlys]) rfl rfl rfl (Yk _ _ _ _) (Yk _ _ _ _) rfl ⟨rfl, trivial⟩ (fun t h => by injection h with h; subst h; exact tl hn rfl) ?_
 | refine Rk Zu hn rfl ?_
 | refine Rl ?_
 | refine Zc 30 rfl ?_
 | (refine Rj 30 rfl ?_; first | refine Zz rfl ?_ | ((first | refine Zd rfl ?_ ?_ | refine Ze rfl ?_ ?_); · first | omega | rfl | assumption | (simp only [lmT]; omega)) | ((first | refine Zf rfl ?_ ?_ | refine Za rfl ?_ ?_); · first | omega | rfl | assumption | (simp only [lmT]; omega)) )
 | refine Z1 rfl (tl hn rfl) ?_
 | refine Rm Zu hn rfl rfl ?_
 | refine Rn ?_
 | refine Z2 30 Ym hn rfl (by kernel_rfl) rfl ?_
 | ((first | refine Zg hn rfl rfl rfl ?_ | refine Zm rfl rfl ?_); first
 | refine ⟨_, Zx rfl rfl (by omega), ?_⟩
 | refine ⟨_, Zb rfl rfl (by omega) (by assumption), ?_⟩
 | refine ⟨_, Z4 rfl rfl (by omega), ?_⟩
 | refine ⟨_, Zv rfl rfl rfl, ?_⟩
 | refine ⟨_, Z7 rfl rfl (by omega), ?_⟩
 | refine ⟨_, Zr rfl rfl rfl rfl rfl rfl, ?_⟩))
        all_goals first
          | (exfalso; omega)
          | exact next2 _ _ ⟨rfl, rfl, rfl, rfl, trivial⟩ hlt trivial (Vw (by rw [hbn]; rfl))
      · repeat' (first
 | refine Yg 2 (Uq d s en _ _ _ _ (by first | omega | (simp only [Ra, Rb, Rc]; omega))) rfl (by simp [AV.onlys, AV.only]) (by simp [AV.only, AV.onlys]) rfl rfl rfl (Yk _ _ _ _) (Yk _ _ _ _) rfl ⟨rfl, trivial⟩ (fun t h => by injection h with h; subst h; exact tl hn rfl) ?_
 | refine Yg 2 (Kl d s en _ _ (by first | omega | (simp only [Ra, Rb, Rc]; omega)) (by omega) (by omega)) rfl (by simp [AV.onlys, AV.only]) (by simp [AV.only, AV.onlys]) rfl rfl rfl (Yk _ _ _ _) (Yk _ _ _ _) rfl ⟨rfl, trivial⟩ (fun t h => by injection h with h; subst h; exact tl hn rfl) ?_
 | refine Rk Zu hn rfl ?_
 | refine Rl ?_
 | refine Zc 30 rfl ?_
 | (refine Rj 30 rfl ?_; first | refine Zz rfl ?_ | ((first | refine Zd rfl ?_ ?_ | refine Ze rfl ?_ ?_); · first | omega | rfl | assumption | (simp only [lmT]; omega)) | ((first | refine Zf rfl ?_ ?_ | refine Za rfl ?_ ?_); · first | omega | rfl | assumption | (simp only [lmT]; omega)) )
 | refine Z1 rfl (tl hn rfl) ?_
 | refine Rm Zu hn rfl rfl ?_
 | refine Rn ?_
 | refine Z2 30 Ym hn rfl (by kernel_rfl) rfl ?_
 | ((first | refine Zg hn rfl rfl rfl ?_ | refine Zm rfl rfl ?_); first
 | refine ⟨_, Zx rfl rfl (by omega), ?_⟩
 | refine ⟨_, Zb rfl rfl (by omega) (by assumption), ?_⟩
 | refine ⟨_, Z4 rfl rfl (by omega), ?_⟩
 | refine ⟨_, Zv rfl rfl rfl, ?_⟩
 | refine ⟨_, Z7 rfl rfl (by omega), ?_⟩
 | refine ⟨_, Zr rfl rfl rfl rfl rfl rfl, ?_⟩))
        all_goals first
          | (exfalso; omega)
          | exact next2 _ _ ⟨rfl, rfl, rfl, rfl, trivial⟩ hlt trivial (Vw (by rw [hbn, if_neg hj0]; simp))
    · obtain rfl : j = x.tags.length := by omega
      repeat' (first
 | refine Rk Zu hn rfl ?_
 | refine Rl ?_
 | refine Zc 30 rfl ?_
 | (refine Rj 30 rfl ?_; first | refine Zz rfl ?_ | ((first | refine Zd rfl ?_ ?_ | refine Ze rfl ?_ ?_); · first | omega | rfl | assumption | (simp only [lmT]; omega)) | ((first | refine Zf rfl ?_ ?_ | refine Za rfl ?_ ?_); · first | omega | rfl | assumption | (simp only [lmT]; omega)) )
 | refine Z1 rfl (tl hn rfl) ?_
 | refine Rm Zu hn rfl rfl ?_
 | refine Rn ?_
 | refine Z2 30 Ym hn rfl (by kernel_rfl) rfl ?_
 | ((first | refine Zg hn rfl rfl rfl ?_ | refine Zm rfl rfl ?_); first
 | refine ⟨_, Zx rfl rfl (by omega), ?_⟩
 | refine ⟨_, Zb rfl rfl (by omega) (by assumption), ?_⟩
 | refine ⟨_, Z4 rfl rfl (by omega), ?_⟩
 | refine ⟨_, Zv rfl rfl rfl, ?_⟩
 | refine ⟨_, Z7 rfl rfl (by omega), ?_⟩
 | refine ⟨_, Zr rfl rfl rfl rfl rfl rfl, ?_⟩))
      refine Rj 30 rfl ?_
      refine X7 (t := 0) rfl (Vw ?_) (by simp [cO]) (Yk _ _ _ _) rfl
      simp [Xe, hk, choB, choA]
set_option maxRecDepth 100000
instance t1_cmpF : T1 Try.prog 102 := ⟨by kernel_rfl⟩
instance sl_cmpF : SL Try.prog 105 102 (.nilFunc) 1 8 := ⟨U0 Try.underlying105 (by kernel_rfl) rfl (by decide)⟩
def tblC : List AV := [.fn (.func 82) [] [], .fn (.func 83) [] [], .fn (.func 84) [] [], .fn (.func 85) [] [], .fn (.func 86) [] [], .fn (.func 87) [] [], .fn (.func 88) [] [], .fn (.func 89) [] [], .fn (.func 90) [] [], .fn (.func 91) [] []]
theorem body_len {d : Des} {x : Rul} {en : List Int} (s : Int) (hk : Va d x) (ht : x.total ≤ 1048576) : (Xe x s en).length ≤ 4194304 := by
  have etx : x.total = x.name.size + x.bytes.length + (x.names.length + (x.names.map ByteArray.size).sum) + x.tags.length + x.kids.length := rfl
  have hc := Un x.kids en x.tags.length
  unfold Xe
  split
  · simp
  split
  · rw [lmT]; omega
  split
  · simp
  split
  · simp
  split
  · simp
  split
  · rw [lmT]; omega
  split
  · simp only [Rb, Ra, Vh]; omega
  split
  · simp
  split
  · simp
  · simp
theorem Av (r : Nat → Nat) : ∀ rs : List RV, Y0 r (rs.map .ro) = rs.map .ro
  | [] => rfl
  | x :: rs => by simp only [List.map_cons, Y0, AV.ren, Av r rs]
set_option maxHeartbeats 8000000 in
theorem Xq {f : FuncId} {fn : Func} [FN Try.prog f fn] (d : Des) (hd : W0 d ≤ 1048576) (n : Nat) (x : Rul) (hx : d[n]? = some x) (s : Int) (en : List Int) (hkn : ACv Try.prog 68 [W1 d, .int (n : Int)] (.bool true)) (hen : n ≤ en.length) (hk : Va d x) (h1 : 1 ≤ x.kind) (h2 : x.kind ≤ 10)
    (hM : AM Try.prog f (cO d s en []) [0] [.obj 0 0, .ro (.agg (Ws x))] (cO d s en (Xe x s en)) (.tup [])) (hT : tblC[(x.kind - 1).toNat * 1]? = some (.fn (.func f) [] [])) :
    AC Try.prog 32 [W1 d, .int (n : Int), .int s, Xc en] (fun rr => rr = .row 59 3 ((Xm x s en).flatMap Vr)) := by
  have hlm : (d.map Ws).length = d.length := lmT ..
  have hle : (en.map fun z => [RV.int z]).length = en.length := lmT ..
  have hx' : d[(n : Int).toNat]? = some x := hx
  have hb := body_len s (en := en) hk (Nat.le_trans (by have := U5 Rul.total (Re hx); have et : W0 d = d.length + (d.map Rul.total).sum := rfl; omega) hd)
  have hA := Uq d s en (Xe x s en) 10 0 0 (by omega)
  refine Yh Try.func32 rfl _ Try.ntmps32 (by simp) fun C hn hm => ?_
  repeat' (first
 | refine Y2 (id := 6) 30 [] [0, 1, 2, 3, 4, 5, 6, 7] 8 [] Ym hn rfl (by kernel_rfl) rfl .nil (by decide) (by decide) (by decide) ?_
 | refine V0 rfl rfl rfl rfl rfl (tl hn rfl) ?_
 | refine RunsT.nil ?_
 | refine RunsT.step Zu rfl rfl (fun _ => rfl) (by decide) ?_
 | refine RunsT.pur (fun _ => Zw hkn rfl) (by decide) rfl rfl ?_
 | refine RunsT.pur (fun _ => Yj rfl) (by decide) rfl rfl ?_
 | refine RunsT.pur (fun _ => Yl (n := 10) rfl rfl rfl rfl rfl (by omega) (by omega)) (by decide) rfl rfl ?_
 | refine RunsT.pur (fun _ => Yo rfl rfl hT) (by decide) rfl rfl ?_
 | refine RunsT.pur (fun _ => Wf rfl) (by decide) rfl rfl ?_
 | refine RunsT.pur (fun _ => Z4 rfl rfl (by omega)) (by decide) rfl rfl ?_
 | refine RunsT.pur (fun _ => Zb rfl rfl (by omega) (by assumption)) (by decide) rfl rfl ?_
 | refine Rk Zu hn rfl ?_
 | refine Rl ?_
 | refine Zc 30 rfl ?_
 | ((first | refine Zg hn rfl rfl rfl ?_ | refine Zm rfl rfl ?_); first
 | refine ⟨_, Zw hkn rfl, ?_⟩
 | refine ⟨_, Yj rfl, ?_⟩
 | refine ⟨_, Yl (n := 10) rfl rfl rfl rfl rfl (by omega) (by omega), ?_⟩
 | refine ⟨_, Yo rfl rfl hT, ?_⟩
 | refine ⟨_, Wf rfl, ?_⟩
 | refine ⟨_, Z4 rfl rfl (by omega), ?_⟩)
 | (refine Rj 30 rfl ?_; first | ((first | refine Zd rfl ?_ ?_ | refine Ze rfl ?_ ?_); · first | omega | rfl | assumption | (simp only [lmT]; omega)) | ((first | refine Zf rfl ?_ ?_ | refine Za rfl ?_ ?_); · first | omega | rfl | assumption | (simp only [lmT]; omega)) | refine Ri (Zt hm rfl rfl ?_) | exact Ri (Zj hm rfl rfl rfl (nbT rfl) rfl rfl))
 | refine Z1 rfl (tl hn rfl) ?_
 | refine Z6 (tl hn rfl) ?_
 | refine Z3 rfl rfl rfl rfl (nbT rfl) ?_
 | ((first | refine Zg hn rfl rfl rfl ?_ | refine Zm rfl rfl ?_); first
 | refine ⟨_, Zx rfl rfl (by omega), ?_⟩
 | refine ⟨_, Zb rfl rfl (by omega) (by assumption), ?_⟩
 | refine ⟨_, Z4 rfl rfl (by omega), ?_⟩
 | refine ⟨_, Zv rfl rfl rfl, ?_⟩
 | refine ⟨_, Z7 rfl rfl (by omega), ?_⟩
 | refine ⟨_, Zr rfl rfl rfl rfl rfl rfl, ?_⟩)
 | ((first | refine Zi rfl rfl rfl ?_ ?_ | refine Zh rfl rfl rfl ?_ ?_ | refine Zk rfl rfl rfl ?_ ?_ | refine Zl rfl rfl rfl ?_ ?_ | refine Zo rfl rfl rfl ?_ ?_ | refine Zn rfl rfl rfl ?_ ?_ | refine Zq rfl rfl rfl ?_ ?_ | refine Zs rfl rfl rfl ?_ ?_) <;> intro h <;> try (exfalso; first | omega | contradiction | (simp only [lmT] at h; omega))))
  refine B6 2 3 (e := 59) (sz := 3) (by decide) rfl rfl ?_
  refine op_callMF [2, 4] rfl hM rfl (by simp [AV.onlys, AV.only, cO]) ⟨rfl, rfl, rfl, by decide, ⟨rfl, rfl, trivial⟩, Yk _ _ _ _, rfl, ⟨.inr rfl, .inr rfl, .inl rfl, .inr rfl, .inl rfl, trivial⟩⟩ (fun t h => by injection h with h; subst h; exact tl hn rfl) ?_
  repeat' (first
 | refine Bf [2, 4] hA rfl (by simp [AV.onlys, AV.only, cO]) ⟨rfl, rfl, rfl, by decide, ⟨rfl, rfl, trivial⟩, Yk _ _ _ _, rfl, ⟨.inr rfl, .inr rfl, .inl rfl, .inr rfl, .inl rfl, trivial⟩⟩ (fun t h => by injection h with h; subst h; exact tl hn rfl) ?_
 | refine Rk Zu hn rfl ?_
 | refine Rl ?_
 | refine Zc 30 rfl ?_
 | ((first | refine Zg hn rfl rfl rfl ?_ | refine Zm rfl rfl ?_); first
 | refine ⟨_, Wf rfl, ?_⟩)
 | (refine Rj 30 rfl ?_; first | ((first | refine Zd rfl ?_ ?_ | refine Ze rfl ?_ ?_); · first | omega | rfl | assumption | (simp only [lmT]; omega)) | ((first | refine Zf rfl ?_ ?_ | refine Za rfl ?_ ?_); · first | omega | rfl | assumption | (simp only [lmT]; omega)) | refine Ri (Zt hm rfl rfl ?_) | exact Ri (Zj hm rfl rfl rfl (nbT rfl) rfl rfl))
 | refine Z1 rfl (tl hn rfl) ?_
 | refine Z6 (tl hn rfl) ?_
 | refine Z3 rfl rfl rfl rfl (nbT rfl) ?_
 | ((first | refine Zg hn rfl rfl rfl ?_ | refine Zm rfl rfl ?_); first
 | refine ⟨_, Zx rfl rfl (by omega), ?_⟩
 | refine ⟨_, Zb rfl rfl (by omega) (by assumption), ?_⟩
 | refine ⟨_, Z4 rfl rfl (by omega), ?_⟩
 | refine ⟨_, Zv rfl rfl rfl, ?_⟩
 | refine ⟨_, Z7 rfl rfl (by omega), ?_⟩
 | refine ⟨_, Zr rfl rfl rfl rfl rfl rfl, ?_⟩)
 | ((first | refine Zi rfl rfl rfl ?_ ?_ | refine Zh rfl rfl rfl ?_ ?_ | refine Zk rfl rfl rfl ?_ ?_ | refine Zl rfl rfl rfl ?_ ?_ | refine Zo rfl rfl rfl ?_ ?_ | refine Zn rfl rfl rfl ?_ ?_ | refine Zq rfl rfl rfl ?_ ?_ | refine Zs rfl rfl rfl ?_ ?_) <;> intro h <;> try (exfalso; first | omega | contradiction | (simp only [lmT] at h; omega))))
  exact Rj 30 rfl (Ri (Xd (rs := (Xm x s en).flatMap Vr) hm rfl rfl rfl (Av _ _) rfl))
theorem Pt {d : Des} {x : Rul} (h : Va d x) : 1 ≤ x.kind ∧ x.kind ≤ 10 := by
  unfold Va at h
  omega
theorem If (d : Des) (hd : W0 d ≤ 1048576) (hG : Ut d) (n : Nat) (x : Rul) (hx : d[n]? = some x) (s : Int) (en : List Int) (hkn : ACv Try.prog 68 [W1 d, .int (n : Int)] (.bool true)) (hen : n ≤ en.length) :
    AC Try.prog 32 [W1 d, .int (n : Int), .int s, Xc en] (fun rr => rr = .row 59 3 ((Xm x s en).flatMap Vr)) := by
  have hk := Tj hG hx
  have hr : Kt d x en := ⟨hk, fun k z hz => by have := H3 hG hx hz; omega⟩
  obtain ⟨b1, b2⟩ := Pt hk
  have hxt := U5 Rul.total (Re hx)
  have et : W0 d = d.length + (d.map Rul.total).sum := rfl
  have etx : x.total = x.name.size + x.bytes.length + (x.names.length + (x.names.map ByteArray.size).sum) + x.tags.length + x.kids.length := rfl
  have hb10 : x.kind = 10 → x.bytes.length = 1 := fun e => by
    have h := hk
    unfold Va at h
    omega
  have hkk : x.kind = 1 ∨ x.kind = 2 ∨ x.kind = 3 ∨ x.kind = 4 ∨ x.kind = 5 ∨ x.kind = 6 ∨ x.kind = 7 ∨ x.kind = 8 ∨ x.kind = 9 ∨ x.kind = 10 := by omega
  rcases hkk with e | e | e | e | e | e | e | e | e | e
  · exact Xq d hd n x hx s en hkn hen hk b1 b2 (Po d s en x e) (by rw [e]; rfl)
  · exact Xq d hd n x hx s en hkn hen hk b1 b2 (Ie d s en x e (by omega)) (by rw [e]; rfl)
  · exact Xq d hd n x hx s en hkn hen hk b1 b2 (fixed_am d s en x e) (by rw [e]; rfl)
  · exact Xq d hd n x hx s en hkn hen hk b1 b2 (sized_am d s en x e hr) (by rw [e]; rfl)
  · exact Xq d hd n x hx s en hkn hen hk b1 b2 (array_am d s en x e hr) (by rw [e]; rfl)
  · exact Xq d hd n x hx s en hkn hen hk b1 b2 (Hj d s en x e hr (by omega)) (by rw [e]; rfl)
  · exact Xq d hd n x hx s en hkn hen hk b1 b2 (choice_am d s en x e hr (by omega)) (by rw [e]; rfl)
  · exact Xq d hd n x hx s en hkn hen hk b1 b2 (option_am d s en x e hr) (by rw [e]; rfl)
  · exact Xq d hd n x hx s en hkn hen hk b1 b2 (Pu d s en x e hr) (by rw [e]; rfl)
  · exact Xq d hd n x hx s en hkn hen hk b1 b2 (D0 d s en x e (hb10 e)) (by rw [e]; rfl)
noncomputable def cmpL (d : Des) (r s : Int) (en : List Int) : List Ins := open Classical in if Kn d r ∧ r ≤ en.length then (match d[r.toNat]? with
  | some x => Xm x s en
  | none => []) else []
theorem B0 {d : Des} {r s : Int} {en : List Int} {x : Rul} (h : Kn d r ∧ r ≤ en.length) (hx : d[r.toNat]? = some x) : cmpL d r s en = Xm x s en := by unfold cmpL; rw [if_pos h, hx]
theorem Ig {d : Des} {r s : Int} {en : List Int} (h : ¬ (Kn d r ∧ r ≤ en.length)) : cmpL d r s en = [] := by unfold cmpL; rw [if_neg h]
set_option maxHeartbeats 4000000 in
theorem My (d : Des) (ho : P5 d) (hd : W0 d ≤ 1048576) (r s : Int) (en : List Int) : AC Try.prog 32 [W1 d, .int r, .int s, Xc en] (fun rr => rr = .row 59 3 ((cmpL d r s en).flatMap Vr)) := by
  have hkn := known_ac d ho hd r
  have hle : (en.map fun z => [RV.int z]).length = en.length := lmT ..
  by_cases hK : Kn d r
  · rw [decide_eq_true hK] at hkn
    obtain ⟨n, x, rfl, hn', hx⟩ := kn_nat hK
    by_cases hen : (n : Int) ≤ en.length
    · rw [B0 ⟨hK, hen⟩ hx]
      exact If d hd hK.1 n x hx s en hkn (by omega)
    · rw [Ig fun h => hen h.2]
      refine Yh Try.func32 rfl _ Try.ntmps32 (by simp) fun C hn hm => ?_
      repeat' (first
 | refine Xl (tl hn rfl) ?_
 | refine Rk Zu hn rfl ?_
 | refine Rl ?_
 | refine Zc 30 rfl ?_
 | ((first | refine Zg hn rfl rfl rfl ?_ | refine Zm rfl rfl ?_); first
 | refine ⟨_, Zw hkn rfl, ?_⟩)
 | (refine Rj 30 rfl ?_; first | refine Zp rfl ?_ | ((first | refine Zd rfl ?_ ?_ | refine Ze rfl ?_ ?_); · first | omega | rfl | assumption | (simp only [lmT]; omega)) | ((first | refine Zf rfl ?_ ?_ | refine Za rfl ?_ ?_); · first | omega | rfl | assumption | (simp only [lmT]; omega)) | refine Ri (Zt hm rfl rfl ?_) | exact Ri (Zj hm rfl rfl rfl (nbT rfl) rfl rfl))
 | refine Z1 rfl (tl hn rfl) ?_
 | ((first | refine Zg hn rfl rfl rfl ?_ | refine Zm rfl rfl ?_); first
 | refine ⟨_, Zx rfl rfl (by omega), ?_⟩
 | refine ⟨_, Zb rfl rfl (by omega) (by assumption), ?_⟩
 | refine ⟨_, Z4 rfl rfl (by omega), ?_⟩
 | refine ⟨_, Zv rfl rfl rfl, ?_⟩
 | refine ⟨_, Z7 rfl rfl (by omega), ?_⟩
 | refine ⟨_, Zr rfl rfl rfl rfl rfl rfl, ?_⟩)
 | ((first | refine Zi rfl rfl rfl ?_ ?_ | refine Zh rfl rfl rfl ?_ ?_ | refine Zk rfl rfl rfl ?_ ?_ | refine Zl rfl rfl rfl ?_ ?_ | refine Zo rfl rfl rfl ?_ ?_ | refine Zn rfl rfl rfl ?_ ?_ | refine Zq rfl rfl rfl ?_ ?_ | refine Zs rfl rfl rfl ?_ ?_) <;> intro h <;> try (exfalso; first | omega | contradiction | (simp only [lmT] at h; omega))))
      all_goals first
        | exact Rj 30 rfl (Ri (Xd (rs := []) hm rfl rfl rfl rfl rfl))
        | (exfalso; omega)
  · rw [decide_eq_false hK] at hkn
    rw [Ig fun h => hK h.1]
    refine Yh Try.func32 rfl _ Try.ntmps32 (by simp) fun C hn hm => ?_
    repeat' (first
 | refine Xl (tl hn rfl) ?_
 | refine Rk Zu hn rfl ?_
 | refine Rl ?_
 | refine Zc 30 rfl ?_
 | ((first | refine Zg hn rfl rfl rfl ?_ | refine Zm rfl rfl ?_); first
 | refine ⟨_, Zw hkn rfl, ?_⟩)
 | (refine Rj 30 rfl ?_; first | refine Zp rfl ?_ | ((first | refine Zd rfl ?_ ?_ | refine Ze rfl ?_ ?_); · first | omega | rfl | assumption | (simp only [lmT]; omega)) | ((first | refine Zf rfl ?_ ?_ | refine Za rfl ?_ ?_); · first | omega | rfl | assumption | (simp only [lmT]; omega)) | refine Ri (Zt hm rfl rfl ?_) | exact Ri (Zj hm rfl rfl rfl (nbT rfl) rfl rfl))
 | refine Z1 rfl (tl hn rfl) ?_
 | ((first | refine Zg hn rfl rfl rfl ?_ | refine Zm rfl rfl ?_); first
 | refine ⟨_, Zx rfl rfl (by omega), ?_⟩
 | refine ⟨_, Zb rfl rfl (by omega) (by assumption), ?_⟩
 | refine ⟨_, Z4 rfl rfl (by omega), ?_⟩
 | refine ⟨_, Zv rfl rfl rfl, ?_⟩
 | refine ⟨_, Z7 rfl rfl (by omega), ?_⟩
 | refine ⟨_, Zr rfl rfl rfl rfl rfl rfl, ?_⟩)
 | ((first | refine Zi rfl rfl rfl ?_ ?_ | refine Zh rfl rfl rfl ?_ ?_ | refine Zk rfl rfl rfl ?_ ?_ | refine Zl rfl rfl rfl ?_ ?_ | refine Zo rfl rfl rfl ?_ ?_ | refine Zn rfl rfl rfl ?_ ?_ | refine Zq rfl rfl rfl ?_ ?_ | refine Zs rfl rfl rfl ?_ ?_) <;> intro h <;> try (exfalso; first | omega | contradiction | (simp only [lmT] at h; omega))))
    exact Rj 30 rfl (Ri (Xd (rs := []) hm rfl rfl rfl rfl rfl))
set_option maxRecDepth 100000
set_option maxRecDepth 100000
theorem body_len' {d : Des} {x : Rul} {en : List Int} (s : Int) (hk : Va d x) (ht : x.total ≤ 1048576) : (Xe x s en).length ≤ 6 + 3 * x.total := by
  have etx : x.total = x.name.size + x.bytes.length + (x.names.length + (x.names.map ByteArray.size).sum) + x.tags.length + x.kids.length := rfl
  have hc := Un x.kids en x.tags.length
  unfold Xe
  split
  · simp only [Rb, Rc]; omega
  split
  · rw [lmT]; omega
  split
  · simp only [Rb, Rc]; omega
  split
  · simp only [Rb, Rc]; omega
  split
  · simp only [Rb, Rc]; omega
  split
  · rw [lmT]; omega
  split
  · simp only [Rb, Ra, Vh]; omega
  split
  · simp only [Rb, Rc]; omega
  split
  · simp only [Rb, Rc]; omega
  · simp only [Rb, Rc]; omega
end Go.Proofs.Ytnecoghfhcimeaa
