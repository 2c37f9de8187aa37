/- Regions that draw their order, whose operations are pure: one walk in the order of the text serves every order. Over any program. -/
import Derived.Test.YtnbjncafoahclaaDoorAuto
import Derived.Deep.Quiet
namespace Go.Proofs.YtnbjncafoahclaaDoor
set_option linter.unusedSimpArgs false
set_option linter.unusedVariables false
open Go.RowKit
open AV (Mem Keeps)

abbrev EE := Nat → AV
def putE (E : EE) (d : Option Nat) (v : AV) : EE := match d with
  | some t => fun k => if t = k then v else E k
  | none => E
def evE (E : EE) : Operand → AV
  | .tmp t => E t
  | .const v => match v with
    | .agg cs => .ro (.agg (cs.toList.map .c))
    | v => .ro (.c v)
  | .func f => .fn (.func f) [] []
  | .global _ => .junk
theorem ev_evE (env : Env) (x : Operand) : ev env x = evE (look env) x := by cases x <;> rfl
theorem look_putE (env : Env) (t : Nat) (v : AV) : look ((t, v) :: env) = putE (look env) (some t) v := by
  funext k; rfl
theorem putE_comm {E : EE} {x y : Option Nat} {u v : AV} (h : ∀ d, x = some d → y ≠ some d) : putE (putE E x u) y v = putE (putE E y v) x u := by
  cases x <;> cases y <;> simp only [putE]
  rename_i s t
  have hst : t ≠ s := fun e => h s rfl (by rw [e])
  funext k
  by_cases h1 : t = k <;> by_cases h2 : s = k <;> simp_all
theorem evE_put {E : EE} {d : Option Nat} {v : AV} {x : Operand} (h : ∀ t, d = some t → x ≠ .tmp t) : evE (putE E d v) x = evE E x := by
  cases d with
  | none => rfl
  | some t =>
    cases x with
    | tmp s =>
      have : t ≠ s := fun e => h t rfl (by rw [e])
      simp [evE, putE, this]
    | const c => cases c <;> rfl
    | _ => rfl
def PurF (P : Program) (C : Ctx) (o : Oper) (E : EE) (σ : List Ob) (v : AV) : Prop :=
  ∀ (a : Act) (m : Mem), Good C m → m.σ = σ → (∀ x, x ∈ o.op.operands → AV.rel m (evE E x) (a.eval x)) → ∀ (K : Act → World → Prop) (Q : Exit → Act → World → Prop),
    (∀ u w', Below m.w.heap.size m.w w' → AV.rel { m with w := w' } v u → K (a.put o.dst u) w') → o.wp P a m.w K Q
section
variable {P : Program} {C : Ctx} {ops : Array Oper} {σ : List Ob} {md : Region.Mode}
theorem Pur.toF {o : Oper} {env : Env} {v : AV} (h : Pur P C o env σ v) : PurF P C o (look env) σ v :=
  fun a m hG hσ hH => h.run a m hG hσ fun x hx => by rw [ev_evE]; exact hH x hx
theorem PurF.congr {o : Oper} {E E' : EE} {v : AV} (h : PurF P C o E σ v) (he : ∀ x ∈ o.op.operands, evE E' x = evE E x) : PurF P C o E' σ v :=
  fun a m hG hσ hH => h a m hG hσ fun x hx => by rw [← he x hx]; exact hH x hx
theorem mem_looks_op {o : Oper} {d : Nat} (h : d ∉ o.looksAt ops) : ∀ x ∈ o.op.operands, x ≠ .tmp d := by
  rintro x hx rfl
  refine h ?_
  unfold Oper.looksAt
  refine List.mem_append.2 (.inl ?_)
  rw [List.mem_filterMap]
  exact ⟨.tmp d, by simpa using hx, rfl⟩
theorem gsay_put {o : Oper} {E : EE} {d : Option Nat} {v : AV} (h : ∀ t, d = some t → t ∉ o.looksAt ops) : gsayE ops (putE E d v) o.guard = gsayE ops E o.guard := by
  cases d with
  | none => rfl
  | some t =>
    have hl := h t rfl
    cases hg : o.guard with
    | none => rfl
    | some g =>
      obtain ⟨j, want⟩ := g
      unfold gsayE
      cases hj : ops[j]? with
      | none => simp [hj]
      | some oj =>
        cases hd : oj.dst with
        | none => simp [hj, hd]
        | some tj =>
          have : t ≠ tj := by
            rintro rfl
            refine hl ?_
            unfold Oper.looksAt
            refine List.mem_append.2 (.inr ?_)
            simp [hg, hj, hd]
          simp [hj, hd, putE, this]
/-- Operation i comes up. -/
def aOp (P : Program) (C : Ctx) (ops : Array Oper) (σ : List Ob) (i : Nat) (K : EE → Prop) (E : EE) : Prop :=
  match ops[i]? with
  | none => K E
  | some o => match gsayE ops E o.guard with
    | some true => ∃ v, PurF P C o E σ v ∧ K (putE E o.dst v)
    | some false => K (putE E o.dst (.ro (.c undef)))
    | none => False
theorem aOp_mono {i : Nat} {E : EE} {K K' : EE → Prop} (h : ∀ E, K E → K' E) (hh : aOp P C ops σ i K E) : aOp P C ops σ i K' E := by
  unfold aOp at *
  split
  · rename_i ho; simp only [ho] at hh; exact h _ hh
  · rename_i o ho
    simp only [ho] at hh
    split
    · rename_i hg; simp only [hg] at hh; obtain ⟨v, h1, h2⟩ := hh; exact ⟨v, h1, h _ h2⟩
    · rename_i hg; simp only [hg] at hh; exact h _ hh
    · rename_i hg; simp only [hg] at hh
def wpAnyE (P : Program) (C : Ctx) (md : Region.Mode) (ops : Array Oper) (σ : List Ob) (Q : EE → Prop) : Nat → Array Bool → EE → Prop
  | 0, listed, E => Region.ready md ops listed = [] ∧ Q E
  | fuel + 1, listed, E =>
    (Region.ready md ops listed = [] → Q E) ∧
    ∀ i ∈ Region.ready md ops listed, aOp P C ops σ i (wpAnyE P C md ops σ Q fuel (listed.setIfInBounds i true)) E
def Yields (P : Program) (C : Ctx) (ops : Array Oper) (σ : List Ob) (o : Oper) (v : AV) (E : EE) : Prop :=
  (gsayE ops E o.guard = some true ∧ PurF P C o E σ v) ∨ (gsayE ops E o.guard = some false ∧ v = .ro (.c undef))
theorem Yields.aOp {i : Nat} {o : Oper} {v : AV} {E : EE} (hi : ops[i]? = some o) (hy : Yields P C ops σ o v E) {K : EE → Prop} (h : K (putE E o.dst v)) : aOp P C ops σ i K E := by
  unfold Proofs.YtnbjncafoahclaaDoor.aOp
  simp only [hi]
  rcases hy with ⟨hw, hv⟩ | ⟨hw, rfl⟩
  · simp only [hw]; exact ⟨v, hv, h⟩
  · simp only [hw]; exact h
theorem yields_of_aOp {i : Nat} {o : Oper} {E : EE} {K : EE → Prop} (hi : ops[i]? = some o) (h : aOp P C ops σ i K E) : ∃ v, Yields P C ops σ o v E ∧ K (putE E o.dst v) := by
  unfold aOp at h
  simp only [hi] at h
  split at h
  · rename_i hg; obtain ⟨v, h1, h2⟩ := h; exact ⟨v, .inl ⟨hg, h1⟩, h2⟩
  · rename_i hg; exact ⟨_, .inr ⟨hg, rfl⟩, h⟩
  · exact h.elim
theorem Yields.put {oi oj : Oper} {v u : AV} {E : EE} (hy : Yields P C ops σ oi v E) (h3 : ∀ d, oj.dst = some d → d ∉ oi.looksAt ops) : Yields P C ops σ oi v (putE E oj.dst u) := by
  unfold Yields at *
  rw [gsay_put h3]
  rcases hy with ⟨hw, hv⟩ | hy
  · exact .inl ⟨hw, hv.congr fun x hx => evE_put fun t ht => mem_looks_op (h3 t ht) x hx⟩
  · exact .inr hy
theorem aOp_put {j : Nat} {oi oj : Oper} {v : AV} (hj : ops[j]? = some oj) (hap : oi.apart ops oj = true) {K : EE → Prop} {E : EE} (hy : Yields P C ops σ oi v E) (h : aOp P C ops σ j K (putE E oi.dst v)) :
    aOp P C ops σ j (fun E' => Yields P C ops σ oi v E' ∧ K (putE E' oi.dst v)) E := by
  obtain ⟨h1, h2, h3⟩ := Oper.apart_spec hap
  unfold aOp at *
  simp only [hj] at *
  rw [gsay_put h1] at h
  split
  · rename_i hg
    simp only [hg] at h
    obtain ⟨u, hu, hn⟩ := h
    refine ⟨u, hu.congr fun x hx => (evE_put fun t ht => mem_looks_op (h1 t ht) x hx).symm, hy.put h3, ?_⟩
    rw [← putE_comm h2]; exact hn
  · rename_i hg
    simp only [hg] at h
    refine ⟨hy.put h3, ?_⟩
    rw [← putE_comm h2]; exact h
  · rename_i hg; simp only [hg] at h
theorem wpAnyE_first {Q : EE → Prop} {i : Nat} {oi : Oper} {v : AV} (hi : ops[i]? = some oi) :
    ∀ (fuel : Nat) (listed : Array Bool) (E : EE),
      (∀ j oj, ops[j]? = some oj → j ≠ i → listed.getD j true = false → (∀ e ∈ oj.after, Region.binds md e = true → e.on ≠ i) → oi.apart ops oj = true) →
      i ∈ Region.ready md ops listed → Yields P C ops σ oi v E →
      wpAnyE P C md ops σ Q fuel (listed.setIfInBounds i true) (putE E oi.dst v) → wpAnyE P C md ops σ Q (fuel + 1) listed E := by
  intro fuel
  induction fuel with
  | zero =>
    intro listed E _ hr hy H
    refine ⟨fun h => (by rw [h] at hr; cases hr), fun j hj => ?_⟩
    by_cases hji : j = i
    · subst hji; exact hy.aOp hi H
    · have := ready_mono hj hji
      rw [H.1] at this
      cases this
  | succ fuel ih =>
    intro listed E hfree hr hy H
    refine ⟨fun h => (by rw [h] at hr; cases hr), fun j hj => ?_⟩
    by_cases hji : j = i
    · subst hji; exact hy.aOp hi H
    · have h1 := H.2 j (ready_mono hj hji)
      obtain ⟨hjun, oj, hoj, hall⟩ := mem_ready.1 hj
      have hnot : ∀ e ∈ oj.after, Region.binds md e = true → e.on ≠ i := fun e he hb heq => by
        have h1 := hall e he hb
        have h0 := (mem_ready.1 hr).1
        rw [heq] at h1
        rcases Nat.lt_or_ge i listed.size with h' | h'
        · simp [h'] at h0 h1; rw [h0] at h1; cases h1
        · simp [Array.getElem?_eq_none h'] at h1
      have h2 := aOp_put hoj (hfree j oj hoj hji hjun hnot) hy h1
      have hfree' : ∀ k ok, ops[k]? = some ok → k ≠ i → (listed.setIfInBounds j true).getD k true = false →
          (∀ e ∈ ok.after, Region.binds md e = true → e.on ≠ i) → oi.apart ops ok = true := fun k ok hk hki hun hno => by
        refine hfree k ok hk hki ?_ hno
        by_cases hjk : j = k
        · subst hjk; exact hjun
        · rw [getD_set_ne true hjk] at hun; exact hun
      refine aOp_mono (fun a' h3 => ih (listed.setIfInBounds j true) a' hfree' (ready_mono hr (Ne.symm hji)) h3.1 ?_) h2
      rw [Array.setIfInBounds_comm _ _ hji]
      exact h3.2
/-- The walk in the order of the text. -/
def wpLexE (P : Program) (C : Ctx) (ops : Array Oper) (σ : List Ob) (Q : EE → Prop) : List Oper → EE → Prop
  | [], E => Q E
  | o :: rest, E => match gsayE ops E o.guard with
    | some true => ∃ v, PurF P C o E σ v ∧ wpLexE P C ops σ Q rest (putE E o.dst v)
    | some false => wpLexE P C ops σ Q rest (putE E o.dst (.ro (.c undef)))
    | none => False
theorem wpAnyE_lex {Q : EE → Prop} : ∀ (l : List Oper) (k : Nat) (listed : Array Bool) (E : EE), (∀ j, l[j]? = ops[k + j]?) →
    Region.lexFrom md ops l.length k listed = true → wpLexE P C ops σ Q l E → wpAnyE P C md ops σ Q l.length listed E
  | [], _, _, _, _, hB, h => ⟨by simpa [Region.lexFrom] using hB, h⟩
  | o :: l, k, listed, E, hl, hB, h => by
    have h0 : ops[k]? = some o := by simpa using (hl 0).symm
    simp only [List.length_cons, Region.lexFrom, Bool.and_eq_true] at hB
    obtain ⟨⟨hr, hf⟩, hB'⟩ := hB
    have hst : aOp P C ops σ k (wpLexE P C ops σ Q l) E := by unfold aOp; simp only [h0]; exact h
    obtain ⟨v, hy, hK⟩ := yields_of_aOp h0 hst
    exact wpAnyE_first h0 l.length listed E (Region.free_spec h0 hf) (by simpa using hr) hy
      (wpAnyE_lex l (k + 1) _ _ (fun j => by have := hl (j + 1); simpa [Nat.add_assoc, Nat.add_comm 1 j] using this) hB' hK)
/-- A frame whose temporaries are such values. -/
def SimE (C : Ctx) (σ : List Ob) (E : EE) (a : Act) (w : World) : Prop := a.defers = [] ∧ a.tmps.size = C.n ∧ ∃ φ, Good C ⟨w, φ, σ, C.ok⟩ ∧ ∀ t, AV.rel ⟨w, φ, σ, C.ok⟩ (E t) (a.tmps.getD t undef)
theorem SimE.put {E : EE} {a : Act} {t : Option Nat} {v : AV} {u : Value} {w : World} {φ : Nat → Option Nat} (h1 : a.defers = []) (h2 : a.tmps.size = C.n) (hG : Good C ⟨w, φ, σ, C.ok⟩) (h : ∀ t, AV.rel ⟨w, φ, σ, C.ok⟩ (E t) (a.tmps.getD t undef)) (ht : ∀ s, t = some s → s < C.n)
    (hv : AV.rel ⟨w, φ, σ, C.ok⟩ v u) : SimE C σ (putE E t v) (a.put t u) w := by
  cases t with
  | none => exact ⟨h1, h2, φ, hG, h⟩
  | some t =>
    refine ⟨h1, by simp [Act.put, h2], φ, hG, fun k => ?_⟩
    rw [getD_put a t k u (by rw [h2]; exact ht t rfl)]
    simp only [putE]
    split
    · exact hv
    · exact h k
theorem wpAny_of_E {Q : EE → Prop} {Q' : Exit → Act → World → Prop} (hQ : ∀ E a w, SimE C σ E a w → Q E → Q' .normal a w) (hd : ∀ (i : Nat) o t, ops[i]? = some o → o.dst = some t → t < C.n) : ∀ (fuel : Nat) (listed : Array Bool) (E : EE) (a : Act) (w : World),
    SimE C σ E a w → wpAnyE P C md ops σ Q fuel listed E → wpAny P md ops Q' fuel listed a w
  | 0, _, _, _, _, hs, h => ⟨h.1, hQ _ _ _ hs h.2⟩
  | fuel + 1, listed, E, a, w, hs, h => by
    refine ⟨fun h0 => hQ _ _ _ hs (h.1 h0), fun i hi => ?_⟩
    have h1 := h.2 i hi
    unfold aOp at h1
    unfold wpOp
    split
    · rename_i ho
      simp only [ho] at h1
      exact wpAny_of_E hQ hd fuel _ E a w hs h1
    · rename_i o ho
      simp only [ho] at h1
      obtain ⟨s1, s2, φ, hG, hE⟩ := hs
      obtain ⟨dst, op, ty, pos, after, g⟩ := o
      split at h1
      · rename_i hg
        obtain ⟨v, hv, hK⟩ := h1
        rw [if_pos (gsay_yes hg a _ hE)]
        refine .inl (hv a ⟨w, φ, σ, C.ok⟩ hG rfl (fun x _ => by
          have := ev_rel (env := []) (m := ⟨w, φ, σ, C.ok⟩) (a := a) (fun t => by simp [look, AV.rel]) x
          cases x with
          | tmp t => exact hE t
          | const c => cases c <;> simpa [ev, evE] using this
          | func f => simpa [ev, evE] using this
          | global g => simp [evE, AV.rel]) _ _ fun u w' hb hu => ?_)
        obtain ⟨g1, g2⟩ := good_below hG hb
        exact wpAny_of_E hQ hd fuel _ _ _ w' (SimE.put s1 s2 g1 (fun t => AV.rel_keeps g2 _ _ (AV.only_true _) (hE t)) (fun s hs => hd i _ s ho hs) hu) hK
      · rename_i hg
        rw [gsay_no hg a _ hE, if_neg (by simp)]
        exact wpAny_of_E hQ hd fuel _ _ _ w (SimE.put s1 s2 hG hE (fun s hs => hd i _ s ho hs) (by simp [AV.rel, RV.rel])) h1
      · exact h1.elim
/-- All destinations lie in the frame. -/
def dstOk (n : Nat) : List Oper → Bool
  | [] => true
  | o :: l => match o.dst with
    | some t => match Nat.ble (t + 1) n with
      | true => dstOk n l
      | false => false
    | none => dstOk n l
theorem dstOk_at {n : Nat} : ∀ {l : List Oper}, dstOk n l = true → ∀ (i : Nat) o t, l[i]? = some o → o.dst = some t → t < n
  | [], _, i, o, t, hi, _ => by simp at hi
  | x :: l, h, i, o, t, hi, ht => by
    unfold dstOk at h
    cases i with
    | zero =>
      simp at hi; subst hi
      rw [ht] at h
      simp only at h
      split at h
      · rename_i hb; exact Nat.le_of_ble_eq_true hb
      · cases h
    | succ i =>
      have hl : dstOk n l = true := by
        split at h
        · split at h
          · exact h
          · cases h
        · exact h
      exact dstOk_at hl i o t (by simpa using hi) ht
end
/-- A drawn region's walk, in the order of the text. -/
structure RunsD (P : Program) (C : Ctx) (ops : Array Oper) (l : List Oper) (k : List Item) (R : Act → World → Prop) (S : St) : Prop where
  run : wpLexE P C ops S.σ (fun E => ∀ a w, SimE C S.σ E a w → Fin P k R a w) l (look S.env)
section
variable {P : Program} {C : Ctx} {ops : Array Oper} {rest : List Oper} {k : List Item} {R : Act → World → Prop} {env : Env} {σ : List Ob} {t : Nat} {ty : TypeId} {pos : String} {after : Array Edge} {gd : Option (Nat × Bool)}
theorem Runs.draw {id : Nat} {l : List Oper} {n : Nat} (hf : P.follows .mixedOrders = true) (hn : C.n = n) (hB : Region.lexB .any l.toArray = true) (hd : dstOk n l = true) (h : RunsD P C l.toArray l k R ⟨env, σ⟩) : Runs P C (.code (.region id l.toArray true) :: k) R ⟨env, σ⟩ := by
  refine ⟨fun a w hs => Fin.of_wp (wp_region_any hf ?_)⟩
  simp only [Region.lexB, Bool.and_eq_true] at hB
  obtain ⟨s1, s2, φ, hG, hE⟩ := hs
  have hb : Below w.heap.size w { w with drawn := w.drawn + 1 } := ⟨rfl, rfl, rfl, Nat.le_refl _, fun _ _ => rfl⟩
  obtain ⟨g1, g2⟩ := good_below hG hb
  have h2 := wpAnyE_lex (P := P) (C := C) (σ := σ) (md := .any) (ops := l.toArray) l 0 (Array.replicate l.toArray.size false) (look env) (by simp) (by simpa using hB.2) h.run
  have h3 := wpAny_of_E (P := P) (Q' := nrm (Fin P k R)) (fun E a w hs hq => hq a w hs) (fun i o t hi ht => by rw [hn]; exact dstOk_at hd i o t (by simpa using hi) ht) l.length (Array.replicate l.toArray.size false) (look env) a { w with drawn := w.drawn + 1 }
    ⟨s1, s2, φ, g1, fun t => AV.rel_keeps g2 _ _ (AV.only_true _) (hE t)⟩ h2
  simpa using h3
theorem Runs.toDraw {id : Nat} {l : List Oper} {k' : List Item} {n : Nat} (m : Nat) (hf : P.follows .mixedOrders = true) (hn : C.n = n) (h : Proofs.YtnbjncafoahclaaDoor.ctls m k = .code (.region id l.toArray true) :: k') (hB : Region.lexB .any l.toArray = true) (hd : dstOk n l = true) (hk : RunsD P C l.toArray l k' R ⟨env, σ⟩) : Runs P C k R ⟨env, σ⟩ :=
  Runs.ctls m h (Runs.draw hf hn hB hd hk)
theorem RunsD.nil (h : Runs P C k R ⟨env, σ⟩) : RunsD P C ops [] k R ⟨env, σ⟩ := ⟨fun a w hs => h.run a w hs⟩
theorem RunsD.pur {o : Oper} {v : AV} (h : Pur P C o env σ v) (hg : gsay ops env o.guard = some true) (hd : o.dst = some t) (hk : RunsD P C ops rest k R ⟨(t, v) :: env, σ⟩) : RunsD P C ops (o :: rest) k R ⟨env, σ⟩ := by
  refine ⟨?_⟩
  unfold wpLexE
  rw [show gsayE ops (look (⟨env, σ⟩ : St).env) o.guard = some true from hg]
  refine ⟨v, h.toF, ?_⟩
  rw [hd, show (⟨env, σ⟩ : St).env = env from rfl, ← look_putE]
  exact hk.run
theorem RunsD.again {l : List Oper} {v : AV} (h : look env t = v) (hk : RunsD P C ops l k R ⟨(t, v) :: env, σ⟩) : RunsD P C ops l k R ⟨env, σ⟩ := by
  have e : look ((t, v) :: env) = look env := by
    funext s; rw [look_put]; split
    · rename_i e; subst e; exact h.symm
    · rfl
  have := hk.run
  simp only [e] at this
  exact ⟨this⟩
theorem RunsD.step {T : Tab} (hT : TabOk P T) {n : Nat} (hn : C.n = n) {l l' : List Oper} {env' : Env} (h : astep T ops n env σ l = some (l', env')) (hl : Nat.beq (l'.length + 1) l.length = true) (hk : RunsD P C ops l' k R ⟨env', σ⟩) : RunsD P C ops l k R ⟨env, σ⟩ := by
  have hl := Nat.eq_of_beq_eq_true hl
  cases l with
  | nil => simp [astep] at h
  | cons o rest =>
    obtain ⟨dst, op, ty, pos, after, g⟩ := o
    unfold astep at h
    cases dst with
    | none => simp at h
    | some t =>
      simp only at h
      split at h
      · cases h
      · rename_i ht
        split at h
        · rename_i hg
          split at h
          · rename_i v hv
            injection h with h; injection h with h1 h2; subst h1; subst h2
            exact RunsD.pur (pu_auto hT hv) hg rfl hk
          · split at h
            · injection h with h; injection h with h1 h2; subst h1; subst h2
              simp at hl
            · cases h
        · rename_i hg
          injection h with h; injection h with h1 h2; subst h1; subst h2
          refine ⟨?_⟩
          unfold wpLexE
          rw [show gsayE ops (look (⟨env, σ⟩ : St).env) g = some false from hg]
          have := hk.run
          rwa [show (⟨(t, AV.ro (.c undef)) :: env, σ⟩ : St).env = (t, AV.ro (.c undef)) :: env from rfl, look_putE] at this
        · cases h
section
variable {dst : Nat} {op : Op} {j tj : Nat} {want : Bool} {oj : Oper}
theorem RunsD.guard_b {b : Bool} (hj : ops[j]? = some oj) (hd : oj.dst = some tj) (hb : look env tj = .bool b)
    (ht : b = true → RunsD P C ops (⟨some dst, op, ty, pos, after, some (j, want)⟩ :: rest) k R ⟨(tj, .bool true) :: env, σ⟩) (hf : b = false → RunsD P C ops (⟨some dst, op, ty, pos, after, some (j, want)⟩ :: rest) k R ⟨(tj, .bool false) :: env, σ⟩) :
    RunsD P C ops (⟨some dst, op, ty, pos, after, some (j, want)⟩ :: rest) k R ⟨env, σ⟩ := by
  cases b with
  | true => exact (ht rfl).again hb
  | false => exact (hf rfl).again hb
theorem RunsD.guard_dec {φ : Prop} [Decidable φ] (hj : ops[j]? = some oj) (hd : oj.dst = some tj) (hb : look env tj = .bool (decide φ))
    (ht : φ → RunsD P C ops (⟨some dst, op, ty, pos, after, some (j, want)⟩ :: rest) k R ⟨(tj, .bool true) :: env, σ⟩) (hf : ¬ φ → RunsD P C ops (⟨some dst, op, ty, pos, after, some (j, want)⟩ :: rest) k R ⟨(tj, .bool false) :: env, σ⟩) :
    RunsD P C ops (⟨some dst, op, ty, pos, after, some (j, want)⟩ :: rest) k R ⟨env, σ⟩ :=
  RunsD.guard_b hj hd hb (fun h => ht (of_decide_eq_true h)) (fun h => hf (of_decide_eq_false h))
theorem RunsD.guard_ndec {φ : Prop} [Decidable φ] (hj : ops[j]? = some oj) (hd : oj.dst = some tj) (hb : look env tj = .bool (!decide φ))
    (ht : ¬ φ → RunsD P C ops (⟨some dst, op, ty, pos, after, some (j, want)⟩ :: rest) k R ⟨(tj, .bool true) :: env, σ⟩) (hf : φ → RunsD P C ops (⟨some dst, op, ty, pos, after, some (j, want)⟩ :: rest) k R ⟨(tj, .bool false) :: env, σ⟩) :
    RunsD P C ops (⟨some dst, op, ty, pos, after, some (j, want)⟩ :: rest) k R ⟨env, σ⟩ :=
  RunsD.guard_b hj hd hb (fun h => ht (by simpa using h)) (fun h => hf (by simpa using h))
theorem RunsD.guard_nb {b : Bool} (hj : ops[j]? = some oj) (hd : oj.dst = some tj) (hb : look env tj = .bool (!b))
    (ht : b = false → RunsD P C ops (⟨some dst, op, ty, pos, after, some (j, want)⟩ :: rest) k R ⟨(tj, .bool true) :: env, σ⟩) (hf : b = true → RunsD P C ops (⟨some dst, op, ty, pos, after, some (j, want)⟩ :: rest) k R ⟨(tj, .bool false) :: env, σ⟩) :
    RunsD P C ops (⟨some dst, op, ty, pos, after, some (j, want)⟩ :: rest) k R ⟨env, σ⟩ :=
  RunsD.guard_b hj hd hb (fun h => ht (by simpa using h)) (fun h => hf (by simpa using h))
end
end
end Go.Proofs.YtnbjncafoahclaaDoor
