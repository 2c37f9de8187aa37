/- Loops over values, and tests that are decided. Over any program. -/
import Derived.Test.YtnbjncafoahclaaDoorTyp
namespace Go.Proofs.YtnbjncafoahclaaDoor
set_option linter.unusedSimpArgs false
set_option linter.unusedVariables false
open Go.RowKit
section
variable {P : Program} {C : Ctx} {ops : Array Oper} {rest : List Oper} {k : List Item} {R : Act → World → Prop} {env : Env} {σ : List Ob} {t : Nat} {ty : TypeId} {pos : String} {after : Array Edge}
section
variable {x y : Code} {φ : Prop} [Decidable φ]
theorem Runs.cond_yes (hc : look env t = .bool (decide φ)) (hφ : φ) (h : Runs P C (.code x :: k) R ⟨(t, .bool true) :: env, σ⟩) : Runs P C (.code (.cond (.tmp t) x y) :: k) R ⟨env, σ⟩ := Runs.cond_dec hc (fun _ => h) (fun h => absurd hφ h)
theorem Runs.cond_no (hc : look env t = .bool (decide φ)) (hφ : ¬ φ) (h : Runs P C (.code y :: k) R ⟨(t, .bool false) :: env, σ⟩) : Runs P C (.code (.cond (.tmp t) x y) :: k) R ⟨env, σ⟩ := Runs.cond_dec hc (fun h => absurd h hφ) (fun _ => h)
theorem Runs.cond_nyes (hc : look env t = .bool (!decide φ)) (hφ : ¬ φ) (h : Runs P C (.code x :: k) R ⟨(t, .bool true) :: env, σ⟩) : Runs P C (.code (.cond (.tmp t) x y) :: k) R ⟨env, σ⟩ := Runs.cond_ndec hc (fun _ => h) (fun h => absurd h hφ)
theorem Runs.cond_nno (hc : look env t = .bool (!decide φ)) (hφ : φ) (h : Runs P C (.code y :: k) R ⟨(t, .bool false) :: env, σ⟩) : Runs P C (.code (.cond (.tmp t) x y) :: k) R ⟨env, σ⟩ := Runs.cond_ndec hc (fun h => absurd hφ h) (fun _ => h)
end
/-- A place lies in the frame. -/
theorem tl {C : Ctx} {t m : Nat} (hn : C.n = m) (h : Nat.ble (t + 1) m = true) : t < C.n := Nat.lt_of_lt_of_eq (Nat.le_of_ble_eq_true h) hn.symm
theorem RunsL.pe {o : Oper} {m : Nat} (hn : C.n = m) (hg : o.guard = none) (hd : o.dst = some t) (ht : Nat.ble (t + 1) m = true) (h : ∃ v, Pur P C o env σ v ∧ RunsL P C ops rest k R ⟨(t, v) :: env, σ⟩) : RunsL P C ops (o :: rest) k R ⟨env, σ⟩ := by
  obtain ⟨v, h, hk⟩ := h
  exact RunsL.pur h hg hd (tl hn ht) hk
theorem RunsD.pe {o : Oper} (hg : gsay ops env o.guard = some true) (hd : o.dst = some t) (h : ∃ v, Pur P C o env σ v ∧ RunsD P C ops rest k R ⟨(t, v) :: env, σ⟩) : RunsD P C ops (o :: rest) k R ⟨env, σ⟩ := by
  obtain ⟨v, h, hk⟩ := h
  exact RunsD.pur h hg hd hk
/-- A loop that counts: E j and s j are the frame at its head, Q j what holds there. -/
theorem Runs.loopN (m : Nat) {c : Code} {k' : List Item} (hc : Proofs.YtnbjncafoahclaaDoor.ctls m k = .code (.loop c) :: k') (E : Nat → Env) (s : Nat → List Ob) (Q : Nat → Prop) (len : Nat) (j0 : Nat) (hj0 : j0 ≤ len) (h0 : Q j0) (henv : Sub (E j0) env) (hs : s j0 = σ)
    (round : ∀ j, j ≤ len → Q j → (∀ env' σ', Sub (E (j + 1)) env' → j < len → Q (j + 1) → s (j + 1) = σ' → Runs P C (.inLoop c :: k') R ⟨env', σ'⟩) → Runs P C (.code c :: .inLoop c :: k') R ⟨E j, s j⟩) :
    Runs P C k R ⟨env, σ⟩ := by
  refine Runs.ctls m hc ?_
  subst hs
  refine Runs.keep (E j0) henv ?_
  refine Runs.loop (fun n S => ∃ j, j + n = len ∧ Q j ∧ S = ⟨E j, s j⟩) (fun n S hI ih => ?_) (len - j0) ⟨j0, by omega, h0, rfl⟩
  obtain ⟨j, hj, hQ, rfl⟩ := hI
  refine round j (by omega) hQ fun env' σ' hsub hlt hQ' hσ => ?_
  subst hσ
  exact Runs.keep _ hsub (ih (n - 1) (by omega) _ ⟨j + 1, by omega, hQ', rfl⟩)
/-- A loop whose frame at the head is known up to some data: I n E' s' holds of it, n goes down. -/
theorem Runs.loopI (m : Nat) {c : Code} {k' : List Item} (hc : Proofs.YtnbjncafoahclaaDoor.ctls m k = .code (.loop c) :: k') (I : Nat → Env → List Ob → Prop) (n : Nat) (env0 : Env) (henv : Sub env0 env) (h0 : I n env0 σ)
    (round : ∀ n E s, I n E s → (∀ n' E' env' s', n' < n → I n' E' s' → Sub E' env' → Runs P C (.inLoop c :: k') R ⟨env', s'⟩) → Runs P C (.code c :: .inLoop c :: k') R ⟨E, s⟩) :
    Runs P C k R ⟨env, σ⟩ := by
  refine Runs.ctls m hc (Runs.keep env0 henv ?_)
  refine Runs.loop (fun n S => I n S.env S.σ) (fun n S hI ih => ?_) n h0
  obtain ⟨E, s⟩ := S
  exact round n E s hI fun n' E' env' s' hn hI' hsub => Runs.keep _ hsub (ih n' hn ⟨E', s'⟩ hI')
end
theorem ends_own {P : Program} {C : Ctx} {fn : Func} {R : RR → Prop} {S : St} {t i sz : Nat} {e : TypeId} {cs : List AV} {rs : List RV} (hm : ∀ b, ¬ C.mu b) (hr : fn.results = #[.tmp t]) (hx : look S.env t = .own i) (ho : S.σ[i]? = some ⟨e, sz, cs⟩) (hc : cs = rs.map .ro) (hR : R (.row e sz rs)) : ∀ a w, Sim C S a w → Ends P C fn R a w :=
  ends1 hm hr _ rfl (.row e sz rs) [i] (by simp only [Harv]; exact ⟨i, hx, by rw [ho, hc], rfl⟩) (by simp) hR
theorem rr_bool {a b : Bool} (h : a = b) : RR.ro (.bool a) = .ro (.bool b) := by rw [h]
theorem rr_int {a b : Int} (h : a = b) : RR.ro (.int a) = .ro (.int b) := by rw [h]
theorem rr_ro {a b : RV} (h : a = b) : RR.ro a = .ro b := by rw [h]
/-- A slice of ints. -/
def intsR (l : List Int) : RV := .seq 1 (l.map fun z => [.int z])
def bytesR (l : List UInt8) : RV := .seq 1 (l.map fun z => [.u8 z])
def strsR (l : List ByteArray) : RV := .seq 1 (l.map fun z => [.str z])
/-- A contract, for the library. -/
theorem AC.calls {P : Program} {f : FuncId} {args : List RV} {R : RR → Prop} (h : AC P f args R) (w : World) (us : Array Value) (hu : RV.Rels w args us.toList) :
    Calls P f us w fun e w' => ∃ u rr bs, e = .returned u ∧ R rr ∧ RR.rel w' (fun b => b ∉ bs) rr u bs ∧ bs.Nodup ∧ (∀ b ∈ bs, w.heap.size ≤ b ∧ b < w'.heap.size) ∧ Below w.heap.size w w' :=
  (h w (fun _ => True) us (fun _ _ => trivial) hu).mono fun _ _ ⟨u, rr, bs, e, h1, h2, h3⟩ => ⟨u, rr, bs, e, h1, RR.rel_mono (fun _ hb => hb.2) _ _ _ h2, h3⟩
/-- .. that returns a Bool. -/
theorem AC.law {P : Program} {f : FuncId} {args : List RV} (h : ACv P f args (.bool true)) (w : World) (us : Array Value) (hu : RV.Rels w args us.toList) :
    Calls P f us w fun e w' => e = .returned (.bool true) ∧ Below w.heap.size w w' :=
  (h.calls w us hu).mono fun _ _ ⟨u, rr, bs, e, h1, h2, _, _, h5⟩ => by
    subst h1
    simp only [RR.rel, RV.rel] at h2
    rw [e, h2.1]
    exact ⟨rfl, h5⟩
end Go.Proofs.YtnbjncafoahclaaDoor
