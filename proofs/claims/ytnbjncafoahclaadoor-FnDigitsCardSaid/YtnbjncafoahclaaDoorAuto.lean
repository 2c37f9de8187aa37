/- One step for the plain operations: what an operation yields is reckoned by a function. Over any program. -/
import Derived.Test.YtnbjncafoahclaaDoorStep
namespace Go.Proofs.YtnbjncafoahclaaDoor
set_option linter.unusedSimpArgs false
set_option linter.unusedVariables false
open Go.RowKit
open AV (Mem Keeps)

/-! ### Control: many steps at once. -/
def ctl : List Item → Option (List Item)
  | .code c :: k => match c with
    | .seq x y => some (.code x :: .code y :: k)
    | .skip => some k
    | .block id c => some (.code c :: .inBlock id :: k)
    | .exit id => exitTo id k
    | .label _ => some k
    | .scope c => some (.code c :: .inScope c :: k)
    | _ => none
  | .inBlock _ :: k => some k
  | .inScope _ :: k => some k
  | _ => none
def ctls : Nat → List Item → List Item
  | 0, k => k
  | n + 1, k => match ctl k with
    | some k' => ctls n k'
    | none => k
section
variable {P : Program} {C : Ctx} {k : List Item} {R : Act → World → Prop} {S : St}
theorem Runs.ctl {k' : List Item} (h : ctl k = some k') (hk : Runs P C k' R S) : Runs P C k R S := by
  unfold Proofs.YtnbjncafoahclaaDoor.ctl at h
  split at h
  · rename_i c k0
    split at h
    · injection h with h; subst h; exact Runs.seq hk
    · injection h with h; subst h; exact Runs.skip hk
    · injection h with h; subst h; exact Runs.block hk
    · exact Runs.exit h hk
    · injection h with h; subst h; exact Runs.label hk
    · injection h with h; subst h; exact Runs.scope hk
    · cases h
  · injection h with h; subst h; exact Runs.inBlock hk
  · injection h with h; subst h; exact Runs.inScope hk
  · cases h
theorem Runs.ctls {k' : List Item} (n : Nat) (h : ctls n k = k') (hk : Runs P C k' R S) : Runs P C k R S := by
  induction n generalizing k with
  | zero => simp only [Proofs.YtnbjncafoahclaaDoor.ctls] at h; subst h; exact hk
  | succ n ih =>
    simp only [Proofs.YtnbjncafoahclaaDoor.ctls] at h
    split at h
    · rename_i k1 h1; exact Runs.ctl h1 (ih h)
    · subst h; exact hk
/-- A region begins behind some steps of control. -/
theorem Runs.toRegion {id : Nat} {l : List Oper} {k' : List Item} (n : Nat) (h : Proofs.YtnbjncafoahclaaDoor.ctls n k = .code (.region id l.toArray false) :: k') (hk : RunsL P C l.toArray l k' R S) : Runs P C k R S :=
  Runs.ctls n h (Runs.region hk)
end

/-! ### What the tables say, reckoned. -/
structure Tab where
  fa : List (Nat × List Nat)
  one : List Nat
  agg : List (Nat × Nat)
  sl : List Nat
  str : List Nat
  bl : List Nat
def alook {α : Type} : List (Nat × α) → Nat → Option α
  | [], _ => none
  | (k, v) :: l, t => match Nat.beq k t with
    | true => some v
    | false => alook l t
def nmem : List Nat → Nat → Bool
  | [], _ => false
  | k :: l, t => match Nat.beq k t with
    | true => true
    | false => nmem l t
theorem alook_mem {α : Type} : ∀ {l : List (Nat × α)} {t : Nat} {v : α}, alook l t = some v → (t, v) ∈ l
  | [], t, v, h => by simp [alook] at h
  | (k, u) :: l, t, v, h => by
    unfold alook at h
    split at h
    · rename_i e
      injection h with h; subst h
      have := Nat.eq_of_beq_eq_true e; subst this
      simp
    · exact List.mem_cons_of_mem _ (alook_mem h)
theorem nmem_mem : ∀ {l : List Nat} {t : Nat}, nmem l t = true → t ∈ l
  | [], t, h => by simp [nmem] at h
  | k :: l, t, h => by
    unfold nmem at h
    split at h
    · rename_i e
      have := Nat.eq_of_beq_eq_true e; subst this
      simp
    · exact List.mem_cons_of_mem _ (nmem_mem h)
def faB (P : Program) (s f off : Nat) : Bool := match P.underlying s with
  | some (.struct fs) => match fs[f]? with
    | some d => decide (d.offset = off) && (match P.info? d.type with | some i => decide (i.size ≠ 0) | none => false)
    | none => false
  | _ => false
def oneB (P : Program) (t : Nat) : Bool := match P.underlying t with
  | some (.struct _) | some (.array _ _) | none => false
  | _ => match P.info? t with | some i => decide (i.size = 1) | none => false
def aggB (P : Program) (t n : Nat) : Bool := match P.underlying t with
  | some (.struct _) | some (.array _ _) => match P.info? t with | some i => decide (i.size = n) | none => false
  | _ => false
def fasB (P : Program) (s : Nat) : Nat → List Nat → Bool
  | _, [] => true
  | f, off :: l => faB P s f off && fasB P s (f + 1) l
def slB (P : Program) (t : Nat) : Bool := match P.underlying t with | some (.slice _) => true | _ => false
def blB (P : Program) (t : Nat) : Bool := match P.underlying t with | some .bool => true | _ => false
def strB (P : Program) (t : Nat) : Bool := match P.underlying t with | some .string => true | _ => false
structure TabOk (P : Program) (T : Tab) : Prop where
  fa : (T.fa.all fun p => fasB P p.1 0 p.2) = true
  one : (T.one.all fun t => oneB P t) = true
  agg : (T.agg.all fun p => aggB P p.1 p.2) = true
  sl : (T.sl.all fun t => slB P t) = true
  str : (T.str.all fun t => strB P t) = true
  bl : (T.bl.all fun t => blB P t) = true
def Tab.field (T : Tab) (s f : Nat) : Option Nat := match alook T.fa s with
  | some offs => offs[f]?
  | none => none
theorem fasB_at {P : Program} {s : Nat} : ∀ (l : List Nat) (k f off : Nat), fasB P s k l = true → l[f]? = some off → faB P s (k + f) off = true
  | [], k, f, off, _, hf => by simp at hf
  | o :: l, k, f, off, h, hf => by
    simp only [fasB, Bool.and_eq_true] at h
    cases f with
    | zero => simp at hf; subst hf; exact h.1
    | succ f => simp at hf; have := fasB_at l (k + 1) f off h.2 hf; rwa [show k + 1 + f = k + (f + 1) by omega] at this
theorem TabOk.field {P : Program} {T : Tab} (h : TabOk P T) {s f off : Nat} (hf : T.field s f = some off) : FA P s f off := by
  unfold Tab.field at hf
  split at hf
  · rename_i offs ho
    have h1 := List.all_eq_true.1 h.fa _ (alook_mem ho)
    have := fasB_at offs 0 f off h1 hf
    rw [Nat.zero_add] at this
    exact ⟨this⟩
  · cases hf
theorem TabOk.one1 {P : Program} {T : Tab} (h : TabOk P T) {t : Nat} (ht : nmem T.one t = true) : T1 P t := ⟨List.all_eq_true.1 h.one _ (nmem_mem ht)⟩
theorem TabOk.aggN {P : Program} {T : Tab} (h : TabOk P T) {t n : Nat} (ht : alook T.agg t = some n) : TN P t n := ⟨List.all_eq_true.1 h.agg _ (alook_mem ht)⟩
theorem TabOk.slice {P : Program} {T : Tab} (h : TabOk P T) {t : Nat} (ht : nmem T.sl t = true) : ∃ e, P.underlying t = some (.slice e) := by
  have := List.all_eq_true.1 h.sl _ (nmem_mem ht)
  unfold slB at this
  split at this
  · rename_i e he; exact ⟨e, he⟩
  · cases this
theorem TabOk.string {P : Program} {T : Tab} (h : TabOk P T) {t : Nat} (ht : nmem T.str t = true) : TS P t := by
  have := List.all_eq_true.1 h.str _ (nmem_mem ht)
  unfold strB at this
  split at this
  · rename_i he; exact ⟨he⟩
  · cases this

theorem TabOk.bool {P : Program} {T : Tab} (h : TabOk P T) {t : Nat} (ht : nmem T.bl t = true) : P.underlying t = some .bool := by
  have := List.all_eq_true.1 h.bl _ (nmem_mem ht)
  unfold blB at this
  split at this
  · rename_i he; exact he
  · cases this

/-! ### What an operation yields. -/
def force : AV → Option AV
  | .ro r => match r with
    | .c v => some (.ro (.c v))
    | .agg cs => some (.ro (.agg cs))
    | .seq sz els => some (.ro (.seq sz els))
    | .rp cs => some (.ro (.rp cs))
    | .tup vs => some (.ro (.tup vs))
    | .ifc t v => some (.ro (.ifc t v))
  | .obj i o => some (.obj i o)
  | .pin i o g => some (.pin i o g)
  | .own i => some (.own i)
  | .agg cs => some (.agg cs)
  | .tup vs => some (.tup vs)
  | .fn f a b => some (.fn f a b)
  | .junk => none
theorem force_eq {v v' : AV} (h : force v = some v') : v' = v := by
  unfold force at h
  split at h
  · split at h <;> (injection h with h; exact h.symm)
  all_goals first | (injection h with h; exact h.symm) | cases h
/-- All read-only. -/
def allRo : List AV → Option (List RV)
  | [] => some []
  | v :: vs => match v with
    | .ro r => match allRo vs with
      | some rs => some (r :: rs)
      | none => none
    | _ => none
theorem allRo_eq : ∀ {vs : List AV} {rs : List RV}, allRo vs = some rs → vs = rs.map .ro
  | [], rs, h => by simp [allRo] at h; subst h; rfl
  | v :: vs, rs, h => by
    unfold allRo at h
    split at h
    · split at h
      · rename_i rs' h'
        injection h with h; subst h
        simp [allRo_eq h']
      · cases h
    · cases h
def aLoad (T : Tab) (σ : List Ob) (t : TypeId) : AV → Option AV
  | .obj i off => match σ[i]? with
    | some o => match nmem T.one t with
      | true => match o.cs[off]? with
        | some v => force v
        | none => none
      | false => match alook T.agg t with
        | some n => match off, allRo o.cs with
          | 0, some rs => match Nat.beq rs.length n with
            | true => some (.ro (.agg rs))
            | false => none
          | _, _ => match Nat.ble (off + n) o.cs.length with
            | true => some (.agg ((o.cs.drop off).take n))
            | false => none
        | none => none
    | none => none
  | .ro (.rp cs) => match nmem T.one t with
    | true => match cs with
      | r :: _ => force (.ro r)
      | [] => none
    | false => match alook T.agg t with
      | some n => match Nat.beq cs.length n with
        | true => some (.ro (.agg cs))
        | false => none
      | none => none
  | _ => none
def aCmp (op : BinOp) (p q : Int) : Option AV := match op with
  | .lss => some (.bool (decide (p < q)))
  | .leq => some (.bool (decide (p ≤ q)))
  | .gtr => some (.bool (decide (q < p)))
  | .geq => some (.bool (decide (q ≤ p)))
  | .eql => some (.bool (decide (p = q)))
  | .neq => some (.bool (!decide (p = q)))
  | _ => none
def aBin (T : Tab) (op : BinOp) (t : TypeId) : AV → AV → Option AV
  | .ro (.c u), .ro (.c v) => match u, v with
    | .int kd p, .int kd' q => if kd = kd' then aCmp op p q else none
    | .string p, .string q => match op with
      | .eql => some (.bool (p.toList == q.toList))
      | .neq => some (.bool (!(p.toList == q.toList)))
      | _ => none
    | .bool p, .bool q => match nmem T.bl t with
      | true => match op with
        | .eql => some (.bool (p == q))
        | .neq => some (.bool (!(p == q)))
        | _ => none
      | false => none
    | _, _ => none
  | _, _ => none
def aLen (T : Tab) (t : TypeId) : AV → Option AV
  | .ro (.seq _ els) => match nmem T.sl t with
    | true => some (.int (els.length : Int))
    | false => none
  | .ro (.c (.string s)) => match nmem T.str t with
    | true => some (.int (s.size : Int))
    | false => none
  | .ro (.c (.slice none 0 0)) => match nmem T.sl t with
    | true => some (.int 0)
    | false => none
  | _ => none
def aop (T : Tab) (env : Env) (σ : List Ob) : Op → Option AV
  | .move x => force (ev env x)
  | .assign x => force (ev env x)
  | .pick c x y => match ev env c with
    | .ro (.c (.bool b)) => match b with
      | true => force (ev env x)
      | false => force (ev env y)
    | _ => none
  | .fieldAddr s x f => match T.field s f with
    | some off => match ev env x with
      | .obj i o => some (.obj i (o + off))
      | .pin i o _ => some (.obj i (o + off))
      | .ro (.rp cs) => some (.ro (.rp (cs.drop off)))
      | _ => none
    | none => none
  | .load t x => aLoad T σ t (ev env x)
  | .binOp op t x y _ => aBin T op t (ev env x) (ev env y)
  | .unOp .not _ x => match ev env x with
    | .ro (.c (.bool b)) => some (.bool (!b))
    | _ => none
  | .extract x j => match ev env x with
    | .tup vs => match vs[j]? with
      | some v => force v
      | none => none
    | .ro (.tup vs) => match vs[j]? with
      | some r => force (.ro r)
      | none => none
    | _ => none
  | .call c => match c.callee with
    | .builtin .len => match c.args.toList, c.argTypes.toList with
      | [x], [t] => aLen T t (ev env x)
      | _, _ => none
    | _ => none
  | _ => none
section
variable {P : Program} {C : Ctx} {ops : Array Oper} {rest : List Oper} {k : List Item} {R : Act → World → Prop} {env : Env} {σ : List Ob} {t : Nat} {ty : TypeId} {pos : String} {after : Array Edge} {gd : Option (Nat × Bool)}
theorem pu_load_auto {T : Tab} (hT : TabOk P T) {tt : TypeId} {x : Operand} {v : AV} (h : aLoad T σ tt (ev env x) = some v) : Pur P C ⟨some t, .load tt x, ty, pos, after, gd⟩ env σ v := by
  generalize hx : ev env x = e at h
  unfold aLoad at h
  split at h
  · rename_i i off
    split at h
    · rename_i o ho
      split at h
      · rename_i h1
        split at h
        · rename_i v' hv
          obtain rfl := force_eq h
          have := hT.one1 h1
          exact pu_load_obj hx ho hv
        · cases h
      · split at h
        · rename_i n hn
          have := hT.aggN hn
          split at h
          · rename_i rs hrs
            split at h
            · rename_i hl
              injection h with h; subst h
              exact pu_loadN_objR hx ho (allRo_eq hrs) (Nat.eq_of_beq_eq_true hl)
            · cases h
          · split at h
            · rename_i hl
              injection h with h; subst h
              exact pu_loadN_obj hx ho (Nat.le_of_ble_eq_true hl)
            · cases h
        · cases h
    · cases h
  · rename_i cs
    split at h
    · rename_i h1
      split at h
      · obtain rfl := force_eq h
        have := hT.one1 h1
        exact pu_load_ro hx
      · cases h
    · split at h
      · rename_i n hn
        have := hT.aggN hn
        split at h
        · rename_i hl
          injection h with h; subst h
          exact pu_loadN_ro hx (Nat.eq_of_beq_eq_true hl)
        · cases h
      · cases h
  · cases h
theorem pu_bin_auto {T : Tab} (hT : TabOk P T) {op : BinOp} {xt yt : TypeId} {x y : Operand} {v : AV} (h : aBin T op xt (ev env x) (ev env y) = some v) : Pur P C ⟨some t, .binOp op xt x y yt, ty, pos, after, gd⟩ env σ v := by
  generalize hx : ev env x = e at h
  generalize hy : ev env y = e' at h
  unfold aBin at h
  split at h
  · split at h
    · split at h
      · rename_i hk
        subst hk
        unfold aCmp at h
        split at h
        · injection h with h; subst h; exact pu_lss hx hy
        · injection h with h; subst h; exact pu_leq hx hy
        · injection h with h; subst h; exact pu_gtr hx hy
        · injection h with h; subst h; exact pu_geq hx hy
        · injection h with h; subst h; exact pu_eql hx hy
        · injection h with h; subst h; exact pu_neq hx hy
        · cases h
      · cases h
    · split at h
      · injection h with h; subst h; exact pu_eqlS hx hy
      · injection h with h; subst h; exact pu_neqS hx hy
      · cases h
    · split at h
      · rename_i hb
        have hb := hT.bool hb
        split at h
        · injection h with h; subst h; exact pu_bin hx hy (fun w => by simp [eqGuard_at_bool, run_eql_bool _ _ _ _ hb])
        · injection h with h; subst h; exact pu_bin hx hy (fun w => by simp [eqGuard_at_bool, binOp, run_equal_bool _ _ _ _ hb])
        · cases h
      · cases h
    · cases h
  · cases h
theorem pu_len_auto {T : Tab} (hT : TabOk P T) {tt : TypeId} {x : Operand} {v : AV} (h : aLen T tt (ev env x) = some v) : Pur P C ⟨some t, .call { callee := .builtin .len, args := #[x], argTypes := #[tt] }, ty, pos, after, gd⟩ env σ v := by
  generalize hx : ev env x = e at h
  unfold aLen at h
  split at h
  · rename_i sz els
    split at h
    · rename_i hs
      injection h with h; subst h
      obtain ⟨el, he⟩ := hT.slice hs
      refine Pur.of fun a m hG hσ hH => ?_
      have h := hH x (by simp [Op.operands, Call.operands])
      rw [hx] at h
      simp only [AV.rel, RV.rel] at h
      obtain ⟨A, n, cp, ea, hn, h1, h2, h3⟩ := h
      exact ⟨.int .i64 (els.length : Int), by simp [execOp, resolve, invoke, builtin, ea, Builtin.len_, run_underlying he, goInt, hn], by simp [AV.rel, RV.rel]⟩
    · cases h
  · split at h
    · rename_i hs
      injection h with h; subst h
      have := hT.string hs
      exact pu_lenS hx
    · cases h
  · split at h
    · rename_i hs
      injection h with h; subst h
      obtain ⟨el, he⟩ := hT.slice hs
      exact Pur.of fun a m hG hσ hH => ⟨.int .i64 0, by simp [execOp, resolve, invoke, builtin, ev_c (hH x (by simp [Op.operands, Call.operands])) hx, Builtin.len_, run_underlying he, goInt], by simp [AV.rel, RV.rel]⟩
    · cases h
  · cases h
theorem pu_auto {T : Tab} (hT : TabOk P T) {op : Op} {v : AV} (h : aop T env σ op = some v) : Pur P C ⟨some t, op, ty, pos, after, gd⟩ env σ v := by
  unfold aop at h
  split at h
  · exact pu_move (force_eq h).symm
  · exact pu_assign (force_eq h).symm
  · rename_i c x y
    split at h
    · rename_i b hc
      split at h
      · exact pu_pick_t hc (force_eq h).symm
      · exact pu_pick_f hc (force_eq h).symm
    · cases h
  · rename_i s x f
    split at h
    · rename_i off hf
      have := hT.field hf
      split at h
      · rename_i hx
        injection h with h; subst h
        exact pu_fieldAddr_obj hx
      · rename_i hx
        injection h with h; subst h
        exact pu_fieldAddr_pin hx
      · rename_i hx
        injection h with h; subst h
        exact pu_fieldAddr_ro hx
      · cases h
    · cases h
  · exact pu_load_auto hT h
  · exact pu_bin_auto hT h
  · split at h
    · rename_i hx
      injection h with h; subst h
      exact pu_not hx
    · cases h
  · split at h
    · rename_i hx
      split at h
      · rename_i hj
        obtain rfl := force_eq h
        exact pu_extract hx hj
      · cases h
    · rename_i hx
      split at h
      · rename_i hj
        obtain rfl := force_eq h
        exact pu_extract_ro hx hj
      · cases h
    · cases h
  · rename_i c
    obtain ⟨callee, args, ats⟩ := c
    simp only at h
    split at h
    · obtain ⟨args⟩ := args
      obtain ⟨ats⟩ := ats
      simp only at h
      split at h
      · exact pu_len_auto hT h
      · cases h
    · cases h
  · cases h
/-- Stores whose value is reckoned. -/
theorem op_storeF {tt : TypeId} {x y : Operand} {i off : Nat} {o : Ob} {v : AV} [T1 P tt] (hx : ev env x = .obj i off) (hy : force (ev env y) = some v) (h1 : v.one = true) (ho : σ[i]? = some o) (hlt : off < o.cs.length)
    (hk : RunsL P C ops rest k R ⟨env, σ.set i ⟨o.t, o.sz, o.cs.set off v⟩⟩) : RunsL P C ops (⟨none, .store tt x y, ty, pos, after, none⟩ :: rest) k R ⟨env, σ⟩ :=
  op_store hx (force_eq hy).symm h1 ho hlt hk
/-- What a guard says: yes, no. -/
def gsayE (ops : Array Oper) (E : Nat → AV) : Option (Nat × Bool) → Option Bool
  | none => some true
  | some (j, want) => match ops[j]? with
    | some oj => match oj.dst with
      | some tj => match E tj with
        | .ro (.c u) => match u with
          | .bool b => match b, want with
            | true, true => some true
            | false, false => some true
            | true, false => some false
            | false, true => some false
          | .tuple l => match l with
            | ⟨[]⟩ => some false
            | _ => none
          | _ => none
        | _ => none
      | none => none
    | none => none
abbrev gsay (ops : Array Oper) (env : Env) (g : Option (Nat × Bool)) : Option Bool := gsayE ops (look env) g
/-- One step of a region: a plain operation, or one that is not wanted. -/
def astep (T : Tab) (ops : Array Oper) (n : Nat) (env : Env) (σ : List Ob) : List Oper → Option (List Oper × Env)
  | [] => none
  | o :: rest => match o.dst with
    | none => none
    | some t => match Nat.ble (t + 1) n with
      | false => none
      | true => match gsay ops env o.guard with
        | some true => match aop T env σ o.op with
          | some v => some (rest, (t, v) :: env)
          | none => match o.guard with
            | some _ => some (⟨o.dst, o.op, o.type, o.pos, o.after, none⟩ :: rest, env)
            | none => none
        | some false => some (rest, (t, .ro (.c undef)) :: env)
        | none => none
theorem gsay_yes {E : Nat → AV} {g : Option (Nat × Bool)} {dst : Option Tmp} {op : Op} {ty : TypeId} {pos : String} {after : Array Edge} (h : gsayE ops E g = some true) (a : Act) (m : Mem) (hH : ∀ t, AV.rel m (E t) (a.tmps.getD t undef)) : Region.wanted ⟨dst, op, ty, pos, after, g⟩ (yielded ops a.tmps) = true := by
  unfold gsayE at h
  split at h
  · simp [Region.wanted]
  · rename_i j want
    split at h
    · rename_i oj hj
      split at h
      · rename_i tj hd
        split at h
        · rename_i u hl
          have hh := hH tj
          rw [hl] at hh
          simp only [AV.rel, RV.rel, Array.getD_eq_getD_getElem?] at hh
          split at h
          · rename_i b
            cases he : a.tmps[tj]? with
            | none => simp [he, undef] at hh
            | some v =>
              simp [he] at hh; subst hh
              cases b <;> cases want <;> simp_all [Region.wanted, yielded]
          · split at h <;> cases h
          · cases h
        · cases h
      · cases h
    · cases h
theorem gsay_no {E : Nat → AV} {g : Option (Nat × Bool)} {dst : Option Tmp} {op : Op} {ty : TypeId} {pos : String} {after : Array Edge} (h : gsayE ops E g = some false) (a : Act) (m : Mem) (hH : ∀ t, AV.rel m (E t) (a.tmps.getD t undef)) : Region.wanted ⟨dst, op, ty, pos, after, g⟩ (yielded ops a.tmps) = false := by
  unfold gsayE at h
  split at h
  · cases h
  · rename_i j want
    split at h
    · rename_i oj hj
      split at h
      · rename_i tj hd
        split at h
        · rename_i u hl
          have hh := hH tj
          rw [hl] at hh
          simp only [AV.rel, RV.rel, Array.getD_eq_getD_getElem?] at hh
          split at h
          · rename_i b
            cases he : a.tmps[tj]? with
            | none => simp [he, undef] at hh
            | some v =>
              simp [he] at hh; subst hh
              cases b <;> cases want <;> simp_all [Region.wanted, yielded]
          · split at h
            · rename_i l
              cases he : a.tmps[tj]? with
              | none => simp [Region.wanted, yielded, hj, hd, he]
              | some v =>
                simp [he] at hh; subst hh
                simp [Region.wanted, yielded, hj, hd, he]
            · cases h
          · cases h
        · cases h
      · cases h
    · cases h
theorem RunsL.step {T : Tab} (hT : TabOk P T) {n : Nat} (hn : C.n = n) {l l' : List Oper} {env' : Env} (h : astep T ops n env σ l = some (l', env')) (hk : RunsL P C ops l' k R ⟨env', σ⟩) : RunsL P C ops l k R ⟨env, σ⟩ := by
  unfold astep at h
  split at h
  · cases h
  · rename_i o rest
    obtain ⟨dst, op, ty, pos, after, g⟩ := o
    simp only at h
    split at h
    · cases h
    · rename_i t
      split at h
      · cases h
      · rename_i ht
        have ht' : t < C.n := Nat.lt_of_lt_of_eq (Nat.le_of_ble_eq_true ht) hn.symm
        split at h
        · rename_i hg
          refine RunsL.wanted (fun a m hH => gsay_yes hg a m hH) ?_
          split at h
          · rename_i v hv
            injection h with h; injection h with h1 h2; subst h1; subst h2
            exact RunsL.pur (pu_auto hT hv) rfl rfl ht' hk
          · split at h
            · injection h with h; injection h with h1 h2; subst h1; subst h2
              exact hk
            · cases h
        · rename_i hg
          injection h with h; injection h with h1 h2; subst h1; subst h2
          exact RunsL.unwanted rfl ht' (fun a m hH => gsay_no hg a m hH) hk
        · cases h
end
end Go.Proofs.YtnbjncafoahclaaDoor
