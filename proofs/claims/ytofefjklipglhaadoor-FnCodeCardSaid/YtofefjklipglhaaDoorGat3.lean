/- Gathered texts. -/
import Derived.Test.YtofefjklipglhaaDoorGat0
import Derived.Test.YtofefjklipglhaaDoorGat1
import Derived.Test.YtofefjklipglhaaDoorGat2
import Derived.Laws.Bits128
/- The draws' basics: bytes, numbers below a bound, elements of lists, the start. -/
namespace Go.Proofs.YtofefjklipglhaaDoor
set_option linter.unusedSimpArgs false
set_option linter.unusedVariables false
set_option maxRecDepth 100000
open Go.RowKit
open AV (Mem Keeps)
theorem and_255 (n : Int) : bits .and .i64 n 255 = n % 256 := by
  have h1 : (BitVec.ofInt 64 255).toNat = 2 ^ 8 - 1 := by decide
  have key : (BitVec.ofInt 64 n &&& BitVec.ofInt 64 255).toNat = (n % ((2 ^ 64 : Nat) : Int)).toNat % 2 ^ 8 := by
    rw [BitVec.toNat_and, BitVec.toNat_ofInt, h1, Nat.and_two_pow_sub_one_eq_mod]
  show IntKind.i64.wrap ((BitVec.ofInt 64 n &&& BitVec.ofInt 64 255).toNat : Nat) = n % 256
  rw [key, IntKind.wrap_i64]
  omega
theorem and_30 (n : Int) : bits .and .i64 n 1073741823 = n % 1073741824 := by
  have h1 : (BitVec.ofInt 64 1073741823).toNat = 2 ^ 30 - 1 := by decide
  have key : (BitVec.ofInt 64 n &&& BitVec.ofInt 64 1073741823).toNat = (n % ((2 ^ 64 : Nat) : Int)).toNat % 2 ^ 30 := by
    rw [BitVec.toNat_and, BitVec.toNat_ofInt, h1, Nat.and_two_pow_sub_one_eq_mod]
  show IntKind.i64.wrap ((BitVec.ofInt 64 n &&& BitVec.ofInt 64 1073741823).toNat : Nat) = n % 1073741824
  rw [key, IntKind.wrap_i64]
  omega
section
variable {P : Program} {C : Ctx} {env : Env} {σ : List Ob} {t : Nat} {ty : TypeId} {pos : String} {after : Array Edge} {gd : Option (Nat × Bool)} {xt yt : TypeId} {x y : Operand} {p q : Int}
theorem pu_xor (hx : ev env x = .int p) (hy : ev env y = .int q) : Pur P C ⟨some t, .binOp .xor xt x y yt, ty, pos, after, gd⟩ env σ (.int (bits .xor .i64 p q)) := pu_bin hx hy (fun w => by simp [go_sem])
theorem pu_and255 (hx : ev env x = .int p) (hy : ev env y = .int 255) : Pur P C ⟨some t, .binOp .and xt x y yt, ty, pos, after, gd⟩ env σ (.int (p % 256)) := pu_bin hx hy (fun w => by rw [← and_255]; simp [go_sem])
theorem pu_and30 (hx : ev env x = .int p) (hy : ev env y = .int 1073741823) : Pur P C ⟨some t, .binOp .and xt x y yt, ty, pos, after, gd⟩ env σ (.int (p % 1073741824)) := pu_bin hx hy (fun w => by rw [← and_30]; simp [go_sem])
end
def QI (p : Int → Prop) (rr : RR) : Prop := ∃ x, rr = .ro (.int x) ∧ p x
def QB (rr : RR) : Prop := ∃ x, rr = .ro (.bool x)
def QS (p : ByteArray → Prop) (rr : RR) : Prop := ∃ x, rr = .ro (.str x) ∧ p x
section
variable {P : Program} {C : Ctx} {ops : Array Oper} {rest : List Oper} {k : List Item} {R : Act → World → Prop} {env : Env} {σ : List Ob} {t : Nat} {ty : TypeId} {pos : String} {after : Array Edge} {ct : TypeId} {b : List UInt8} {u : Value} {i h : Int} {more : List Ob} {l : List Oper} {H T' : List IOq} {n : Nat}
theorem qi_ok {p : Int → Prop} : ∀ rr, QI p rr → flatR rr = true ∧ ∃ r, Seals rr r ∧ ∃ x, r = .int x ∧ p x := by
  rintro _ ⟨x, rfl, hx⟩; exact ⟨rfl, .int x, by simp [Seals], x, rfl, hx⟩
theorem qb_ok : ∀ rr, QB rr → flatR rr = true ∧ ∃ r, Seals rr r ∧ ∃ x, r = .bool x := by
  rintro _ ⟨x, rfl⟩; exact ⟨rfl, .bool x, by simp [Seals], x, rfl⟩
theorem qs_ok {p : ByteArray → Prop} : ∀ rr, QS p rr → flatR rr = true ∧ ∃ r, Seals rr r ∧ ∃ x, r = .str x ∧ p x := by
  rintro _ ⟨x, rfl, hx⟩; exact ⟨rfl, .str x, by simp [Seals], x, rfl, hx⟩
theorem op_drawI {f : FuncId} {fn : Func} {x0 : Operand} {xs : List Operand} {ats : Array TypeId} {args : List RV} {p : Int → Prop} [hfn : FN P f fn] (hf : Drw P ct f b args (QI p)) (hc : unpin (ev env x0) = .obj 0 0) (hu : HU C b u) (hi : CurOk b i) (hσ : σ = curOb ct u i h :: more) (ha : LendsPL C σ (xs.map (ev env)) args)
    (hce : clnE env = true) (hcl : clnO more = true) (ht : t < C.n) (hk : ∀ (i' h' x : Int), CurOk b i' → p x → RunsL P C ops rest k R ⟨(t, .int x) :: env, curOb ct u i' h' :: more⟩) :
    RunsL P C ops (⟨some t, .call { callee := .value (.func f), args := (x0 :: xs).toArray, argTypes := ats }, ty, pos, after, none⟩ :: rest) k R ⟨env, σ⟩ :=
  op_drawF hf qi_ok hc hu hi hσ ha hce hcl ht (by rintro i' h' _ h1 ⟨x, rfl, hx⟩; exact hk i' h' x h1 hx)
theorem op_drawB {f : FuncId} {fn : Func} {x0 : Operand} {xs : List Operand} {ats : Array TypeId} {args : List RV} [hfn : FN P f fn] (hf : Drw P ct f b args QB) (hc : unpin (ev env x0) = .obj 0 0) (hu : HU C b u) (hi : CurOk b i) (hσ : σ = curOb ct u i h :: more) (ha : LendsPL C σ (xs.map (ev env)) args)
    (hce : clnE env = true) (hcl : clnO more = true) (ht : t < C.n) (hk : ∀ (i' h' : Int) (x : Bool), CurOk b i' → RunsL P C ops rest k R ⟨(t, .bool x) :: env, curOb ct u i' h' :: more⟩) :
    RunsL P C ops (⟨some t, .call { callee := .value (.func f), args := (x0 :: xs).toArray, argTypes := ats }, ty, pos, after, none⟩ :: rest) k R ⟨env, σ⟩ :=
  op_drawF hf qb_ok hc hu hi hσ ha hce hcl ht (by rintro i' h' _ h1 ⟨x, rfl⟩; exact hk i' h' x h1)
theorem op_drawS {f : FuncId} {fn : Func} {x0 : Operand} {xs : List Operand} {ats : Array TypeId} {args : List RV} {p : ByteArray → Prop} [hfn : FN P f fn] (hf : Drw P ct f b args (QS p)) (hc : unpin (ev env x0) = .obj 0 0) (hu : HU C b u) (hi : CurOk b i) (hσ : σ = curOb ct u i h :: more) (ha : LendsPL C σ (xs.map (ev env)) args)
    (hce : clnE env = true) (hcl : clnO more = true) (ht : t < C.n) (hk : ∀ (i' h' : Int) (x : ByteArray), CurOk b i' → p x → RunsL P C ops rest k R ⟨(t, .str x) :: env, curOb ct u i' h' :: more⟩) :
    RunsL P C ops (⟨some t, .call { callee := .value (.func f), args := (x0 :: xs).toArray, argTypes := ats }, ty, pos, after, none⟩ :: rest) k R ⟨env, σ⟩ :=
  op_drawF hf qs_ok hc hu hi hσ ha hce hcl ht (by rintro i' h' _ h1 ⟨x, rfl, hx⟩; exact hk i' h' x h1 hx)
theorem RunsP.drawI {f : FuncId} {fn : Func} {x0 : Operand} {xs : List Operand} {ats : Array TypeId} {args : List RV} {p : Int → Prop} [hfn : FN P f fn] (hf : Drw P ct f b args (QI p)) (hc : unpin (ev env x0) = .obj 0 0) (hu : HU C b u) (hi : CurOk b i) (ha : ∀ h : Int, LendsPL C (curOb ct u i h :: more) (xs.map (ev env)) args)
    (hce : clnE env = true) (hcl : clnO more = true) (ht : t < C.n) (hk : ∀ (i' h' x : Int), CurOk b i' → p x → RunsP P C ct u more l H T' k R i' h' ((t, .int x) :: env)) :
    RunsP P C ct u more l H ((n, ⟨some t, .call { callee := .value (.func f), args := (x0 :: xs).toArray, argTypes := ats }, ty, pos, after, none⟩) :: T') k R i h env :=
  RunsP.drawF hf qi_ok hc hu hi ha hce hcl ht (by rintro i' h' _ h1 ⟨x, rfl, hx⟩; exact hk i' h' x h1 hx)
theorem RunsP.drawS {f : FuncId} {fn : Func} {x0 : Operand} {xs : List Operand} {ats : Array TypeId} {args : List RV} {p : ByteArray → Prop} [hfn : FN P f fn] (hf : Drw P ct f b args (QS p)) (hc : unpin (ev env x0) = .obj 0 0) (hu : HU C b u) (hi : CurOk b i) (ha : ∀ h : Int, LendsPL C (curOb ct u i h :: more) (xs.map (ev env)) args)
    (hce : clnE env = true) (hcl : clnO more = true) (ht : t < C.n) (hk : ∀ (i' h' : Int) (x : ByteArray), CurOk b i' → p x → RunsP P C ct u more l H T' k R i' h' ((t, .str x) :: env)) :
    RunsP P C ct u more l H ((n, ⟨some t, .call { callee := .value (.func f), args := (x0 :: xs).toArray, argTypes := ats }, ty, pos, after, none⟩) :: T') k R i h env :=
  RunsP.drawF hf qs_ok hc hu hi ha hce hcl ht (by rintro i' h' _ h1 ⟨x, rfl, hx⟩; exact hk i' h' x h1 hx)
end
def curH (h : Int) : Int := w64 (w64 (h * 6364136223846793005) + 1442695040888963407)
def curX (h : Int) : Int := bits .xor .i64 (curH h / 8589934592) (curH h / 140737488355328) % 256
theorem l1Byte_d (b : List UInt8) (hb : b.length ≤ 1048576) : Drw Tryd.prog 65 64 b [] (QI fun x => 0 ≤ x ∧ x ≤ 255) := by
  have hlb : (b.map fun z => [RV.u8 z]).length = b.length := List.length_map ..
  refine drw_enter Tryd.func64 rfl _ Tryd.ntmps64 (by simp) fun C g u i h hn hm hu hi => ?_
  have hi' := hi
  unfold CurOk at hi'
  have hx0 : 0 ≤ curX h ∧ curX h ≤ 255 := by unfold curX; omega
  by_cases hlt : i < b.length
  · obtain ⟨c, hc⟩ : ∃ c, b[i.toNat]? = some c := ⟨_, List.getElem?_eq_getElem (by omega)⟩
    have hcl := c.toNat_lt
    repeat' (first
 | ((first | refine RunsL.pe hn rfl rfl rfl ?_ | refine RunsD.pe rfl rfl ?_); first
 | refine ⟨_, Pur.know hu (pu_auto tabOk rfl), ?_⟩)
 | refine RunsL.step tabOk hn rfl ?_
 | refine RunsL.nil ?_
 | refine Runs.toRegion 30 rfl ?_
 | ((first | refine RunsL.pe hn rfl rfl rfl ?_ | refine RunsD.pe rfl rfl ?_); first
 | refine ⟨_, pu_nilCheckP rfl, ?_⟩
 | refine ⟨_, pu_mulW rfl rfl, ?_⟩
 | refine ⟨_, pu_addW (t := 10) rfl rfl, ?_⟩
 | refine ⟨_, pu_shrK 8589934592 rfl rfl (by decide) (by decide), ?_⟩
 | refine ⟨_, pu_shrK 140737488355328 rfl rfl (by decide) (by decide), ?_⟩
 | refine ⟨_, pu_xor rfl rfl, ?_⟩
 | refine ⟨_, pu_and255 rfl rfl, ?_⟩
 | refine ⟨_, pu_ofU8 rfl, ?_⟩
 | refine ⟨_, pu_add rfl rfl (by have := c.toNat_lt; omega), ?_⟩)
 | (refine Runs.ctls 30 rfl ?_; first | ((first | refine Runs.cond_yes rfl ?_ ?_ | refine Runs.cond_nno rfl ?_ ?_); · first | omega | rfl | assumption | (simp only [List.length_map]; omega)) | ((first | refine Runs.cond_no rfl ?_ ?_ | refine Runs.cond_nyes rfl ?_ ?_); · first | omega | rfl | assumption | (simp only [List.length_map]; omega)) | refine Runs.ret (ends_ro hm rfl rfl ?_) | exact Runs.ret (ends_cellR hm rfl rfl rfl (Nat.le_of_ble_eq_true rfl) rfl rfl))
 | refine op_storeF rfl rfl rfl rfl (Nat.le_of_ble_eq_true rfl) ?_
 | refine RunsD.step tabOk hn rfl rfl ?_
 | refine RunsD.nil ?_
 | refine Runs.toDraw 30 mixed hn rfl (by kernel_rfl) rfl ?_
 | ((first | refine RunsL.pe hn rfl rfl rfl ?_ | refine RunsD.pe rfl rfl ?_); first
 | refine ⟨_, pu_add rfl rfl (by omega), ?_⟩
 | refine ⟨_, pu_indexAddr_map rfl rfl (by omega) (by assumption), ?_⟩
 | refine ⟨_, pu_sub rfl rfl (by omega), ?_⟩
 | refine ⟨_, pu_pick_b rfl rfl rfl, ?_⟩
 | refine ⟨_, pu_mul rfl rfl (by omega), ?_⟩
 | refine ⟨_, pu_build rfl rfl rfl rfl rfl rfl, ?_⟩))
    all_goals exact Runs.ctls 30 rfl (Runs.ret (endsD_ro hm rfl rfl rfl ⟨by omega, by omega⟩ rfl ⟨_, rfl, by omega, by omega⟩))
  · repeat' (first
 | ((first | refine RunsL.pe hn rfl rfl rfl ?_ | refine RunsD.pe rfl rfl ?_); first
 | refine ⟨_, Pur.know hu (pu_auto tabOk rfl), ?_⟩)
 | refine RunsL.step tabOk hn rfl ?_
 | refine RunsL.nil ?_
 | refine Runs.toRegion 30 rfl ?_
 | ((first | refine RunsL.pe hn rfl rfl rfl ?_ | refine RunsD.pe rfl rfl ?_); first
 | refine ⟨_, pu_nilCheckP rfl, ?_⟩
 | refine ⟨_, pu_mulW rfl rfl, ?_⟩
 | refine ⟨_, pu_addW (t := 10) rfl rfl, ?_⟩
 | refine ⟨_, pu_shrK 8589934592 rfl rfl (by decide) (by decide), ?_⟩
 | refine ⟨_, pu_shrK 140737488355328 rfl rfl (by decide) (by decide), ?_⟩
 | refine ⟨_, pu_xor rfl rfl, ?_⟩
 | refine ⟨_, pu_and255 rfl rfl, ?_⟩
 | refine ⟨_, pu_ofU8 rfl, ?_⟩)
 | (refine Runs.ctls 30 rfl ?_; first | ((first | refine Runs.cond_yes rfl ?_ ?_ | refine Runs.cond_nno rfl ?_ ?_); · first | omega | rfl | assumption | (simp only [List.length_map]; omega)) | ((first | refine Runs.cond_no rfl ?_ ?_ | refine Runs.cond_nyes rfl ?_ ?_); · first | omega | rfl | assumption | (simp only [List.length_map]; omega)) | refine Runs.ret (ends_ro hm rfl rfl ?_) | exact Runs.ret (ends_cellR hm rfl rfl rfl (Nat.le_of_ble_eq_true rfl) rfl rfl))
 | refine op_storeF rfl rfl rfl rfl (Nat.le_of_ble_eq_true rfl) ?_
 | refine RunsD.step tabOk hn rfl rfl ?_
 | refine RunsD.nil ?_
 | refine Runs.toDraw 30 mixed hn rfl (by kernel_rfl) rfl ?_
 | ((first | refine RunsL.pe hn rfl rfl rfl ?_ | refine RunsD.pe rfl rfl ?_); first
 | refine ⟨_, pu_add rfl rfl (by omega), ?_⟩
 | refine ⟨_, pu_indexAddr_map rfl rfl (by omega) (by assumption), ?_⟩
 | refine ⟨_, pu_sub rfl rfl (by omega), ?_⟩
 | refine ⟨_, pu_pick_b rfl rfl rfl, ?_⟩
 | refine ⟨_, pu_mul rfl rfl (by omega), ?_⟩
 | refine ⟨_, pu_build rfl rfl rfl rfl rfl rfl, ?_⟩))
    all_goals exact Runs.ctls 30 rfl (Runs.ret (endsD_ro hm rfl rfl rfl hi rfl ⟨_, rfl, hx0⟩))
end Go.Proofs.YtofefjklipglhaaDoor
/- The draws' basics: numbers below a bound, elements of lists, bytes, the start. -/
namespace Go.Proofs.YtofefjklipglhaaDoor
set_option linter.unusedSimpArgs false
set_option linter.unusedVariables false
set_option maxRecDepth 100000
open Go.RowKit
open AV (Mem Keeps)
def Bel (n : Int) (x : Int) : Prop := (n ≤ 0 → x = 0) ∧ (0 < n → 0 ≤ x ∧ x < n)
set_option maxHeartbeats 1600000 in
theorem l1Below_d (b : List UInt8) (hb : b.length ≤ 1048576) (n : Int) (hn' : n ≤ 16777216) : Drw Tryd.prog 65 44 b [.int n] (QI (Bel n)) := by
  refine drw_enter Tryd.func44 rfl _ Tryd.ntmps44 (by simp) fun C g u i h hn hm hu hi => ?_
  by_cases h1 : n ≤ 0
  · repeat' (first
 | refine RunsL.step tabOk hn rfl ?_
 | refine RunsL.nil ?_
 | refine Runs.toRegion 30 rfl ?_
 | (refine Runs.ctls 30 rfl ?_; first | ((first | refine Runs.cond_yes rfl ?_ ?_ | refine Runs.cond_nno rfl ?_ ?_); · first | omega | rfl | assumption | (simp only [List.length_map]; omega)) | ((first | refine Runs.cond_no rfl ?_ ?_ | refine Runs.cond_nyes rfl ?_ ?_); · first | omega | rfl | assumption | (simp only [List.length_map]; omega)) | refine Runs.ret (ends_ro hm rfl rfl ?_) | exact Runs.ret (ends_cellR hm rfl rfl rfl (Nat.le_of_ble_eq_true rfl) rfl rfl))
 | (refine RunsL.pe hn rfl rfl rfl ?_; first
 | refine ⟨_, pu_add rfl rfl (by omega), ?_⟩
 | refine ⟨_, pu_mul rfl rfl (by omega), ?_⟩
      ))
    all_goals exact Runs.ctls 30 rfl (Runs.ret (endsD_ro hm rfl rfl rfl hi rfl ⟨_, rfl, fun _ => rfl, by omega⟩))
  by_cases h2 : n ≤ 256
  · repeat' (first
 | (refine op_drawI (l1Byte_d b hb) rfl hu hi rfl .nil rfl rfl (tl hn rfl) ?_; intro i h x hi hx)
 | refine RunsL.step tabOk hn rfl ?_
 | refine RunsL.nil ?_
 | refine Runs.toRegion 30 rfl ?_
 | (refine RunsL.pe hn rfl rfl rfl ?_; first
 | refine ⟨_, pu_rem rfl rfl (by omega), ?_⟩)
 | (refine Runs.ctls 30 rfl ?_; first | ((first | refine Runs.cond_yes rfl ?_ ?_ | refine Runs.cond_nno rfl ?_ ?_); · first | omega | rfl | assumption | (simp only [List.length_map]; omega)) | ((first | refine Runs.cond_no rfl ?_ ?_ | refine Runs.cond_nyes rfl ?_ ?_); · first | omega | rfl | assumption | (simp only [List.length_map]; omega)) | refine Runs.ret (ends_ro hm rfl rfl ?_) | exact Runs.ret (ends_cellR hm rfl rfl rfl (Nat.le_of_ble_eq_true rfl) rfl rfl))
 | (refine RunsL.pe hn rfl rfl rfl ?_; first
 | refine ⟨_, pu_add rfl rfl (by omega), ?_⟩
 | refine ⟨_, pu_mul rfl rfl (by omega), ?_⟩
      ))
    all_goals exact Runs.ctls 30 rfl (Runs.ret (endsD_ro hm rfl rfl rfl hi rfl ⟨_, rfl, by omega, fun _ => ⟨Int.emod_nonneg _ (by omega), Int.emod_lt_of_pos _ (by omega)⟩⟩))
  · repeat' (first
 | (refine op_drawI (l1Byte_d b hb) rfl hu hi rfl .nil rfl rfl (tl hn rfl) ?_; intro i h x hi hx)
 | refine RunsL.step tabOk hn rfl ?_
 | refine RunsL.nil ?_
 | refine Runs.toRegion 30 rfl ?_
 | (refine RunsL.pe hn rfl rfl rfl ?_; first
 | refine ⟨_, pu_rem rfl rfl (by omega), ?_⟩)
 | (refine Runs.ctls 30 rfl ?_; first | ((first | refine Runs.cond_yes rfl ?_ ?_ | refine Runs.cond_nno rfl ?_ ?_); · first | omega | rfl | assumption | (simp only [List.length_map]; omega)) | ((first | refine Runs.cond_no rfl ?_ ?_ | refine Runs.cond_nyes rfl ?_ ?_); · first | omega | rfl | assumption | (simp only [List.length_map]; omega)) | refine Runs.ret (ends_ro hm rfl rfl ?_) | exact Runs.ret (ends_cellR hm rfl rfl rfl (Nat.le_of_ble_eq_true rfl) rfl rfl))
 | (refine RunsL.pe hn rfl rfl rfl ?_; first
 | refine ⟨_, pu_add rfl rfl (by omega), ?_⟩
 | refine ⟨_, pu_mul rfl rfl (by omega), ?_⟩
      ))
    all_goals exact Runs.ctls 30 rfl (Runs.ret (endsD_ro hm rfl rfl rfl hi rfl ⟨_, rfl, by omega, fun _ => ⟨Int.emod_nonneg _ (by omega), Int.emod_lt_of_pos _ (by omega)⟩⟩))
theorem l1Once_d (b : List UInt8) (hb : b.length ≤ 1048576) (n : Int) (hn' : n ≤ 16777216) : Drw Tryd.prog 65 60 b [.int n] QB := by
  refine drw_enter Tryd.func60 rfl _ Tryd.ntmps60 (by simp) fun C g u i h hn hm hu hi => ?_
  repeat' (first
 | (refine op_drawI (l1Below_d b hb n hn') rfl hu hi rfl (LendsPL.ros [.int n]) rfl rfl (tl hn rfl) ?_; intro i h x hi hx)
 | refine RunsL.step tabOk hn rfl ?_
 | refine RunsL.nil ?_
 | refine Runs.toRegion 30 rfl ?_
 | (refine Runs.ctls 30 rfl ?_; first | ((first | refine Runs.cond_yes rfl ?_ ?_ | refine Runs.cond_nno rfl ?_ ?_); · first | omega | rfl | assumption | (simp only [List.length_map]; omega)) | ((first | refine Runs.cond_no rfl ?_ ?_ | refine Runs.cond_nyes rfl ?_ ?_); · first | omega | rfl | assumption | (simp only [List.length_map]; omega)) | refine Runs.ret (ends_ro hm rfl rfl ?_) | exact Runs.ret (ends_cellR hm rfl rfl rfl (Nat.le_of_ble_eq_true rfl) rfl rfl))
    )
  all_goals exact Runs.ctls 30 rfl (Runs.ret (endsD_ro hm rfl rfl rfl hi rfl ⟨_, rfl⟩))
theorem l1Int_d (b : List UInt8) (hb : b.length ≤ 1048576) (l : List Int) (h0 : 0 < l.length) (hl : l.length ≤ 1000) : Drw Tryd.prog 65 63 b [intsR l] (QI (· ∈ l)) := by
  have hlm : (l.map fun z => [RV.int z]).length = l.length := List.length_map ..
  refine drw_enter Tryd.func63 rfl _ Tryd.ntmps63 (by simp) fun C g u i h hn hm hu hi => ?_
  repeat' (first
 | (refine op_drawI (l1Below_d b hb (l.length : Int) (by omega)) rfl hu hi rfl (LendsPL.ros [.int (l.length : Int)]) rfl rfl (tl hn rfl) ?_; intro i h x hi hx; obtain ⟨x0, x1⟩ := hx.2 (by omega); obtain ⟨s, hs⟩ : ∃ s, l[x.toNat]? = some s := ⟨_, List.getElem?_eq_getElem (by omega)⟩)
 | (refine RunsL.pe hn rfl rfl rfl ?_; first
 | refine ⟨_, pu_len_seqN l.length rfl hlm, ?_⟩)
 | refine RunsL.step tabOk hn rfl ?_
 | refine RunsL.nil ?_
 | refine Runs.toRegion 30 rfl ?_
 | (refine Runs.ctls 30 rfl ?_; first | ((first | refine Runs.cond_yes rfl ?_ ?_ | refine Runs.cond_nno rfl ?_ ?_); · first | omega | rfl | assumption | (simp only [List.length_map]; omega)) | ((first | refine Runs.cond_no rfl ?_ ?_ | refine Runs.cond_nyes rfl ?_ ?_); · first | omega | rfl | assumption | (simp only [List.length_map]; omega)) | refine Runs.ret (ends_ro hm rfl rfl ?_) | exact Runs.ret (ends_cellR hm rfl rfl rfl (Nat.le_of_ble_eq_true rfl) rfl rfl))
 | (refine RunsL.pe hn rfl rfl rfl ?_; first
 | refine ⟨_, pu_indexAddr_map rfl rfl (by omega) (by assumption), ?_⟩
      ))
  all_goals exact Runs.ctls 30 rfl (Runs.ret (endsD_ro hm rfl rfl rfl hi rfl ⟨_, rfl, List.mem_of_getElem? hs⟩))
theorem l1Str_d (b : List UInt8) (hb : b.length ≤ 1048576) (l : List ByteArray) (h0 : 0 < l.length) (hl : l.length ≤ 1000) : Drw Tryd.prog 65 58 b [strsR l] (QS (· ∈ l)) := by
  have hlm : (l.map fun z => [RV.str z]).length = l.length := List.length_map ..
  refine drw_enter Tryd.func58 rfl _ Tryd.ntmps58 (by simp) fun C g u i h hn hm hu hi => ?_
  repeat' (first
 | (refine op_drawI (l1Below_d b hb (l.length : Int) (by omega)) rfl hu hi rfl (LendsPL.ros [.int (l.length : Int)]) rfl rfl (tl hn rfl) ?_; intro i h x hi hx; obtain ⟨x0, x1⟩ := hx.2 (by omega); obtain ⟨s, hs⟩ : ∃ s, l[x.toNat]? = some s := ⟨_, List.getElem?_eq_getElem (by omega)⟩)
 | (refine RunsL.pe hn rfl rfl rfl ?_; first
 | refine ⟨_, pu_len_seqN l.length rfl hlm, ?_⟩)
 | refine RunsL.step tabOk hn rfl ?_
 | refine RunsL.nil ?_
 | refine Runs.toRegion 30 rfl ?_
 | (refine Runs.ctls 30 rfl ?_; first | ((first | refine Runs.cond_yes rfl ?_ ?_ | refine Runs.cond_nno rfl ?_ ?_); · first | omega | rfl | assumption | (simp only [List.length_map]; omega)) | ((first | refine Runs.cond_no rfl ?_ ?_ | refine Runs.cond_nyes rfl ?_ ?_); · first | omega | rfl | assumption | (simp only [List.length_map]; omega)) | refine Runs.ret (ends_ro hm rfl rfl ?_) | exact Runs.ret (ends_cellR hm rfl rfl rfl (Nat.le_of_ble_eq_true rfl) rfl rfl))
 | (refine RunsL.pe hn rfl rfl rfl ?_; first
 | refine ⟨_, pu_indexAddr_map rfl rfl (by omega) (by assumption), ?_⟩
      ))
  all_goals exact Runs.ctls 30 rfl (Runs.ret (endsD_ro hm rfl rfl rfl hi rfl ⟨_, rfl, List.mem_of_getElem? hs⟩))
def QBy (p : List UInt8 → Prop) (rr : RR) : Prop := ∃ x : List UInt8, rr = .row 5 1 (x.map RV.u8) ∧ p x
theorem l1Bytes_d (b : List UInt8) (hb : b.length ≤ 1048576) (n : Nat) (hn' : n ≤ 1000) : Drw Tryd.prog 65 61 b [.int (n : Int)] (QBy fun x => x.length = n) := by
  refine drw_enter Tryd.func61 rfl _ Tryd.ntmps61 (by simp) fun C g u i h hn hm hu hi => ?_
  repeat' (first
 | refine RunsL.step tabOk hn rfl ?_
 | refine RunsL.nil ?_
 | refine Runs.toRegion 30 rfl ?_
 | refine op_build0 (tl hn rfl) ?_
 | (refine Runs.ctls 30 rfl ?_; first | ((first | refine Runs.cond_yes rfl ?_ ?_ | refine Runs.cond_nno rfl ?_ ?_); · first | omega | rfl | assumption | (simp only [List.length_map]; omega)) | ((first | refine Runs.cond_no rfl ?_ ?_ | refine Runs.cond_nyes rfl ?_ ?_); · first | omega | rfl | assumption | (simp only [List.length_map]; omega)) | refine Runs.ret (ends_ro hm rfl rfl ?_) | exact Runs.ret (ends_cellR hm rfl rfl rfl (Nat.le_of_ble_eq_true rfl) rfl rfl))
 | (refine RunsL.pe hn rfl rfl rfl ?_; first
 | refine ⟨_, pu_add rfl rfl (by omega), ?_⟩
 | refine ⟨_, pu_build rfl rfl rfl rfl rfl rfl, ?_⟩))
  refine Runs.loopI 30 rfl (fun m E z => ∃ (j : Nat) (x : List UInt8) (i h : Int), j + m = n ∧ x.length = j ∧ CurOk b i ∧ E = [(0, .pin 0 0 g), (1, .int n), (5, .own 1), (6, .int (j : Int))] ∧ z = [curOb 65 u i h, ⟨5, 1, (x.map RV.u8).map .ro⟩]) n [(0, .pin 0 0 g), (1, .int n), (5, .own 1), (6, .int ((0 : Nat) : Int))] ⟨rfl, rfl, rfl, rfl, trivial⟩ ⟨0, [], i, h, by omega, rfl, hi, rfl, rfl⟩ fun m E z ⟨j, x, i, h, hj, hx, hi, hE, hz⟩ ih => ?_
  subst hE; subst hz
  by_cases hlt : j < n
  · have hxl : (x.map RV.u8).length = j := by rw [List.length_map]; exact hx
    repeat' (first
 | (refine op_drawI (l1Byte_d b hb) rfl hu hi rfl .nil rfl (by first | rfl | repeat' (first | rfl | exact clns_ro _ | refine clnO_cons ?_ ?_)) (tl hn rfl) ?_; intro i h y hi hy)
 | refine RunsL.step tabOk hn rfl ?_
 | refine RunsL.nil ?_
 | refine Runs.toRegion 30 rfl ?_
 | refine op_append (n := j) rfl rfl rfl rfl rfl rfl (by rw [hxl, Nat.mul_one]) (FreeI.at_ ⟨by simp [curOb, AV.onlys, AV.only], onlys_ro _ _, trivial⟩) (by simp; omega) (by simp; omega) (tl hn rfl) ?_
 | (refine RunsL.pe hn rfl rfl rfl ?_; first
 | refine ⟨_, pu_toU8 rfl, ?_⟩
 | refine ⟨_, pu_build rfl rfl rfl rfl rfl rfl, ?_⟩)
 | (refine Runs.ctls 30 rfl ?_; first | ((first | refine Runs.cond_yes rfl ?_ ?_ | refine Runs.cond_nno rfl ?_ ?_); · first | omega | rfl | assumption | (simp only [List.length_map]; omega)) | ((first | refine Runs.cond_no rfl ?_ ?_ | refine Runs.cond_nyes rfl ?_ ?_); · first | omega | rfl | assumption | (simp only [List.length_map]; omega)) | refine Runs.ret (ends_ro hm rfl rfl ?_) | exact Runs.ret (ends_cellR hm rfl rfl rfl (Nat.le_of_ble_eq_true rfl) rfl rfl))
 | (refine RunsL.pe hn rfl rfl rfl ?_; first
 | refine ⟨_, pu_add rfl rfl (by omega), ?_⟩
 | refine ⟨_, pu_build rfl rfl rfl rfl rfl rfl, ?_⟩))
    refine Runs.ctls 30 rfl ?_
    refine ih (m - 1) _ _ _ (by omega) ⟨j + 1, x ++ [u8i y], i, h, by omega, by simp [hx], hi, rfl, ?_⟩ ⟨rfl, rfl, rfl, rfl, trivial⟩
    simp
  · repeat' (first
 | refine RunsL.step tabOk hn rfl ?_
 | refine RunsL.nil ?_
 | refine Runs.toRegion 30 rfl ?_
 | (refine Runs.ctls 30 rfl ?_; first | ((first | refine Runs.cond_yes rfl ?_ ?_ | refine Runs.cond_nno rfl ?_ ?_); · first | omega | rfl | assumption | (simp only [List.length_map]; omega)) | ((first | refine Runs.cond_no rfl ?_ ?_ | refine Runs.cond_nyes rfl ?_ ?_); · first | omega | rfl | assumption | (simp only [List.length_map]; omega)) | refine Runs.ret (ends_ro hm rfl rfl ?_) | exact Runs.ret (ends_cellR hm rfl rfl rfl (Nat.le_of_ble_eq_true rfl) rfl rfl))
 | (refine RunsL.pe hn rfl rfl rfl ?_; first
 | refine ⟨_, pu_add rfl rfl (by omega), ?_⟩
 | refine ⟨_, pu_build rfl rfl rfl rfl rfl rfl, ?_⟩))
    have ej : j = n := by omega
    subst ej
    exact Runs.ctls 30 rfl (Runs.ret (endsD_own (rs := x.map RV.u8) hm rfl rfl rfl hi rfl (by decide) rfl ⟨x, rfl, hx⟩))
set_option maxRecDepth 100000 in
instance tb_cur : TB Tryd.prog 65 [(0, 1), (1, 1), (2, 1)] [.slice none 0 0, .int .i64 0, .int .i64 0] := ⟨_, _, _, rfl, rfl, rfl, rfl, by kernel_rfl, by decide⟩
def hashN (b : List UInt8) : Nat → Int
  | 0 => 193017 + b.length
  | j + 1 => (hashN b j * 137 + ((b[j]?.getD 0).toNat : Int) + 11) % 1073741824
theorem hashN_bd (b : List UInt8) (hb : b.length ≤ 1048576) : ∀ j, 0 ≤ hashN b j ∧ hashN b j ≤ 1073741824
  | 0 => by unfold hashN; omega
  | j + 1 => by unfold hashN; omega
set_option maxRecDepth 100000 in
theorem l1New_u (b : List UInt8) (hb : b.length ≤ 1048576) : ANewU Tryd.prog 65 16 b := by
  have hlb : (b.map fun z => [RV.u8 z]).length = b.length := List.length_map ..
  refine anewU_enter Tryd.func16 rfl _ Tryd.ntmps16 (by simp) fun C u hn hm hu => ?_
  obtain ⟨A, m0, c0, rfl⟩ := hu.shape
  repeat' (first
 | (refine RunsL.pe hn rfl rfl rfl ?_; first
 | refine ⟨_, pu_len_seqN b.length rfl hlb, ?_⟩
 | refine ⟨_, Pur.know hu (pu_auto (t := 5) tabOk rfl), ?_⟩
 | refine ⟨_, Pur.know hu (pu_auto (t := 9) tabOk rfl), ?_⟩
 | refine ⟨_, Pur.know hu (pu_auto (t := 20) tabOk rfl), ?_⟩)
 | refine RunsL.step tabOk hn rfl ?_
 | refine RunsL.nil ?_
 | refine Runs.toRegion 30 rfl ?_
 | (refine Runs.ctls 30 rfl ?_; first | refine Runs.cond_f rfl ?_ | ((first | refine Runs.cond_yes rfl ?_ ?_ | refine Runs.cond_nno rfl ?_ ?_); · first | omega | rfl | assumption | (simp only [List.length_map]; omega)) | ((first | refine Runs.cond_no rfl ?_ ?_ | refine Runs.cond_nyes rfl ?_ ?_); · first | omega | rfl | assumption | (simp only [List.length_map]; omega)) | refine Runs.ret (ends_ro hm rfl rfl ?_) | exact Runs.ret (ends_cellR hm rfl rfl rfl (Nat.le_of_ble_eq_true rfl) rfl rfl))
 | refine op_box rfl (tl hn rfl) ?_
 | (refine RunsL.pe hn rfl rfl rfl ?_; first
 | refine ⟨_, pu_add rfl rfl (by omega), ?_⟩
 | refine ⟨_, pu_indexAddr_map rfl rfl (by omega) (by assumption), ?_⟩
 | refine ⟨_, pu_mul rfl rfl (by omega), ?_⟩
      )
 | ((first | refine RunsL.guard_dec rfl rfl rfl ?_ ?_ | refine RunsL.guard_ndec rfl rfl rfl ?_ ?_ | refine RunsL.guard_nb rfl rfl rfl ?_ ?_ | refine RunsL.guard_b rfl rfl rfl ?_ ?_) <;> intro h <;> try (exfalso; first | omega | contradiction | (simp only [List.length_map] at h; omega))))
  refine Runs.loopN 30 rfl (fun j => [(0, .ro (.c (.slice A m0 c0))), (3, .int (hashN b j)), (4, .int (j : Int))]) (fun _ => []) (fun _ => True) (min b.length 4000) 0 (Nat.zero_le _) trivial ⟨rfl, rfl, rfl, trivial⟩ rfl fun j hj _ next => ?_
  have hbd := hashN_bd b hb j
  by_cases hlt : j < min b.length 4000
  · obtain ⟨c, hc⟩ : ∃ c, b[(j : Int).toNat]? = some c := ⟨_, List.getElem?_eq_getElem (by simp; omega)⟩
    have hcl := c.toNat_lt
    repeat' (first
 | (refine RunsL.pe hn rfl rfl rfl ?_; first
 | refine ⟨_, pu_len_seqN b.length rfl hlb, ?_⟩
 | refine ⟨_, Pur.know hu (pu_auto (t := 5) tabOk rfl), ?_⟩
 | refine ⟨_, Pur.know hu (pu_auto (t := 9) tabOk rfl), ?_⟩
 | refine ⟨_, Pur.know hu (pu_auto (t := 20) tabOk rfl), ?_⟩)
 | refine RunsL.step tabOk hn rfl ?_
 | refine RunsL.nil ?_
 | refine Runs.toRegion 30 rfl ?_
 | (refine RunsL.pe hn rfl rfl rfl ?_; first
 | refine ⟨_, pu_ofU8 rfl, ?_⟩
 | refine ⟨_, pu_and30 rfl rfl, ?_⟩)
 | (refine Runs.ctls 30 rfl ?_; first | refine Runs.cond_f rfl ?_ | ((first | refine Runs.cond_yes rfl ?_ ?_ | refine Runs.cond_nno rfl ?_ ?_); · first | omega | rfl | assumption | (simp only [List.length_map]; omega)) | ((first | refine Runs.cond_no rfl ?_ ?_ | refine Runs.cond_nyes rfl ?_ ?_); · first | omega | rfl | assumption | (simp only [List.length_map]; omega)) | refine Runs.ret (ends_ro hm rfl rfl ?_) | exact Runs.ret (ends_cellR hm rfl rfl rfl (Nat.le_of_ble_eq_true rfl) rfl rfl))
 | refine op_box rfl (tl hn rfl) ?_
 | (refine RunsL.pe hn rfl rfl rfl ?_; first
 | refine ⟨_, pu_add rfl rfl (by omega), ?_⟩
 | refine ⟨_, pu_indexAddr_map rfl rfl (by omega) (by assumption), ?_⟩
 | refine ⟨_, pu_mul rfl rfl (by omega), ?_⟩
        )
 | ((first | refine RunsL.guard_dec rfl rfl rfl ?_ ?_ | refine RunsL.guard_ndec rfl rfl rfl ?_ ?_ | refine RunsL.guard_nb rfl rfl rfl ?_ ?_ | refine RunsL.guard_b rfl rfl rfl ?_ ?_) <;> intro h <;> try (exfalso; first | omega | contradiction | (simp only [List.length_map] at h; omega))))
    refine next _ _ ⟨rfl, ?_, rfl, trivial⟩ hlt trivial rfl
    have hc' : b[j]? = some c := hc
    show AV.int _ = AV.int _
    rw [hashN, hc']; rfl
  · have ej : j = min b.length 4000 := by omega
    repeat' (first
 | (refine RunsL.pe hn rfl rfl rfl ?_; first
 | refine ⟨_, pu_len_seqN b.length rfl hlb, ?_⟩
 | refine ⟨_, Pur.know hu (pu_auto (t := 5) tabOk rfl), ?_⟩
 | refine ⟨_, Pur.know hu (pu_auto (t := 9) tabOk rfl), ?_⟩
 | refine ⟨_, Pur.know hu (pu_auto (t := 20) tabOk rfl), ?_⟩)
 | refine RunsL.step tabOk hn rfl ?_
 | refine RunsL.nil ?_
 | refine Runs.toRegion 30 rfl ?_
 | (refine RunsL.pe hn rfl rfl rfl ?_; first
 | refine ⟨_, pu_buildS rfl, ?_⟩)
 | (refine Runs.ctls 30 rfl ?_; first | refine Runs.cond_f rfl ?_ | ((first | refine Runs.cond_yes rfl ?_ ?_ | refine Runs.cond_nno rfl ?_ ?_); · first | omega | rfl | assumption | (simp only [List.length_map]; omega)) | ((first | refine Runs.cond_no rfl ?_ ?_ | refine Runs.cond_nyes rfl ?_ ?_); · first | omega | rfl | assumption | (simp only [List.length_map]; omega)) | refine Runs.ret (ends_ro hm rfl rfl ?_) | exact Runs.ret (ends_cellR hm rfl rfl rfl (Nat.le_of_ble_eq_true rfl) rfl rfl))
 | refine op_box rfl (tl hn rfl) ?_
 | (refine RunsL.pe hn rfl rfl rfl ?_; first
 | refine ⟨_, pu_add rfl rfl (by omega), ?_⟩
 | refine ⟨_, pu_indexAddr_map rfl rfl (by omega) (by assumption), ?_⟩
 | refine ⟨_, pu_mul rfl rfl (by omega), ?_⟩
        )
 | ((first | refine RunsL.guard_dec rfl rfl rfl ?_ ?_ | refine RunsL.guard_ndec rfl rfl rfl ?_ ?_ | refine RunsL.guard_nb rfl rfl rfl ?_ ?_ | refine RunsL.guard_b rfl rfl rfl ?_ ?_) <;> intro h <;> try (exfalso; first | omega | contradiction | (simp only [List.length_map] at h; omega))))
    all_goals exact Runs.ctls 30 rfl (Runs.ret (endsNU hm rfl rfl rfl))
end Go.Proofs.YtofefjklipglhaaDoor
/- FormatInt: the reference's (a loop). -/
namespace Go.Proofs.YtofefjklipglhaaDoor
set_option linter.unusedSimpArgs false
set_option linter.unusedVariables false
set_option maxRecDepth 100000
open Go.RowKit
section
variable {P : Program} {C : Ctx} {env : Env} {σ : List Ob} {t : Nat} {ty : TypeId} {pos : String} {after : Array Edge} {gd : Option (Nat × Bool)}
theorem i64_small {p : Int} (h : -9223372036854775808 ≤ p ∧ p ≤ 9223372036854775807) : IntKind.i64.wrap p = p := by
  simp [IntKind.wrap, IntKind.bits, IntKind.signed]; omega
theorem pu_quo10 {xt yt : TypeId} {x y : Operand} {p : Int} (hx : ev env x = .int p) (hy : ev env y = .int 10) (h : I64 p) : Pur P C ⟨some t, .binOp .quo xt x y yt, ty, pos, after, gd⟩ env σ (.int (p.tdiv 10)) :=
  pu_bin hx hy (fun w => by
    have h1 : (p.tdiv 10).natAbs = p.natAbs / 10 := by rw [Int.natAbs_tdiv]; rfl
    have hw : IntKind.i64.wrap (p.tdiv 10) = p.tdiv 10 := i64_small (by omega)
    simp [go_sem, Op.intDiv, hw])
theorem pu_rem10 {xt yt : TypeId} {x y : Operand} {p : Int} (hx : ev env x = .int p) (hy : ev env y = .int 10) : Pur P C ⟨some t, .binOp .rem xt x y yt, ty, pos, after, gd⟩ env σ (.int (p.tmod 10)) :=
  pu_bin hx hy (fun w => by
    have h1 : (p.tmod 10).natAbs = p.natAbs % 10 := by rw [Int.natAbs_tmod]; rfl
    have hw : IntKind.i64.wrap (p.tmod 10) = p.tmod 10 := i64_small (by omega)
    simp [go_sem, Op.intDiv, hw])
theorem pu_neg {xt : TypeId} {x : Operand} {p : Int} [hs : TI P xt .i64] (hx : ev env x = .int p) (h : I64 (-p)) : Pur P C ⟨some t, .unOp .neg xt x, ty, pos, after, gd⟩ env σ (.int (-p)) :=
  Pur.of (fun a m hG hσ hH => ⟨.int .i64 (-p), by
    have e := ev_c (hH x (by simp [Op.operands])) hx
    simp only [execOp, Op.unary, e]
    simp [go_sem, Int.zero_sub, i64_small h], by simp [AV.rel, RV.rel]⟩)
end
theorem ba_cat (l : List UInt8) (s : ByteArray) : (⟨l.toArray⟩ : ByteArray) ++ s = ⟨(l ++ s.data.toList).toArray⟩ := by
  apply ByteArray.ext
  simp
theorem ba_size (l : List UInt8) : (⟨l.toArray⟩ : ByteArray).size = l.length := by simp [ByteArray.size]
theorem str_step {d : Int} {x : Nat} {l : List UInt8} (hd : d = (x % 10 : Nat)) : AV.str ((⟨[u8i (48 + d)].toArray⟩ : ByteArray) ++ ⟨l.toArray⟩) = AV.str ⟨(UInt8.ofNat (48 + x % 10) :: l).toArray⟩ := by
  subst hd
  have e : u8i (48 + ((x % 10 : Nat) : Int)) = UInt8.ofNat (48 + x % 10) := by unfold u8i; congr 1; omega
  rw [e, ba_cat]; rfl
theorem spec_FormatInt (n : Int) (hI : I64 n) : ACv Tryd.prog 59 [.int n] (.str ⟨(Lib.itoa n).toArray⟩) := by
  have hlen := itoa_len n hI.1 hI.2
  refine ac_enter Tryd.func59 rfl _ Tryd.ntmps59 (by simp) fun C hn hm => ?_
  by_cases h0 : n = 0
  · subst h0
    repeat' (first
 | refine RunsL.step tabOk hn rfl ?_
 | refine RunsL.nil ?_
 | refine Runs.toRegion 30 rfl ?_
 | (refine Runs.ctls 30 rfl ?_; first | refine Runs.cond_t rfl ?_ | refine Runs.cond_f rfl ?_ | ((first | refine Runs.cond_yes rfl ?_ ?_ | refine Runs.cond_nno rfl ?_ ?_); · first | omega | rfl | assumption | (simp only [List.length_map]; omega)) | ((first | refine Runs.cond_no rfl ?_ ?_ | refine Runs.cond_nyes rfl ?_ ?_); · first | omega | rfl | assumption | (simp only [List.length_map]; omega)) | refine Runs.cond_dec rfl (fun h => ?_) (fun h => ?_) | refine Runs.ret (ends_ro hm rfl rfl ?_) | exact Runs.ret (ends_cellR hm rfl rfl rfl (Nat.le_of_ble_eq_true rfl) rfl rfl))
 | (refine RunsL.pe hn rfl rfl rfl ?_; first
 | refine ⟨_, pu_add rfl rfl (by omega), ?_⟩
 | refine ⟨_, pu_build rfl rfl rfl rfl rfl rfl, ?_⟩))
    rw [itoa_zero]
  have hd : (digPre n).length ≤ 20 := by
    rcases Int.lt_or_gt_of_ne h0 with h | h
    · rw [itoa_neg n h] at hlen; simp only [List.length_cons] at hlen; omega
    · rw [itoa_pos n h] at hlen; exact hlen
  repeat' (first
 | refine RunsL.step tabOk hn rfl ?_
 | refine RunsL.nil ?_
 | refine Runs.toRegion 30 rfl ?_
 | (refine Runs.ctls 30 rfl ?_; first | refine Runs.cond_t rfl ?_ | refine Runs.cond_f rfl ?_ | ((first | refine Runs.cond_yes rfl ?_ ?_ | refine Runs.cond_nno rfl ?_ ?_); · first | omega | rfl | assumption | (simp only [List.length_map]; omega)) | ((first | refine Runs.cond_no rfl ?_ ?_ | refine Runs.cond_nyes rfl ?_ ?_); · first | omega | rfl | assumption | (simp only [List.length_map]; omega)) | refine Runs.cond_dec rfl (fun h => ?_) (fun h => ?_) | refine Runs.ret (ends_ro hm rfl rfl ?_) | exact Runs.ret (ends_cellR hm rfl rfl rfl (Nat.le_of_ble_eq_true rfl) rfl rfl))
 | (refine RunsL.pe hn rfl rfl rfl ?_; first
 | refine ⟨_, pu_add rfl rfl (by omega), ?_⟩
 | refine ⟨_, pu_build rfl rfl rfl rfl rfl rfl, ?_⟩))
  refine Runs.loopI 30 rfl (fun m E s => ∃ (x : Int) (l : List UInt8), x.natAbs ≤ m ∧ x.natAbs ≤ n.natAbs ∧ I64 x ∧ digPre n = digPre x ++ l ∧ E = [(0, .int n), (3, .str ⟨l.toArray⟩), (4, .int x)] ∧ s = []) n.natAbs [(0, .int n), (3, .str ⟨#[]⟩), (4, .int n)] ⟨rfl, rfl, rfl, trivial⟩ ⟨n, [], Nat.le_refl _, Nat.le_refl _, hI, by simp, rfl, rfl⟩ fun m E s ⟨x, l, hm', hxn, hxb, hl, hE, hs⟩ ih => ?_
  subst hE; subst hs
  have hll : l.length ≤ 20 := by rw [hl, List.length_append] at hd; omega
  by_cases hx : x = 0
  · subst hx
    have hl0 : digPre n = l := by rw [hl]; simp [digPre]
    clear ih
    repeat' (first
 | refine RunsL.step tabOk hn rfl ?_
 | refine RunsL.nil ?_
 | refine Runs.toRegion 30 rfl ?_
 | (refine RunsL.pe hn rfl rfl rfl ?_; first
 | refine ⟨_, pu_cat rfl rfl (by rw [ba_size]; show 1 + l.length ≤ _; omega), ?_⟩)
 | (refine Runs.ctls 30 rfl ?_; first | refine Runs.cond_t rfl ?_ | refine Runs.cond_f rfl ?_ | ((first | refine Runs.cond_yes rfl ?_ ?_ | refine Runs.cond_nno rfl ?_ ?_); · first | omega | rfl | assumption | (simp only [List.length_map]; omega)) | ((first | refine Runs.cond_no rfl ?_ ?_ | refine Runs.cond_nyes rfl ?_ ?_); · first | omega | rfl | assumption | (simp only [List.length_map]; omega)) | refine Runs.cond_dec rfl (fun h => ?_) (fun h => ?_) | refine Runs.ret (ends_ro hm rfl rfl ?_) | exact Runs.ret (ends_cellR hm rfl rfl rfl (Nat.le_of_ble_eq_true rfl) rfl rfl))
 | (refine RunsL.pe hn rfl rfl rfl ?_; first
 | refine ⟨_, pu_add rfl rfl (by omega), ?_⟩
 | refine ⟨_, pu_build rfl rfl rfl rfl rfl rfl, ?_⟩))
    · refine rr_ro ?_
      rw [itoa_neg n h, hl0, show (⟨#[45]⟩ : ByteArray) = ⟨[45].toArray⟩ from rfl, ba_cat]
      rfl
    · refine rr_ro ?_
      rw [itoa_pos n (by omega), hl0]
  · have hst := digPre_step x hx
    have hq := tdiv_abs x
    have hr := tmod_abs x
    have hng : I64 (-(x.tmod 10)) := by omega
    repeat' (first
 | refine RunsL.step tabOk hn rfl ?_
 | refine RunsL.nil ?_
 | refine Runs.toRegion 30 rfl ?_
 | (refine RunsL.pe hn rfl rfl rfl ?_; first
 | refine ⟨_, pu_quo10 rfl rfl hxb, ?_⟩
 | refine ⟨_, pu_rem10 rfl rfl, ?_⟩
 | refine ⟨_, pu_neg rfl hng, ?_⟩
 | refine ⟨_, pu_toU8 rfl, ?_⟩
 | refine ⟨_, pu_string (l := [_]) Tryd.underlying22 Tryd.underlying5 Tryd.underlying9 rfl, ?_⟩
 | refine ⟨_, pu_cat rfl rfl (by rw [ba_size, ba_size]; show 1 + l.length ≤ _; omega), ?_⟩)
 | (refine Runs.ctls 30 rfl ?_; first | refine Runs.cond_t rfl ?_ | refine Runs.cond_f rfl ?_ | ((first | refine Runs.cond_yes rfl ?_ ?_ | refine Runs.cond_nno rfl ?_ ?_); · first | omega | rfl | assumption | (simp only [List.length_map]; omega)) | ((first | refine Runs.cond_no rfl ?_ ?_ | refine Runs.cond_nyes rfl ?_ ?_); · first | omega | rfl | assumption | (simp only [List.length_map]; omega)) | refine Runs.cond_dec rfl (fun h => ?_) (fun h => ?_) | refine Runs.ret (ends_ro hm rfl rfl ?_) | exact Runs.ret (ends_cellR hm rfl rfl rfl (Nat.le_of_ble_eq_true rfl) rfl rfl))
 | (refine RunsL.pe hn rfl rfl rfl ?_; first
 | refine ⟨_, pu_add rfl rfl (by omega), ?_⟩
 | refine ⟨_, pu_build rfl rfl rfl rfl rfl rfl, ?_⟩))
    · refine ih (x.tdiv 10).natAbs _ _ _ (by omega) ⟨x.tdiv 10, UInt8.ofNat (48 + x.natAbs % 10) :: l, Nat.le_refl _, by omega, by omega, ?_, rfl, rfl⟩ ⟨rfl, ?_, rfl, trivial⟩
      · rw [hl, hst]; simp
      · exact str_step (by omega)
    · refine ih (x.tdiv 10).natAbs _ _ _ (by omega) ⟨x.tdiv 10, UInt8.ofNat (48 + x.natAbs % 10) :: l, Nat.le_refl _, by omega, by omega, ?_, rfl, rfl⟩ ⟨rfl, ?_, rfl, trivial⟩
      · rw [hl, hst]; simp
      · exact str_step (by omega)
end Go.Proofs.YtofefjklipglhaaDoor
/- The draw of an integer's rule. -/
namespace Go.Proofs.YtofefjklipglhaaDoor
set_option linter.unusedSimpArgs false
set_option linter.unusedVariables false
set_option maxRecDepth 100000
open Go.RowKit
open AV (Mem Keeps)
def IsInt (d : Des) (x : Int) : Prop := 0 ≤ x ∧ x < d.length ∧ ∃ r, d[x.toNat]? = some r ∧ r.kind = 1
def intIdx (d : Des) : Nat → List Int
  | 0 => []
  | j + 1 => intIdx d j ++ (match d[j]? with | some r => if r.kind = 1 then [(j : Int)] else [] | none => [])
theorem intIdx_yes {d : Des} {j : Nat} {r : Rul} (h : d[j]? = some r) (hk : r.kind = 1) : intIdx d (j + 1) = intIdx d j ++ [(j : Int)] := by simp [intIdx, h, hk]
theorem intIdx_no {d : Des} {j : Nat} {r : Rul} (h : d[j]? = some r) (hk : ¬ r.kind = 1) : intIdx d (j + 1) = intIdx d j := by simp [intIdx, h, hk]
theorem intIdx_len (d : Des) : ∀ j, (intIdx d j).length ≤ j
  | 0 => by simp [intIdx]
  | j + 1 => by
    have := intIdx_len d j
    simp only [intIdx, List.length_append]
    split
    · split <;> simp <;> omega
    · simp; omega
theorem intIdx_mem (d : Des) : ∀ j x, x ∈ intIdx d j → IsInt d x
  | 0, x, h => by simp [intIdx] at h
  | j + 1, x, h => by
    simp only [intIdx, List.mem_append] at h
    rcases h with h | h
    · exact intIdx_mem d j x h
    · split at h
      · rename_i r hr
        split at h
        · simp at h; subst h
          have := (List.getElem?_eq_some_iff.1 hr).1
          exact ⟨by omega, by omega, r, by simpa using hr, by assumption⟩
        · simp at h
      · simp at h
theorem intIdx_pos {d : Des} {r : Rul} (h : d[0]? = some r) (hk : r.kind = 1) : ∀ j, 0 < (intIdx d (j + 1)).length
  | 0 => by rw [intIdx_yes h hk]; simp
  | j + 1 => by
    have := intIdx_pos h hk j
    rw [intIdx, List.length_append]; omega
theorem flat1 {α : Type} (f : α → RV) : ∀ l : List α, (l.map fun z => [f z]).flatten = l.map f
  | [] => rfl
  | x :: l => by simp [flat1 f l]
theorem len1 {α : Type} (f : α → RV) (l : List α) : ∀ x ∈ l.map (fun z => [f z]), x.length = 1 := fun x hx => by
  obtain ⟨z, _, rfl⟩ := List.mem_map.1 hx; rfl
theorem l4Integer_d (b : List UInt8) (hb : b.length ≤ 1048576) (d : Des) (hd : d.length ≤ 24) (r0 : Rul) (h0 : d[0]? = some r0) (hk0 : r0.kind = 1) : Drw Tryd.prog 65 62 b [desR d] (QI (IsInt d)) := by
  have hlm : (d.map rulR).length = d.length := List.length_map ..
  refine drw_enter Tryd.func62 rfl _ Tryd.ntmps62 (by simp) fun C g u i h hn hm hu hi => ?_
  repeat' (first
 | refine RunsL.step tabOk hn rfl ?_
 | refine RunsL.nil ?_
 | refine Runs.toRegion 30 rfl ?_
 | refine op_build0 (tl hn rfl) ?_
 | (refine Runs.ctls 30 rfl ?_; first | ((first | refine Runs.cond_yes rfl ?_ ?_ | refine Runs.cond_nno rfl ?_ ?_); · first | omega | rfl | assumption | (simp only [List.length_map]; omega)) | ((first | refine Runs.cond_no rfl ?_ ?_ | refine Runs.cond_nyes rfl ?_ ?_); · first | omega | rfl | assumption | (simp only [List.length_map]; omega)) | refine Runs.ret (ends_ro hm rfl rfl ?_) | exact Runs.ret (ends_cellR hm rfl rfl rfl (Nat.le_of_ble_eq_true rfl) rfl rfl))
 | refine op_box rfl (tl hn rfl) ?_
 | (refine RunsL.pe hn rfl rfl rfl ?_; first
 | refine ⟨_, pu_add rfl rfl (by omega), ?_⟩
 | refine ⟨_, pu_indexAddr_map rfl rfl (by omega) (by assumption), ?_⟩
 | refine ⟨_, pu_build rfl rfl rfl rfl rfl rfl, ?_⟩))
  refine Runs.loopN 30 rfl (fun j => [(0, .pin 0 0 g), (3, .obj 1 0), (5, .own 2), (6, .int (j : Int))]) (fun j => [curOb 65 u i h, ⟨26, 0, [.ro (rulsR d)]⟩, ⟨3, 1, ((intIdx d j).map RV.int).map .ro⟩]) (fun _ => True) d.length 0 (Nat.zero_le _) trivial ⟨rfl, rfl, rfl, rfl, trivial⟩ rfl fun j hj _ next => ?_
  have hil := intIdx_len d j
  have hxl : ((intIdx d j).map RV.int).length = (intIdx d j).length := List.length_map ..
  by_cases hlt : j < d.length
  · obtain ⟨r, hr⟩ : ∃ r, d[(j : Int).toNat]? = some r := ⟨_, List.getElem?_eq_getElem (by simpa using hlt)⟩
    have hr' : d[j]? = some r := hr
    by_cases hk : r.kind = 1
    · repeat' (first
 | (refine RunsL.pe hn rfl rfl rfl ?_; first
 | refine ⟨_, pu_len_seqN d.length rfl hlm, ?_⟩)
 | refine RunsL.step tabOk hn rfl ?_
 | refine RunsL.nil ?_
 | refine Runs.toRegion 30 rfl ?_
 | refine op_append (n := (intIdx d j).length) rfl rfl rfl rfl rfl rfl (by rw [hxl, Nat.mul_one]) (FreeI.at_ ⟨by simp [curOb, AV.onlys, AV.only], by simp [AV.onlys, AV.only], onlys_ro _ _, trivial⟩) (by simp; omega) (by simp; omega) (tl hn rfl) ?_
 | (refine RunsL.pe hn rfl rfl rfl ?_; first
 | refine ⟨_, pu_build rfl rfl rfl rfl rfl rfl, ?_⟩)
 | (refine Runs.ctls 30 rfl ?_; first | ((first | refine Runs.cond_yes rfl ?_ ?_ | refine Runs.cond_nno rfl ?_ ?_); · first | omega | rfl | assumption | (simp only [List.length_map]; omega)) | ((first | refine Runs.cond_no rfl ?_ ?_ | refine Runs.cond_nyes rfl ?_ ?_); · first | omega | rfl | assumption | (simp only [List.length_map]; omega)) | refine Runs.ret (ends_ro hm rfl rfl ?_) | exact Runs.ret (ends_cellR hm rfl rfl rfl (Nat.le_of_ble_eq_true rfl) rfl rfl))
 | refine op_box rfl (tl hn rfl) ?_
 | (refine RunsL.pe hn rfl rfl rfl ?_; first
 | refine ⟨_, pu_add rfl rfl (by omega), ?_⟩
 | refine ⟨_, pu_indexAddr_map rfl rfl (by omega) (by assumption), ?_⟩
 | refine ⟨_, pu_build rfl rfl rfl rfl rfl rfl, ?_⟩))
      exact next _ _ ⟨rfl, rfl, rfl, rfl, trivial⟩ hlt trivial (by rw [intIdx_yes hr' hk]; simp)
    · repeat' (first
 | (refine RunsL.pe hn rfl rfl rfl ?_; first
 | refine ⟨_, pu_len_seqN d.length rfl hlm, ?_⟩)
 | refine RunsL.step tabOk hn rfl ?_
 | refine RunsL.nil ?_
 | refine Runs.toRegion 30 rfl ?_
 | (refine Runs.ctls 30 rfl ?_; first | ((first | refine Runs.cond_yes rfl ?_ ?_ | refine Runs.cond_nno rfl ?_ ?_); · first | omega | rfl | assumption | (simp only [List.length_map]; omega)) | ((first | refine Runs.cond_no rfl ?_ ?_ | refine Runs.cond_nyes rfl ?_ ?_); · first | omega | rfl | assumption | (simp only [List.length_map]; omega)) | refine Runs.ret (ends_ro hm rfl rfl ?_) | exact Runs.ret (ends_cellR hm rfl rfl rfl (Nat.le_of_ble_eq_true rfl) rfl rfl))
 | refine op_box rfl (tl hn rfl) ?_
 | (refine RunsL.pe hn rfl rfl rfl ?_; first
 | refine ⟨_, pu_add rfl rfl (by omega), ?_⟩
 | refine ⟨_, pu_indexAddr_map rfl rfl (by omega) (by assumption), ?_⟩
 | refine ⟨_, pu_build rfl rfl rfl rfl rfl rfl, ?_⟩))
      exact next _ _ ⟨rfl, rfl, rfl, rfl, trivial⟩ hlt trivial (by rw [intIdx_no hr' hk])
  · have ej : j = d.length := by omega
    subst ej
    have hpos : 0 < (intIdx d d.length).length := by
      obtain ⟨m, hm⟩ : ∃ m, d.length = m + 1 := ⟨d.length - 1, by have := (List.getElem?_eq_some_iff.1 h0).1; omega⟩
      rw [hm]; exact intIdx_pos h0 hk0 m
    repeat' (first
 | (refine op_drawI (l1Int_d b hb (intIdx d d.length) hpos (by omega)) rfl hu hi rfl (.cons (LendsP.own (i := 2) (o := ⟨3, 1, _⟩) (els := (intIdx d d.length).map fun z => [RV.int z]) (by decide) rfl (by rw [flat1]) (len1 _ _)) .nil) rfl (by first | rfl | repeat' (first | rfl | exact clns_ro _ | refine clnO_cons ?_ ?_)) (tl hn rfl) ?_; intro i h x hi hx)
 | (refine RunsL.pe hn rfl rfl rfl ?_; first
 | refine ⟨_, pu_len_seqN d.length rfl hlm, ?_⟩)
 | refine RunsL.step tabOk hn rfl ?_
 | refine RunsL.nil ?_
 | refine Runs.toRegion 30 rfl ?_
 | (refine Runs.ctls 30 rfl ?_; first | ((first | refine Runs.cond_yes rfl ?_ ?_ | refine Runs.cond_nno rfl ?_ ?_); · first | omega | rfl | assumption | (simp only [List.length_map]; omega)) | ((first | refine Runs.cond_no rfl ?_ ?_ | refine Runs.cond_nyes rfl ?_ ?_); · first | omega | rfl | assumption | (simp only [List.length_map]; omega)) | refine Runs.ret (ends_ro hm rfl rfl ?_) | exact Runs.ret (ends_cellR hm rfl rfl rfl (Nat.le_of_ble_eq_true rfl) rfl rfl))
 | refine op_box rfl (tl hn rfl) ?_
 | (refine RunsL.pe hn rfl rfl rfl ?_; first
 | refine ⟨_, pu_add rfl rfl (by omega), ?_⟩
 | refine ⟨_, pu_indexAddr_map rfl rfl (by omega) (by assumption), ?_⟩
 | refine ⟨_, pu_build rfl rfl rfl rfl rfl rfl, ?_⟩))
    exact Runs.ctls 30 rfl (Runs.ret (endsD_ro hm rfl rfl rfl hi rfl ⟨_, rfl, intIdx_mem d _ _ hx⟩))
end Go.Proofs.YtofefjklipglhaaDoor
/- The draw of a rule: what it may be. -/
namespace Go.Proofs.YtofefjklipglhaaDoor
set_option linter.unusedSimpArgs false
set_option linter.unusedVariables false
set_option maxRecDepth 100000
open Go.RowKit
open AV (Mem Keeps)
def baseA : List ByteArray := [⟨#[97]⟩, ⟨#[105, 116, 101, 109]⟩, ⟨#[98]⟩, ⟨#[104, 101, 97, 100]⟩, ⟨#[120]⟩]
def baseP : List ByteArray := [⟨#[112]⟩, ⟨#[113]⟩, ⟨#[114]⟩]
def itoaS (n : Int) : ByteArray := ⟨(Lib.itoa n).toArray⟩
theorem baseA_size : ∀ x ∈ baseA, x.size ≤ 4 := by
  intro x hx
  simp only [baseA, List.mem_cons, List.not_mem_nil, or_false] at hx
  rcases hx with rfl | rfl | rfl | rfl | rfl <;> decide
theorem baseP_size : ∀ x ∈ baseP, x.size ≤ 4 := by
  intro x hx
  simp only [baseP, List.mem_cons, List.not_mem_nil, or_false] at hx
  rcases hx with rfl | rfl | rfl <;> decide
def InD (d : Des) (z : Int) : Prop := (d.length = 0 → z = 0) ∧ (0 < d.length → 0 ≤ z ∧ z < d.length)
structure RuleD (d : Des) (kind : Int) (r : Rul) : Prop where
  hkind : r.kind = kind
  hname : ∃ a ∈ baseA, r.name = a ++ itoaS d.length
  hsize : (kind = 1 → 1 ≤ r.size ∧ r.size ≤ 3) ∧ (kind = 3 → 1 ≤ r.size ∧ r.size ≤ 4) ∧ (kind ≠ 1 → kind ≠ 3 → r.size = 0)
  hlittle : r.little = true → kind = 1 ∧ 1 < r.size
  hbytes : (kind = 2 → 1 ≤ r.bytes.length ∧ r.bytes.length ≤ 3) ∧ (kind = 10 → ∃ x ∈ ([0, 10, 59, 255] : List Int), r.bytes = [u8i x]) ∧ (kind ≠ 2 → kind ≠ 10 → r.bytes = [])
  hnames : (kind = 6 → 1 ≤ r.names.length ∧ r.names.length ≤ 3 ∧ ∀ (j : Nat) x, r.names[j]? = some x → ∃ a ∈ baseP, x = a ++ itoaS ((r.names.length : Int) - j)) ∧ (kind ≠ 6 → r.names = [])
  htags : (kind = 7 → 1 ≤ r.tags.length ∧ r.tags.length ≤ 3 ∧ ∀ (j : Nat) z, r.tags[j]? = some z → 4 * (j : Int) ≤ z ∧ z ≤ 4 * j + 3) ∧ (kind ≠ 7 → r.tags = [])
  hkids : (kind = 4 → ∃ x, IsInt d x ∧ r.kids = [x]) ∧ (kind = 5 → ∃ x y, IsInt d x ∧ InD d y ∧ r.kids = [x, y]) ∧ (kind = 6 → r.kids.length = r.names.length ∧ ∀ z ∈ r.kids, InD d z) ∧
    (kind = 7 → ∃ x l, IsInt d x ∧ l.length = r.tags.length ∧ (∀ z ∈ l, InD d z) ∧ r.kids = x :: l) ∧ (kind = 8 ∨ kind = 9 → ∃ y, InD d y ∧ r.kids = [y]) ∧ (kind = 1 ∨ kind = 2 ∨ kind = 3 ∨ kind = 10 → r.kids = [])
section
variable {d : Des} {a : ByteArray}
theorem ruleD1 {s : Int} {lt : Bool} (ha : a ∈ baseA) (h : 1 ≤ s ∧ s ≤ 3) (hl : lt = true → 1 < s) : RuleD d 1 ⟨a ++ itoaS d.length, 1, s, lt, [], [], [], []⟩ :=
  ⟨rfl, ⟨a, ha, rfl⟩, by simp; exact h, fun e => ⟨rfl, hl e⟩, by simp, by simp, by simp, by simp⟩
theorem ruleD2 {x : List UInt8} (ha : a ∈ baseA) (h : 1 ≤ x.length ∧ x.length ≤ 3) : RuleD d 2 ⟨a ++ itoaS d.length, 2, 0, false, x, [], [], []⟩ :=
  ⟨rfl, ⟨a, ha, rfl⟩, by simp, by simp, by simp; exact h, by simp, by simp, by simp⟩
theorem ruleD3 {s : Int} (ha : a ∈ baseA) (h : 1 ≤ s ∧ s ≤ 4) : RuleD d 3 ⟨a ++ itoaS d.length, 3, s, false, [], [], [], []⟩ :=
  ⟨rfl, ⟨a, ha, rfl⟩, by simp; exact h, by simp, by simp, by simp, by simp, by simp⟩
theorem ruleD4 {x : Int} (ha : a ∈ baseA) (h : IsInt d x) : RuleD d 4 ⟨a ++ itoaS d.length, 4, 0, false, [], [], [], [x]⟩ :=
  ⟨rfl, ⟨a, ha, rfl⟩, by simp, by simp, by simp, by simp, by simp, by simp [h]⟩
theorem ruleD5 {x y : Int} (ha : a ∈ baseA) (h : IsInt d x) (hy : InD d y) : RuleD d 5 ⟨a ++ itoaS d.length, 5, 0, false, [], [], [], [x, y]⟩ :=
  ⟨rfl, ⟨a, ha, rfl⟩, by simp, by simp, by simp, by simp, by simp, by simp [h, hy]⟩
theorem ruleD6 {l : List ByteArray} {k : List Int} (ha : a ∈ baseA) (h : 1 ≤ l.length ∧ l.length ≤ 3) (hl : ∀ (j : Nat) x, l[j]? = some x → ∃ a ∈ baseP, x = a ++ itoaS ((l.length : Int) - j)) (hk : k.length = l.length) (hk' : ∀ z ∈ k, InD d z) : RuleD d 6 ⟨a ++ itoaS d.length, 6, 0, false, [], l, [], k⟩ :=
  ⟨rfl, ⟨a, ha, rfl⟩, by simp, by simp, by simp, ⟨fun _ => ⟨h.1, h.2, hl⟩, by simp⟩, by simp, by simp; exact ⟨hk, hk'⟩⟩
theorem ruleD7 {t k : List Int} {x : Int} (ha : a ∈ baseA) (h : 1 ≤ t.length ∧ t.length ≤ 3) (ht : ∀ (j : Nat) z, t[j]? = some z → 4 * (j : Int) ≤ z ∧ z ≤ 4 * j + 3) (hx : IsInt d x) (hk : k.length = t.length) (hk' : ∀ z ∈ k, InD d z) : RuleD d 7 ⟨a ++ itoaS d.length, 7, 0, false, [], [], t, x :: k⟩ :=
  ⟨rfl, ⟨a, ha, rfl⟩, by simp, by simp, by simp, by simp, ⟨fun _ => ⟨h.1, h.2, ht⟩, by simp⟩, ⟨by simp, by simp, by simp, fun _ => ⟨x, k, hx, hk, hk', rfl⟩, by simp, by simp⟩⟩
theorem ruleD8 {y : Int} (ha : a ∈ baseA) (hy : InD d y) : RuleD d 8 ⟨a ++ itoaS d.length, 8, 0, false, [], [], [], [y]⟩ :=
  ⟨rfl, ⟨a, ha, rfl⟩, by simp, by simp, by simp, by simp, by simp, by simp [hy]⟩
theorem ruleD9 {y : Int} (ha : a ∈ baseA) (hy : InD d y) : RuleD d 9 ⟨a ++ itoaS d.length, 9, 0, false, [], [], [], [y]⟩ :=
  ⟨rfl, ⟨a, ha, rfl⟩, by simp, by simp, by simp, by simp, by simp, by simp [hy]⟩
theorem ruleD10 {y : Int} (ha : a ∈ baseA) (hy : y ∈ ([0, 10, 59, 255] : List Int)) : RuleD d 10 ⟨a ++ itoaS d.length, 10, 0, false, [u8i y], [], [], []⟩ :=
  ⟨rfl, ⟨a, ha, rfl⟩, by simp, by simp, ⟨by simp, fun _ => ⟨y, hy, rfl⟩, by simp⟩, by simp, by simp, by simp⟩
end
def rulRR (r : Rul) : RR := .agg [.ro (.str r.name), .ro (.int r.kind), .ro (.int r.size), .ro (.bool r.little), .row 5 1 (r.bytes.map RV.u8), .row 9 1 (r.names.map RV.str), .row 3 1 (r.tags.map RV.int), .row 3 1 (r.kids.map RV.int)]
theorem rulRR_ok (r : Rul) : flatR (rulRR r) = true ∧ Seals (rulRR r) (.agg (rulR r)) := by
  have fl : ∀ {α : Type} (f : α → RV) (l : List α), (∀ x, flat (f x) = true) → (l.map f).all flat = true := fun f l h => by simp [h]
  refine ⟨?_, ?_⟩
  · simp only [rulRR, flatR, flatRs, flat, fl RV.u8 r.bytes (fun _ => rfl), fl RV.str r.names (fun _ => rfl), fl RV.int r.tags (fun _ => rfl), fl RV.int r.kids (fun _ => rfl), Bool.and_self]
  · have sl : ∀ {α : Type} (e : TypeId) (f : α → RV) (l : List α), Seals (.row e 1 (l.map f)) (.seq 1 (l.map fun z => [f z])) := fun e f l => by
      simp only [Seals]; exact ⟨_, rfl, flat1 f l, len1 f l⟩
    simp only [rulRR, rulR]
    unfold Seals
    refine ⟨_, rfl, ?_⟩
    unfold SealsL; refine ⟨_, _, rfl, by simp [Seals], ?_⟩
    unfold SealsL; refine ⟨_, _, rfl, by simp [Seals], ?_⟩
    unfold SealsL; refine ⟨_, _, rfl, by simp [Seals], ?_⟩
    unfold SealsL; refine ⟨_, _, rfl, by simp [Seals], ?_⟩
    unfold SealsL; refine ⟨_, _, rfl, sl _ RV.u8 _, ?_⟩
    unfold SealsL; refine ⟨_, _, rfl, sl _ RV.str _, ?_⟩
    unfold SealsL; refine ⟨_, _, rfl, sl _ RV.int _, ?_⟩
    unfold SealsL; refine ⟨_, _, rfl, sl _ RV.int _, ?_⟩
    unfold SealsL; rfl
def rC (r : Rul) (a b c d : Nat) : List AV := [.str r.name, .int r.kind, .int r.size, .bool r.little, .own a, .own b, .own c, .own d]
def rowU (l : List UInt8) : Ob := ⟨5, 1, (l.map RV.u8).map .ro⟩
def rowS (l : List ByteArray) : Ob := ⟨9, 1, (l.map RV.str).map .ro⟩
def rowZ (l : List Int) : Ob := ⟨3, 1, (l.map RV.int).map .ro⟩
theorem harv_rul {σ : List Ob} {r : Rul} {a b c d : Nat} (h1 : σ[a]? = some (rowU r.bytes)) (h2 : σ[b]? = some (rowS r.names)) (h3 : σ[c]? = some (rowZ r.tags)) (h4 : σ[d]? = some (rowZ r.kids)) : Harv σ (rulRR r) (.agg (rC r a b c d)) [a, b, c, d] := by
  simp only [rulRR, rC, Harv, Harvs, rowU, rowS, rowZ] at *
  exact ⟨_, rfl, _, _, [], _, rfl, rfl, ⟨rfl, rfl⟩, _, _, [], _, rfl, rfl, ⟨rfl, rfl⟩, _, _, [], _, rfl, rfl, ⟨rfl, rfl⟩, _, _, [], _, rfl, rfl, ⟨rfl, rfl⟩, _, _, [a], _, rfl, rfl, ⟨a, rfl, h1, rfl⟩, _, _, [b], _, rfl, rfl, ⟨b, rfl, h2, rfl⟩, _, _, [c], _, rfl, rfl, ⟨c, rfl, h3, rfl⟩, _, _, [d], [], rfl, rfl, ⟨d, rfl, h4, rfl⟩, rfl, rfl⟩
def QRul (p : Rul → Prop) (rr : RR) : Prop := ∃ r, rr = rulRR r ∧ p r
theorem qrul_ok {p : Rul → Prop} : ∀ rr, QRul p rr → flatR rr = true ∧ ∃ r, Seals rr r ∧ ∃ x, r = .agg (rulR x) ∧ p x := by
  rintro _ ⟨x, rfl, hx⟩
  exact ⟨(rulRR_ok x).1, _, (rulRR_ok x).2, x, rfl, hx⟩
set_option maxRecDepth 100000 in
instance tb_rule : TB Tryd.prog 57 [(0, 1), (1, 1), (2, 1), (3, 1), (4, 1), (5, 1), (6, 1), (7, 1)] [.string ⟨#[]⟩, .int .i64 0, .int .i64 0, .bool false, .slice none 0 0, .slice none 0 0, .slice none 0 0, .slice none 0 0] := ⟨_, _, _, rfl, rfl, rfl, rfl, by kernel_rfl, by decide⟩
theorem ends_rul {C : Ctx} {fn : Func} {ct : TypeId} {b : List UInt8} {g : Nat} {u : Value} {p : Rul → Prop} {env : Env} {σ : List Ob} {i h : Int} {more : List Ob} {t j : Nat} {r : Rul} {tt : TypeId} {x y z w : Nat} (hm : ∀ x, C.mu x → x = g) (hr : fn.results = #[.cell t 57]) (hσ : σ = curOb ct u i h :: more) (ht : look env 0 = .pin 0 0 g) (hi : CurOk b i) (h1 : look env t = .obj j 0) (h2 : σ[j]? = some ⟨tt, 0, rC r x y z w⟩)
    (k1 : σ[x]? = some (rowU r.bytes)) (k2 : σ[y]? = some (rowS r.names)) (k3 : σ[z]? = some (rowZ r.tags)) (k4 : σ[w]? = some (rowZ r.kids)) (hn : [x, y, z, w].Nodup) (h0 : 0 ∉ [x, y, z, w]) (hQ : p r) : ∀ a w, Sim C ⟨env, σ⟩ a w → EndsD Tryd.prog C fn ct b g u (QRul p) a w :=
  endsD1 hm hr hσ ht hi (.agg (rC r x y z w)) (by
    simp only [ResV]
    exact ⟨j, 0, _, h1, h2, .inr ⟨8, by infer_instance, Nat.le_refl _, rfl⟩⟩) (rulRR r) [x, y, z, w] (harv_rul k1 k2 k3 k4) hn h0 ⟨r, rfl, hQ⟩
end Go.Proofs.YtofefjklipglhaaDoor
/- The draw of a rule: l4Make. -/
namespace Go.Proofs.YtofefjklipglhaaDoor
set_option linter.unusedSimpArgs false
set_option linter.unusedVariables false
set_option maxRecDepth 100000
open Go.RowKit
open AV (Mem Keeps)
set_option maxHeartbeats 8000000 in
theorem l4Make1_d (b : List UInt8) (hb : b.length ≤ 1048576) (d : Des) (hd : d.length ≤ 24) : Drw Tryd.prog 65 43 b [desR d, .int 1] (QRul (RuleD d 1)) := by
  have hlm : (d.map rulR).length = d.length := List.length_map ..
  have hF := spec_FormatInt (d.length : Int) (by constructor <;> omega)
  have hlen := itoa_len (d.length : Int) (by omega) (by omega)
  have hfs : (⟨(Lib.itoa (d.length : Int)).toArray⟩ : ByteArray).size ≤ 20 := by rw [ba_size]; exact hlen
  refine drw_enter Tryd.func43 rfl _ Tryd.ntmps43 (by simp) fun C g u i h hn hm hu hi => ?_
  repeat' (first
 | (refine op_drawS (l1Str_d b hb baseA (by decide) (by decide)) rfl hu hi rfl (LendsPL.ros [strsR baseA]) rfl (by first | rfl | repeat' (first | rfl | exact clns_ro _ | refine clnO_cons ?_ ?_)) (tl hn rfl) ?_; intro i h a hi ha; have hsz := baseA_size a ha)
 | (refine op_drawI (l1Below_d b hb _ (by omega)) rfl hu hi rfl (LendsPL.ros [.int _]) rfl (by first | rfl | repeat' (first | rfl | exact clns_ro _ | refine clnO_cons ?_ ?_)) (tl hn rfl) ?_; intro i h x hi hx; obtain ⟨hxa, hxb⟩ := hx.2 (by omega))
 | refine RunsL.guard_t rfl rfl rfl ?_
 | (refine op_drawB (l1Once_d b hb 2 (by decide)) rfl hu hi rfl (LendsPL.ros [.int 2]) rfl (by first | rfl | repeat' (first | rfl | exact clns_ro _ | refine clnO_cons ?_ ?_)) (tl hn rfl) ?_; intro i h lt hi)
 | ((first | refine RunsL.pe hn rfl rfl rfl ?_ | refine RunsD.pe rfl rfl ?_); first
 | refine ⟨_, pu_len_seqN d.length rfl hlm, ?_⟩)
 | refine RunsL.step tabOk hn rfl ?_
 | refine RunsL.nil ?_
 | refine Runs.toRegion 30 rfl ?_
 | ((first | refine RunsL.pe hn rfl rfl rfl ?_ | refine RunsD.pe rfl rfl ?_); first
 | refine ⟨_, pu_callR hF rfl, ?_⟩
 | refine ⟨_, pu_cat rfl rfl (by omega), ?_⟩
 | refine ⟨_, pu_buildS rfl, ?_⟩)
 | (refine Runs.ctls 30 rfl ?_; first | refine Runs.cond_t rfl ?_ | ((first | refine Runs.cond_yes rfl ?_ ?_ | refine Runs.cond_nno rfl ?_ ?_); · first | omega | rfl | assumption | (simp only [List.length_map]; omega)) | ((first | refine Runs.cond_no rfl ?_ ?_ | refine Runs.cond_nyes rfl ?_ ?_); · first | omega | rfl | assumption | (simp only [List.length_map]; omega)) | refine Runs.ret (ends_ro hm rfl rfl ?_) | exact Runs.ret (ends_cellR hm rfl rfl rfl (Nat.le_of_ble_eq_true rfl) rfl rfl))
 | refine op_box rfl (tl hn rfl) ?_
 | refine op_storeF rfl rfl rfl rfl (Nat.le_of_ble_eq_true rfl) ?_
 | refine op_alloc (tl hn rfl) ?_
 | refine op_storeN rfl rfl rfl rfl (Nat.le_of_ble_eq_true rfl) ?_
 | ((first | refine RunsL.pe hn rfl rfl rfl ?_ | refine RunsD.pe rfl rfl ?_); first
 | refine ⟨_, pu_add rfl rfl (by omega), ?_⟩
 | refine ⟨_, pu_indexAddr_map rfl rfl (by omega) (by assumption), ?_⟩
 | refine ⟨_, pu_sub rfl rfl (by omega), ?_⟩
 | refine ⟨_, pu_pick_b rfl rfl rfl, ?_⟩
 | refine ⟨_, pu_mul rfl rfl (by omega), ?_⟩
 | refine ⟨_, pu_build rfl rfl rfl rfl rfl rfl, ?_⟩)
 | ((first | refine RunsL.guard_dec rfl rfl rfl ?_ ?_ | refine RunsL.guard_ndec rfl rfl rfl ?_ ?_ | refine RunsL.guard_nb rfl rfl rfl ?_ ?_ | refine RunsL.guard_b rfl rfl rfl ?_ ?_ | refine RunsD.guard_dec rfl rfl rfl ?_ ?_ | refine RunsD.guard_ndec rfl rfl rfl ?_ ?_ | refine RunsD.guard_nb rfl rfl rfl ?_ ?_ | refine RunsD.guard_b rfl rfl rfl ?_ ?_) <;> intro h <;> try (exfalso; first | omega | contradiction | (simp only [List.length_map] at h; omega))))
  all_goals (
    refine Runs.nilCell (e := 5) (sz := 1) 2 4 (by decide) rfl rfl ?_
    refine Runs.nilCell (e := 9) (sz := 1) 2 5 (by decide) rfl rfl ?_
    refine Runs.nilCell (e := 3) (sz := 1) 2 6 (by decide) rfl rfl ?_
    refine Runs.nilCell (e := 3) (sz := 1) 2 7 (by decide) rfl rfl ?_)
  all_goals first
    | exact Runs.ctls 30 rfl (Runs.ret (ends_rul (r := ⟨a ++ itoaS d.length, 1, 1 + x, lt, [], [], [], []⟩) (x := 4) (y := 5) (z := 6) (w := 7) hm rfl rfl rfl hi rfl rfl rfl rfl rfl rfl (by decide) (by decide) (ruleD1 ha (by omega) (fun _ => by omega))))
    | exact Runs.ctls 30 rfl (Runs.ret (ends_rul (r := ⟨a ++ itoaS d.length, 1, 1 + x, false, [], [], [], []⟩) (x := 4) (y := 5) (z := 6) (w := 7) hm rfl rfl rfl hi rfl rfl rfl rfl rfl rfl (by decide) (by decide) (ruleD1 ha (by omega) (by simp))))
set_option maxHeartbeats 8000000 in
theorem l4Make2_d (b : List UInt8) (hb : b.length ≤ 1048576) (d : Des) (hd : d.length ≤ 24) : Drw Tryd.prog 65 43 b [desR d, .int 2] (QRul (RuleD d 2)) := by
  have hlm : (d.map rulR).length = d.length := List.length_map ..
  have hF := spec_FormatInt (d.length : Int) (by constructor <;> omega)
  have hlen := itoa_len (d.length : Int) (by omega) (by omega)
  have hfs : (⟨(Lib.itoa (d.length : Int)).toArray⟩ : ByteArray).size ≤ 20 := by rw [ba_size]; exact hlen
  refine drw_enter Tryd.func43 rfl _ Tryd.ntmps43 (by simp) fun C g u i h hn hm hu hi => ?_
  repeat' (first
 | (refine op_drawS (l1Str_d b hb baseA (by decide) (by decide)) rfl hu hi rfl (LendsPL.ros [strsR baseA]) rfl (by first | rfl | repeat' (first | rfl | exact clns_ro _ | refine clnO_cons ?_ ?_)) (tl hn rfl) ?_; intro i h a hi ha; have hsz := baseA_size a ha)
 | (refine op_drawI (l1Below_d b hb _ (by omega)) rfl hu hi rfl (LendsPL.ros [.int _]) rfl (by first | rfl | repeat' (first | rfl | exact clns_ro _ | refine clnO_cons ?_ ?_)) (tl hn rfl) ?_; intro i h x hi hx; obtain ⟨hxa, hxb⟩ := hx.2 (by omega); obtain ⟨n3, rfl⟩ : ∃ n3 : Nat, x = n3 := ⟨x.toNat, by omega⟩)
 | (refine op_drawO (l1Bytes_d b hb (1 + n3) (by omega)) rfl hu hi rfl rfl rfl (by first | rfl | repeat' (first | rfl | exact clns_ro _ | refine clnO_cons ?_ ?_)) (tl hn rfl) ?_; rintro i h _ hi ⟨z, rfl, hz⟩)
 | ((first | refine RunsL.pe hn rfl rfl rfl ?_ | refine RunsD.pe rfl rfl ?_); first
 | refine ⟨_, pu_len_seqN d.length rfl hlm, ?_⟩)
 | refine RunsL.step tabOk hn rfl ?_
 | refine RunsL.nil ?_
 | refine Runs.toRegion 30 rfl ?_
 | ((first | refine RunsL.pe hn rfl rfl rfl ?_ | refine RunsD.pe rfl rfl ?_); first
 | refine ⟨_, pu_callR hF rfl, ?_⟩
 | refine ⟨_, pu_cat rfl rfl (by omega), ?_⟩
 | refine ⟨_, pu_buildS rfl, ?_⟩)
 | (refine Runs.ctls 30 rfl ?_; first | refine Runs.cond_t rfl ?_ | refine Runs.cond_f rfl ?_ | ((first | refine Runs.cond_yes rfl ?_ ?_ | refine Runs.cond_nno rfl ?_ ?_); · first | omega | rfl | assumption | (simp only [List.length_map]; omega)) | ((first | refine Runs.cond_no rfl ?_ ?_ | refine Runs.cond_nyes rfl ?_ ?_); · first | omega | rfl | assumption | (simp only [List.length_map]; omega)) | refine Runs.ret (ends_ro hm rfl rfl ?_) | exact Runs.ret (ends_cellR hm rfl rfl rfl (Nat.le_of_ble_eq_true rfl) rfl rfl))
 | refine op_box rfl (tl hn rfl) ?_
 | refine op_storeF rfl rfl rfl rfl (Nat.le_of_ble_eq_true rfl) ?_
 | refine op_alloc (tl hn rfl) ?_
 | refine op_storeN rfl rfl rfl rfl (Nat.le_of_ble_eq_true rfl) ?_
 | ((first | refine RunsL.pe hn rfl rfl rfl ?_ | refine RunsD.pe rfl rfl ?_); first
 | refine ⟨_, pu_add rfl rfl (by omega), ?_⟩
 | refine ⟨_, pu_indexAddr_map rfl rfl (by omega) (by assumption), ?_⟩
 | refine ⟨_, pu_sub rfl rfl (by omega), ?_⟩
 | refine ⟨_, pu_pick_b rfl rfl rfl, ?_⟩
 | refine ⟨_, pu_mul rfl rfl (by omega), ?_⟩
 | refine ⟨_, pu_build rfl rfl rfl rfl rfl rfl, ?_⟩)
 | ((first | refine RunsL.guard_dec rfl rfl rfl ?_ ?_ | refine RunsL.guard_ndec rfl rfl rfl ?_ ?_ | refine RunsL.guard_nb rfl rfl rfl ?_ ?_ | refine RunsL.guard_b rfl rfl rfl ?_ ?_ | refine RunsD.guard_dec rfl rfl rfl ?_ ?_ | refine RunsD.guard_ndec rfl rfl rfl ?_ ?_ | refine RunsD.guard_nb rfl rfl rfl ?_ ?_ | refine RunsD.guard_b rfl rfl rfl ?_ ?_) <;> intro h <;> try (exfalso; first | omega | contradiction | (simp only [List.length_map] at h; omega))))
  all_goals (
    refine Runs.nilCell (e := 9) (sz := 1) 2 5 (by decide) rfl rfl ?_
    refine Runs.nilCell (e := 3) (sz := 1) 2 6 (by decide) rfl rfl ?_
    refine Runs.nilCell (e := 3) (sz := 1) 2 7 (by decide) rfl rfl ?_)
  all_goals first
    | exact Runs.ctls 30 rfl (Runs.ret (ends_rul (r := ⟨a ++ itoaS d.length, 2, 0, false, z, [], [], []⟩) (x := 4) (y := 5) (z := 6) (w := 7) hm rfl rfl rfl hi rfl rfl rfl rfl rfl rfl (by decide) (by decide) (ruleD2 ha (by omega))))
set_option maxHeartbeats 8000000 in
theorem l4Make3_d (b : List UInt8) (hb : b.length ≤ 1048576) (d : Des) (hd : d.length ≤ 24) : Drw Tryd.prog 65 43 b [desR d, .int 3] (QRul (RuleD d 3)) := by
  have hlm : (d.map rulR).length = d.length := List.length_map ..
  have hF := spec_FormatInt (d.length : Int) (by constructor <;> omega)
  have hlen := itoa_len (d.length : Int) (by omega) (by omega)
  have hfs : (⟨(Lib.itoa (d.length : Int)).toArray⟩ : ByteArray).size ≤ 20 := by rw [ba_size]; exact hlen
  refine drw_enter Tryd.func43 rfl _ Tryd.ntmps43 (by simp) fun C g u i h hn hm hu hi => ?_
  repeat' (first
 | (refine op_drawS (l1Str_d b hb baseA (by decide) (by decide)) rfl hu hi rfl (LendsPL.ros [strsR baseA]) rfl (by first | rfl | repeat' (first | rfl | exact clns_ro _ | refine clnO_cons ?_ ?_)) (tl hn rfl) ?_; intro i h a hi ha; have hsz := baseA_size a ha)
 | (refine op_drawI (l1Below_d b hb _ (by omega)) rfl hu hi rfl (LendsPL.ros [.int _]) rfl (by first | rfl | repeat' (first | rfl | exact clns_ro _ | refine clnO_cons ?_ ?_)) (tl hn rfl) ?_; intro i h x hi hx; obtain ⟨hxa, hxb⟩ := hx.2 (by omega))
 | ((first | refine RunsL.pe hn rfl rfl rfl ?_ | refine RunsD.pe rfl rfl ?_); first
 | refine ⟨_, pu_len_seqN d.length rfl hlm, ?_⟩)
 | refine RunsL.step tabOk hn rfl ?_
 | refine RunsL.nil ?_
 | refine Runs.toRegion 30 rfl ?_
 | ((first | refine RunsL.pe hn rfl rfl rfl ?_ | refine RunsD.pe rfl rfl ?_); first
 | refine ⟨_, pu_callR hF rfl, ?_⟩
 | refine ⟨_, pu_cat rfl rfl (by omega), ?_⟩
 | refine ⟨_, pu_buildS rfl, ?_⟩)
 | (refine Runs.ctls 30 rfl ?_; first | refine Runs.cond_t rfl ?_ | refine Runs.cond_f rfl ?_ | ((first | refine Runs.cond_yes rfl ?_ ?_ | refine Runs.cond_nno rfl ?_ ?_); · first | omega | rfl | assumption | (simp only [List.length_map]; omega)) | ((first | refine Runs.cond_no rfl ?_ ?_ | refine Runs.cond_nyes rfl ?_ ?_); · first | omega | rfl | assumption | (simp only [List.length_map]; omega)) | refine Runs.ret (ends_ro hm rfl rfl ?_) | exact Runs.ret (ends_cellR hm rfl rfl rfl (Nat.le_of_ble_eq_true rfl) rfl rfl))
 | refine op_box rfl (tl hn rfl) ?_
 | refine op_storeF rfl rfl rfl rfl (Nat.le_of_ble_eq_true rfl) ?_
 | refine op_alloc (tl hn rfl) ?_
 | refine op_storeN rfl rfl rfl rfl (Nat.le_of_ble_eq_true rfl) ?_
 | ((first | refine RunsL.pe hn rfl rfl rfl ?_ | refine RunsD.pe rfl rfl ?_); first
 | refine ⟨_, pu_add rfl rfl (by omega), ?_⟩
 | refine ⟨_, pu_indexAddr_map rfl rfl (by omega) (by assumption), ?_⟩
 | refine ⟨_, pu_sub rfl rfl (by omega), ?_⟩
 | refine ⟨_, pu_pick_b rfl rfl rfl, ?_⟩
 | refine ⟨_, pu_mul rfl rfl (by omega), ?_⟩
 | refine ⟨_, pu_build rfl rfl rfl rfl rfl rfl, ?_⟩)
 | ((first | refine RunsL.guard_dec rfl rfl rfl ?_ ?_ | refine RunsL.guard_ndec rfl rfl rfl ?_ ?_ | refine RunsL.guard_nb rfl rfl rfl ?_ ?_ | refine RunsL.guard_b rfl rfl rfl ?_ ?_ | refine RunsD.guard_dec rfl rfl rfl ?_ ?_ | refine RunsD.guard_ndec rfl rfl rfl ?_ ?_ | refine RunsD.guard_nb rfl rfl rfl ?_ ?_ | refine RunsD.guard_b rfl rfl rfl ?_ ?_) <;> intro h <;> try (exfalso; first | omega | contradiction | (simp only [List.length_map] at h; omega))))
  all_goals (
    refine Runs.nilCell (e := 5) (sz := 1) 2 4 (by decide) rfl rfl ?_
    refine Runs.nilCell (e := 9) (sz := 1) 2 5 (by decide) rfl rfl ?_
    refine Runs.nilCell (e := 3) (sz := 1) 2 6 (by decide) rfl rfl ?_
    refine Runs.nilCell (e := 3) (sz := 1) 2 7 (by decide) rfl rfl ?_)
  all_goals first
    | exact Runs.ctls 30 rfl (Runs.ret (ends_rul (r := ⟨a ++ itoaS d.length, 3, 1 + x, false, [], [], [], []⟩) (x := 4) (y := 5) (z := 6) (w := 7) hm rfl rfl rfl hi rfl rfl rfl rfl rfl rfl (by decide) (by decide) (ruleD3 ha (by omega))))
set_option maxHeartbeats 8000000 in
theorem l4Make4_d (b : List UInt8) (hb : b.length ≤ 1048576) (d : Des) (hd : d.length ≤ 24) (r0 : Rul) (h0 : d[0]? = some r0) (hk0 : r0.kind = 1) : Drw Tryd.prog 65 43 b [desR d, .int 4] (QRul (RuleD d 4)) := by
  have hlm : (d.map rulR).length = d.length := List.length_map ..
  have hF := spec_FormatInt (d.length : Int) (by constructor <;> omega)
  have hlen := itoa_len (d.length : Int) (by omega) (by omega)
  have hfs : (⟨(Lib.itoa (d.length : Int)).toArray⟩ : ByteArray).size ≤ 20 := by rw [ba_size]; exact hlen
  refine drw_enter Tryd.func43 rfl _ Tryd.ntmps43 (by simp) fun C g u i h hn hm hu hi => ?_
  repeat' (first
 | (refine op_drawS (l1Str_d b hb baseA (by decide) (by decide)) rfl hu hi rfl (LendsPL.ros [strsR baseA]) rfl (by first | rfl | repeat' (first | rfl | exact clns_ro _ | refine clnO_cons ?_ ?_)) (tl hn rfl) ?_; intro i h a hi ha; have hsz := baseA_size a ha)
 | (refine op_drawI (l4Integer_d b hb d hd r0 h0 hk0) rfl hu hi rfl (LendsPL.ros [desR d]) rfl (by first | rfl | repeat' (first | rfl | exact clns_ro _ | refine clnO_cons ?_ ?_)) (tl hn rfl) ?_; intro i h x hi hx)
 | refine op_build (t := 56) rfl rfl rfl rfl rfl (tl hn rfl) ?_
 | ((first | refine RunsL.pe hn rfl rfl rfl ?_ | refine RunsD.pe rfl rfl ?_); first
 | refine ⟨_, pu_len_seqN d.length rfl hlm, ?_⟩)
 | refine RunsL.step tabOk hn rfl ?_
 | refine RunsL.nil ?_
 | refine Runs.toRegion 30 rfl ?_
 | ((first | refine RunsL.pe hn rfl rfl rfl ?_ | refine RunsD.pe rfl rfl ?_); first
 | refine ⟨_, pu_callR hF rfl, ?_⟩
 | refine ⟨_, pu_cat rfl rfl (by omega), ?_⟩
 | refine ⟨_, pu_buildS rfl, ?_⟩)
 | (refine Runs.ctls 30 rfl ?_; first | refine Runs.cond_t rfl ?_ | refine Runs.cond_f rfl ?_ | ((first | refine Runs.cond_yes rfl ?_ ?_ | refine Runs.cond_nno rfl ?_ ?_); · first | omega | rfl | assumption | (simp only [List.length_map]; omega)) | ((first | refine Runs.cond_no rfl ?_ ?_ | refine Runs.cond_nyes rfl ?_ ?_); · first | omega | rfl | assumption | (simp only [List.length_map]; omega)) | refine Runs.ret (ends_ro hm rfl rfl ?_) | exact Runs.ret (ends_cellR hm rfl rfl rfl (Nat.le_of_ble_eq_true rfl) rfl rfl))
 | refine op_box rfl (tl hn rfl) ?_
 | refine op_storeF rfl rfl rfl rfl (Nat.le_of_ble_eq_true rfl) ?_
 | refine op_alloc (tl hn rfl) ?_
 | refine op_storeN rfl rfl rfl rfl (Nat.le_of_ble_eq_true rfl) ?_
 | ((first | refine RunsL.pe hn rfl rfl rfl ?_ | refine RunsD.pe rfl rfl ?_); first
 | refine ⟨_, pu_add rfl rfl (by omega), ?_⟩
 | refine ⟨_, pu_indexAddr_map rfl rfl (by omega) (by assumption), ?_⟩
 | refine ⟨_, pu_sub rfl rfl (by omega), ?_⟩
 | refine ⟨_, pu_pick_b rfl rfl rfl, ?_⟩
 | refine ⟨_, pu_mul rfl rfl (by omega), ?_⟩
 | refine ⟨_, pu_build rfl rfl rfl rfl rfl rfl, ?_⟩)
 | ((first | refine RunsL.guard_dec rfl rfl rfl ?_ ?_ | refine RunsL.guard_ndec rfl rfl rfl ?_ ?_ | refine RunsL.guard_nb rfl rfl rfl ?_ ?_ | refine RunsL.guard_b rfl rfl rfl ?_ ?_ | refine RunsD.guard_dec rfl rfl rfl ?_ ?_ | refine RunsD.guard_ndec rfl rfl rfl ?_ ?_ | refine RunsD.guard_nb rfl rfl rfl ?_ ?_ | refine RunsD.guard_b rfl rfl rfl ?_ ?_) <;> intro h <;> try (exfalso; first | omega | contradiction | (simp only [List.length_map] at h; omega))))
  all_goals (
    refine Runs.nilCell (e := 5) (sz := 1) 2 4 (by decide) rfl rfl ?_
    refine Runs.nilCell (e := 9) (sz := 1) 2 5 (by decide) rfl rfl ?_
    refine Runs.nilCell (e := 3) (sz := 1) 2 6 (by decide) rfl rfl ?_)
  all_goals first
    | exact Runs.ctls 30 rfl (Runs.ret (ends_rul (r := ⟨a ++ itoaS d.length, 4, 0, false, [], [], [], [x]⟩) (x := 5) (y := 6) (z := 7) (w := 4) hm rfl rfl rfl hi rfl rfl rfl rfl rfl rfl (by decide) (by decide) (ruleD4 ha hx)))
set_option maxHeartbeats 8000000 in
theorem l4Make5_d (b : List UInt8) (hb : b.length ≤ 1048576) (d : Des) (hd : d.length ≤ 24) (r0 : Rul) (h0 : d[0]? = some r0) (hk0 : r0.kind = 1) : Drw Tryd.prog 65 43 b [desR d, .int 5] (QRul (RuleD d 5)) := by
  have hlm : (d.map rulR).length = d.length := List.length_map ..
  have hF := spec_FormatInt (d.length : Int) (by constructor <;> omega)
  have hlen := itoa_len (d.length : Int) (by omega) (by omega)
  have hfs : (⟨(Lib.itoa (d.length : Int)).toArray⟩ : ByteArray).size ≤ 20 := by rw [ba_size]; exact hlen
  refine drw_enter Tryd.func43 rfl _ Tryd.ntmps43 (by simp) fun C g u i h hn hm hu hi => ?_
  repeat' (first
 | (refine op_drawS (l1Str_d b hb baseA (by decide) (by decide)) rfl hu hi rfl (LendsPL.ros [strsR baseA]) rfl (by first | rfl | repeat' (first | rfl | exact clns_ro _ | refine clnO_cons ?_ ?_)) (tl hn rfl) ?_; intro i h a hi ha; have hsz := baseA_size a ha)
 | (refine op_drawI (l4Integer_d b hb d hd r0 h0 hk0) rfl hu hi rfl (LendsPL.ros [desR d]) rfl (by first | rfl | repeat' (first | rfl | exact clns_ro _ | refine clnO_cons ?_ ?_)) (tl hn rfl) ?_; intro i h x hi hx)
 | (refine op_drawI (l1Below_d b hb (d.length : Int) (by omega)) rfl hu hi rfl (LendsPL.ros [.int (d.length : Int)]) rfl (by first | rfl | repeat' (first | rfl | exact clns_ro _ | refine clnO_cons ?_ ?_)) (tl hn rfl) ?_; intro i h y hi hy; have hyd : InD d y := ⟨fun e => hy.1 (by omega), fun e => hy.2 (by omega)⟩)
 | refine op_build (t := 66) rfl rfl rfl rfl rfl (tl hn rfl) ?_
 | ((first | refine RunsL.pe hn rfl rfl rfl ?_ | refine RunsD.pe rfl rfl ?_); first
 | refine ⟨_, pu_len_seqN d.length rfl hlm, ?_⟩)
 | refine RunsL.step tabOk hn rfl ?_
 | refine RunsL.nil ?_
 | refine Runs.toRegion 30 rfl ?_
 | ((first | refine RunsL.pe hn rfl rfl rfl ?_ | refine RunsD.pe rfl rfl ?_); first
 | refine ⟨_, pu_callR hF rfl, ?_⟩
 | refine ⟨_, pu_cat rfl rfl (by omega), ?_⟩
 | refine ⟨_, pu_buildS rfl, ?_⟩)
 | (refine Runs.ctls 30 rfl ?_; first | refine Runs.cond_t rfl ?_ | refine Runs.cond_f rfl ?_ | ((first | refine Runs.cond_yes rfl ?_ ?_ | refine Runs.cond_nno rfl ?_ ?_); · first | omega | rfl | assumption | (simp only [List.length_map]; omega)) | ((first | refine Runs.cond_no rfl ?_ ?_ | refine Runs.cond_nyes rfl ?_ ?_); · first | omega | rfl | assumption | (simp only [List.length_map]; omega)) | refine Runs.ret (ends_ro hm rfl rfl ?_) | exact Runs.ret (ends_cellR hm rfl rfl rfl (Nat.le_of_ble_eq_true rfl) rfl rfl))
 | refine op_box rfl (tl hn rfl) ?_
 | refine op_storeF rfl rfl rfl rfl (Nat.le_of_ble_eq_true rfl) ?_
 | refine op_alloc (tl hn rfl) ?_
 | refine op_storeN rfl rfl rfl rfl (Nat.le_of_ble_eq_true rfl) ?_
 | ((first | refine RunsL.pe hn rfl rfl rfl ?_ | refine RunsD.pe rfl rfl ?_); first
 | refine ⟨_, pu_add rfl rfl (by omega), ?_⟩
 | refine ⟨_, pu_indexAddr_map rfl rfl (by omega) (by assumption), ?_⟩
 | refine ⟨_, pu_sub rfl rfl (by omega), ?_⟩
 | refine ⟨_, pu_pick_b rfl rfl rfl, ?_⟩
 | refine ⟨_, pu_mul rfl rfl (by omega), ?_⟩
 | refine ⟨_, pu_build rfl rfl rfl rfl rfl rfl, ?_⟩)
 | ((first | refine RunsL.guard_dec rfl rfl rfl ?_ ?_ | refine RunsL.guard_ndec rfl rfl rfl ?_ ?_ | refine RunsL.guard_nb rfl rfl rfl ?_ ?_ | refine RunsL.guard_b rfl rfl rfl ?_ ?_ | refine RunsD.guard_dec rfl rfl rfl ?_ ?_ | refine RunsD.guard_ndec rfl rfl rfl ?_ ?_ | refine RunsD.guard_nb rfl rfl rfl ?_ ?_ | refine RunsD.guard_b rfl rfl rfl ?_ ?_) <;> intro h <;> try (exfalso; first | omega | contradiction | (simp only [List.length_map] at h; omega))))
  all_goals (
    refine Runs.nilCell (e := 5) (sz := 1) 2 4 (by decide) rfl rfl ?_
    refine Runs.nilCell (e := 9) (sz := 1) 2 5 (by decide) rfl rfl ?_
    refine Runs.nilCell (e := 3) (sz := 1) 2 6 (by decide) rfl rfl ?_)
  all_goals first
    | exact Runs.ctls 30 rfl (Runs.ret (ends_rul (r := ⟨a ++ itoaS d.length, 5, 0, false, [], [], [], [x, y]⟩) (x := 5) (y := 6) (z := 7) (w := 4) hm rfl rfl rfl hi rfl rfl rfl rfl rfl rfl (by decide) (by decide) (ruleD5 ha hx hyd)))
set_option maxHeartbeats 8000000 in
theorem l4Make8_d (b : List UInt8) (hb : b.length ≤ 1048576) (d : Des) (hd : d.length ≤ 24) : Drw Tryd.prog 65 43 b [desR d, .int 8] (QRul (RuleD d 8)) := by
  have hlm : (d.map rulR).length = d.length := List.length_map ..
  have hF := spec_FormatInt (d.length : Int) (by constructor <;> omega)
  have hlen := itoa_len (d.length : Int) (by omega) (by omega)
  have hfs : (⟨(Lib.itoa (d.length : Int)).toArray⟩ : ByteArray).size ≤ 20 := by rw [ba_size]; exact hlen
  refine drw_enter Tryd.func43 rfl _ Tryd.ntmps43 (by simp) fun C g u i h hn hm hu hi => ?_
  repeat' (first
 | (refine op_drawS (l1Str_d b hb baseA (by decide) (by decide)) rfl hu hi rfl (LendsPL.ros [strsR baseA]) rfl (by first | rfl | repeat' (first | rfl | exact clns_ro _ | refine clnO_cons ?_ ?_)) (tl hn rfl) ?_; intro i h a hi ha; have hsz := baseA_size a ha)
 | (refine op_drawI (l1Below_d b hb (d.length : Int) (by omega)) rfl hu hi rfl (LendsPL.ros [.int (d.length : Int)]) rfl (by first | rfl | repeat' (first | rfl | exact clns_ro _ | refine clnO_cons ?_ ?_)) (tl hn rfl) ?_; intro i h y hi hy; have hyd : InD d y := ⟨fun e => hy.1 (by omega), fun e => hy.2 (by omega)⟩)
 | refine op_build (t := 136) rfl rfl rfl rfl rfl (tl hn rfl) ?_
 | ((first | refine RunsL.pe hn rfl rfl rfl ?_ | refine RunsD.pe rfl rfl ?_); first
 | refine ⟨_, pu_len_seqN d.length rfl hlm, ?_⟩)
 | refine RunsL.step tabOk hn rfl ?_
 | refine RunsL.nil ?_
 | refine Runs.toRegion 30 rfl ?_
 | ((first | refine RunsL.pe hn rfl rfl rfl ?_ | refine RunsD.pe rfl rfl ?_); first
 | refine ⟨_, pu_callR hF rfl, ?_⟩
 | refine ⟨_, pu_cat rfl rfl (by omega), ?_⟩
 | refine ⟨_, pu_buildS rfl, ?_⟩)
 | (refine Runs.ctls 30 rfl ?_; first | refine Runs.cond_t rfl ?_ | refine Runs.cond_f rfl ?_ | ((first | refine Runs.cond_yes rfl ?_ ?_ | refine Runs.cond_nno rfl ?_ ?_); · first | omega | rfl | assumption | (simp only [List.length_map]; omega)) | ((first | refine Runs.cond_no rfl ?_ ?_ | refine Runs.cond_nyes rfl ?_ ?_); · first | omega | rfl | assumption | (simp only [List.length_map]; omega)) | refine Runs.ret (ends_ro hm rfl rfl ?_) | exact Runs.ret (ends_cellR hm rfl rfl rfl (Nat.le_of_ble_eq_true rfl) rfl rfl))
 | refine op_box rfl (tl hn rfl) ?_
 | refine op_storeF rfl rfl rfl rfl (Nat.le_of_ble_eq_true rfl) ?_
 | refine op_alloc (tl hn rfl) ?_
 | refine op_storeN rfl rfl rfl rfl (Nat.le_of_ble_eq_true rfl) ?_
 | ((first | refine RunsL.pe hn rfl rfl rfl ?_ | refine RunsD.pe rfl rfl ?_); first
 | refine ⟨_, pu_add rfl rfl (by omega), ?_⟩
 | refine ⟨_, pu_indexAddr_map rfl rfl (by omega) (by assumption), ?_⟩
 | refine ⟨_, pu_sub rfl rfl (by omega), ?_⟩
 | refine ⟨_, pu_pick_b rfl rfl rfl, ?_⟩
 | refine ⟨_, pu_mul rfl rfl (by omega), ?_⟩
 | refine ⟨_, pu_build rfl rfl rfl rfl rfl rfl, ?_⟩)
 | ((first | refine RunsL.guard_dec rfl rfl rfl ?_ ?_ | refine RunsL.guard_ndec rfl rfl rfl ?_ ?_ | refine RunsL.guard_nb rfl rfl rfl ?_ ?_ | refine RunsL.guard_b rfl rfl rfl ?_ ?_ | refine RunsD.guard_dec rfl rfl rfl ?_ ?_ | refine RunsD.guard_ndec rfl rfl rfl ?_ ?_ | refine RunsD.guard_nb rfl rfl rfl ?_ ?_ | refine RunsD.guard_b rfl rfl rfl ?_ ?_) <;> intro h <;> try (exfalso; first | omega | contradiction | (simp only [List.length_map] at h; omega))))
  all_goals (
    refine Runs.nilCell (e := 5) (sz := 1) 2 4 (by decide) rfl rfl ?_
    refine Runs.nilCell (e := 9) (sz := 1) 2 5 (by decide) rfl rfl ?_
    refine Runs.nilCell (e := 3) (sz := 1) 2 6 (by decide) rfl rfl ?_)
  all_goals first
    | exact Runs.ctls 30 rfl (Runs.ret (ends_rul (r := ⟨a ++ itoaS d.length, 8, 0, false, [], [], [], [y]⟩) (x := 5) (y := 6) (z := 7) (w := 4) hm rfl rfl rfl hi rfl rfl rfl rfl rfl rfl (by decide) (by decide) (ruleD8 ha hyd)))
set_option maxHeartbeats 8000000 in
theorem l4Make9_d (b : List UInt8) (hb : b.length ≤ 1048576) (d : Des) (hd : d.length ≤ 24) : Drw Tryd.prog 65 43 b [desR d, .int 9] (QRul (RuleD d 9)) := by
  have hlm : (d.map rulR).length = d.length := List.length_map ..
  have hF := spec_FormatInt (d.length : Int) (by constructor <;> omega)
  have hlen := itoa_len (d.length : Int) (by omega) (by omega)
  have hfs : (⟨(Lib.itoa (d.length : Int)).toArray⟩ : ByteArray).size ≤ 20 := by rw [ba_size]; exact hlen
  refine drw_enter Tryd.func43 rfl _ Tryd.ntmps43 (by simp) fun C g u i h hn hm hu hi => ?_
  repeat' (first
 | (refine op_drawS (l1Str_d b hb baseA (by decide) (by decide)) rfl hu hi rfl (LendsPL.ros [strsR baseA]) rfl (by first | rfl | repeat' (first | rfl | exact clns_ro _ | refine clnO_cons ?_ ?_)) (tl hn rfl) ?_; intro i h a hi ha; have hsz := baseA_size a ha)
 | (refine op_drawI (l1Below_d b hb (d.length : Int) (by omega)) rfl hu hi rfl (LendsPL.ros [.int (d.length : Int)]) rfl (by first | rfl | repeat' (first | rfl | exact clns_ro _ | refine clnO_cons ?_ ?_)) (tl hn rfl) ?_; intro i h y hi hy; have hyd : InD d y := ⟨fun e => hy.1 (by omega), fun e => hy.2 (by omega)⟩)
 | refine op_build (t := 136) rfl rfl rfl rfl rfl (tl hn rfl) ?_
 | ((first | refine RunsL.pe hn rfl rfl rfl ?_ | refine RunsD.pe rfl rfl ?_); first
 | refine ⟨_, pu_len_seqN d.length rfl hlm, ?_⟩)
 | refine RunsL.step tabOk hn rfl ?_
 | refine RunsL.nil ?_
 | refine Runs.toRegion 30 rfl ?_
 | ((first | refine RunsL.pe hn rfl rfl rfl ?_ | refine RunsD.pe rfl rfl ?_); first
 | refine ⟨_, pu_callR hF rfl, ?_⟩
 | refine ⟨_, pu_cat rfl rfl (by omega), ?_⟩
 | refine ⟨_, pu_buildS rfl, ?_⟩)
 | (refine Runs.ctls 30 rfl ?_; first | refine Runs.cond_t rfl ?_ | refine Runs.cond_f rfl ?_ | ((first | refine Runs.cond_yes rfl ?_ ?_ | refine Runs.cond_nno rfl ?_ ?_); · first | omega | rfl | assumption | (simp only [List.length_map]; omega)) | ((first | refine Runs.cond_no rfl ?_ ?_ | refine Runs.cond_nyes rfl ?_ ?_); · first | omega | rfl | assumption | (simp only [List.length_map]; omega)) | refine Runs.ret (ends_ro hm rfl rfl ?_) | exact Runs.ret (ends_cellR hm rfl rfl rfl (Nat.le_of_ble_eq_true rfl) rfl rfl))
 | refine op_box rfl (tl hn rfl) ?_
 | refine op_storeF rfl rfl rfl rfl (Nat.le_of_ble_eq_true rfl) ?_
 | refine op_alloc (tl hn rfl) ?_
 | refine op_storeN rfl rfl rfl rfl (Nat.le_of_ble_eq_true rfl) ?_
 | ((first | refine RunsL.pe hn rfl rfl rfl ?_ | refine RunsD.pe rfl rfl ?_); first
 | refine ⟨_, pu_add rfl rfl (by omega), ?_⟩
 | refine ⟨_, pu_indexAddr_map rfl rfl (by omega) (by assumption), ?_⟩
 | refine ⟨_, pu_sub rfl rfl (by omega), ?_⟩
 | refine ⟨_, pu_pick_b rfl rfl rfl, ?_⟩
 | refine ⟨_, pu_mul rfl rfl (by omega), ?_⟩
 | refine ⟨_, pu_build rfl rfl rfl rfl rfl rfl, ?_⟩)
 | ((first | refine RunsL.guard_dec rfl rfl rfl ?_ ?_ | refine RunsL.guard_ndec rfl rfl rfl ?_ ?_ | refine RunsL.guard_nb rfl rfl rfl ?_ ?_ | refine RunsL.guard_b rfl rfl rfl ?_ ?_ | refine RunsD.guard_dec rfl rfl rfl ?_ ?_ | refine RunsD.guard_ndec rfl rfl rfl ?_ ?_ | refine RunsD.guard_nb rfl rfl rfl ?_ ?_ | refine RunsD.guard_b rfl rfl rfl ?_ ?_) <;> intro h <;> try (exfalso; first | omega | contradiction | (simp only [List.length_map] at h; omega))))
  all_goals (
    refine Runs.nilCell (e := 5) (sz := 1) 2 4 (by decide) rfl rfl ?_
    refine Runs.nilCell (e := 9) (sz := 1) 2 5 (by decide) rfl rfl ?_
    refine Runs.nilCell (e := 3) (sz := 1) 2 6 (by decide) rfl rfl ?_)
  all_goals first
    | exact Runs.ctls 30 rfl (Runs.ret (ends_rul (r := ⟨a ++ itoaS d.length, 9, 0, false, [], [], [], [y]⟩) (x := 5) (y := 6) (z := 7) (w := 4) hm rfl rfl rfl hi rfl rfl rfl rfl rfl rfl (by decide) (by decide) (ruleD9 ha hyd)))
set_option maxHeartbeats 8000000 in
theorem l4Make10_d (b : List UInt8) (hb : b.length ≤ 1048576) (d : Des) (hd : d.length ≤ 24) : Drw Tryd.prog 65 43 b [desR d, .int 10] (QRul (RuleD d 10)) := by
  have hlm : (d.map rulR).length = d.length := List.length_map ..
  have hF := spec_FormatInt (d.length : Int) (by constructor <;> omega)
  have hlen := itoa_len (d.length : Int) (by omega) (by omega)
  have hfs : (⟨(Lib.itoa (d.length : Int)).toArray⟩ : ByteArray).size ≤ 20 := by rw [ba_size]; exact hlen
  refine drw_enter Tryd.func43 rfl _ Tryd.ntmps43 (by simp) fun C g u i h hn hm hu hi => ?_
  repeat' (first
 | (refine op_drawS (l1Str_d b hb baseA (by decide) (by decide)) rfl hu hi rfl (LendsPL.ros [strsR baseA]) rfl (by first | rfl | repeat' (first | rfl | exact clns_ro _ | refine clnO_cons ?_ ?_)) (tl hn rfl) ?_; intro i h a hi ha; have hsz := baseA_size a ha)
 | (refine op_drawI (l1Int_d b hb [0, 10, 59, 255] (by decide) (by decide)) rfl hu hi rfl (LendsPL.ros [intsR [0, 10, 59, 255]]) rfl (by first | rfl | repeat' (first | rfl | exact clns_ro _ | refine clnO_cons ?_ ?_)) (tl hn rfl) ?_; intro i h y hi hy)
 | refine op_build (t := 144) rfl rfl rfl rfl rfl (tl hn rfl) ?_
 | ((first | refine RunsL.pe hn rfl rfl rfl ?_ | refine RunsD.pe rfl rfl ?_); first
 | refine ⟨_, pu_len_seqN d.length rfl hlm, ?_⟩)
 | refine RunsL.step tabOk hn rfl ?_
 | refine RunsL.nil ?_
 | refine Runs.toRegion 30 rfl ?_
 | ((first | refine RunsL.pe hn rfl rfl rfl ?_ | refine RunsD.pe rfl rfl ?_); first
 | refine ⟨_, pu_callR hF rfl, ?_⟩
 | refine ⟨_, pu_cat rfl rfl (by omega), ?_⟩
 | refine ⟨_, pu_buildS rfl, ?_⟩
 | refine ⟨_, pu_toU8 rfl, ?_⟩)
 | (refine Runs.ctls 30 rfl ?_; first | refine Runs.cond_t rfl ?_ | refine Runs.cond_f rfl ?_ | ((first | refine Runs.cond_yes rfl ?_ ?_ | refine Runs.cond_nno rfl ?_ ?_); · first | omega | rfl | assumption | (simp only [List.length_map]; omega)) | ((first | refine Runs.cond_no rfl ?_ ?_ | refine Runs.cond_nyes rfl ?_ ?_); · first | omega | rfl | assumption | (simp only [List.length_map]; omega)) | refine Runs.ret (ends_ro hm rfl rfl ?_) | exact Runs.ret (ends_cellR hm rfl rfl rfl (Nat.le_of_ble_eq_true rfl) rfl rfl))
 | refine op_box rfl (tl hn rfl) ?_
 | refine op_storeF rfl rfl rfl rfl (Nat.le_of_ble_eq_true rfl) ?_
 | refine op_alloc (tl hn rfl) ?_
 | refine op_storeN rfl rfl rfl rfl (Nat.le_of_ble_eq_true rfl) ?_
 | ((first | refine RunsL.pe hn rfl rfl rfl ?_ | refine RunsD.pe rfl rfl ?_); first
 | refine ⟨_, pu_add rfl rfl (by omega), ?_⟩
 | refine ⟨_, pu_indexAddr_map rfl rfl (by omega) (by assumption), ?_⟩
 | refine ⟨_, pu_sub rfl rfl (by omega), ?_⟩
 | refine ⟨_, pu_pick_b rfl rfl rfl, ?_⟩
 | refine ⟨_, pu_mul rfl rfl (by omega), ?_⟩
 | refine ⟨_, pu_build rfl rfl rfl rfl rfl rfl, ?_⟩)
 | ((first | refine RunsL.guard_dec rfl rfl rfl ?_ ?_ | refine RunsL.guard_ndec rfl rfl rfl ?_ ?_ | refine RunsL.guard_nb rfl rfl rfl ?_ ?_ | refine RunsL.guard_b rfl rfl rfl ?_ ?_ | refine RunsD.guard_dec rfl rfl rfl ?_ ?_ | refine RunsD.guard_ndec rfl rfl rfl ?_ ?_ | refine RunsD.guard_nb rfl rfl rfl ?_ ?_ | refine RunsD.guard_b rfl rfl rfl ?_ ?_) <;> intro h <;> try (exfalso; first | omega | contradiction | (simp only [List.length_map] at h; omega))))
  all_goals (
    refine Runs.nilCell (e := 9) (sz := 1) 2 5 (by decide) rfl rfl ?_
    refine Runs.nilCell (e := 3) (sz := 1) 2 6 (by decide) rfl rfl ?_
    refine Runs.nilCell (e := 3) (sz := 1) 2 7 (by decide) rfl rfl ?_)
  all_goals first
    | exact Runs.ctls 30 rfl (Runs.ret (ends_rul (r := ⟨a ++ itoaS d.length, 10, 0, false, [u8i y], [], [], []⟩) (x := 4) (y := 5) (z := 6) (w := 7) hm rfl rfl rfl hi rfl rfl rfl rfl rfl rfl (by decide) (by decide) (ruleD10 ha hy)))
end Go.Proofs.YtofefjklipglhaaDoor
/- The draw of a rule: sequences and choices. -/
namespace Go.Proofs.YtofefjklipglhaaDoor
set_option linter.unusedSimpArgs false
set_option linter.unusedVariables false
set_option maxRecDepth 100000
open Go.RowKit
open AV (Mem Keeps)
set_option maxHeartbeats 8000000 in
theorem l4Make6_d (b : List UInt8) (hb : b.length ≤ 1048576) (d : Des) (hd : d.length ≤ 24) : Drw Tryd.prog 65 43 b [desR d, .int 6] (QRul (RuleD d 6)) := by
  have hlm : (d.map rulR).length = d.length := List.length_map ..
  have hF := spec_FormatInt (d.length : Int) (by constructor <;> omega)
  have hlen := itoa_len (d.length : Int) (by omega) (by omega)
  have hfs : (⟨(Lib.itoa (d.length : Int)).toArray⟩ : ByteArray).size ≤ 20 := by rw [ba_size]; exact hlen
  refine drw_enter Tryd.func43 rfl _ Tryd.ntmps43 (by simp) fun C g u i h hn hm hu hi => ?_
  repeat' (first
 | (refine op_drawS (l1Str_d b hb baseA (by decide) (by decide)) rfl hu hi rfl (LendsPL.ros [strsR baseA]) rfl (by first | rfl | repeat' (first | rfl | exact clns_ro _ | refine clnO_cons ?_ ?_)) (tl hn rfl) ?_; intro i h a hi ha; have hsz := baseA_size a ha)
 | (refine op_drawI (l1Below_d b hb _ (by omega)) rfl hu hi rfl (LendsPL.ros [.int _]) rfl (by first | rfl | repeat' (first | rfl | exact clns_ro _ | refine clnO_cons ?_ ?_)) (tl hn rfl) ?_; intro i h x hi hx; obtain ⟨hxa, hxb⟩ := hx.2 (by omega))
 | ((first | refine RunsL.pe hn rfl rfl rfl ?_ | refine RunsD.pe rfl rfl ?_); first
 | refine ⟨_, pu_len_seqN d.length rfl hlm, ?_⟩)
 | refine RunsL.step tabOk hn rfl ?_
 | refine RunsL.nil ?_
 | refine Runs.toRegion 30 rfl ?_
 | ((first | refine RunsL.pe hn rfl rfl rfl ?_ | refine RunsD.pe rfl rfl ?_); first
 | refine ⟨_, pu_callR hF rfl, ?_⟩
 | refine ⟨_, pu_cat rfl rfl (by omega), ?_⟩
 | refine ⟨_, pu_buildS rfl, ?_⟩)
 | (refine Runs.ctls 30 rfl ?_; first | refine Runs.cond_t rfl ?_ | refine Runs.cond_f rfl ?_ | ((first | refine Runs.cond_yes rfl ?_ ?_ | refine Runs.cond_nno rfl ?_ ?_); · first | omega | rfl | assumption | (simp only [List.length_map]; omega)) | ((first | refine Runs.cond_no rfl ?_ ?_ | refine Runs.cond_nyes rfl ?_ ?_); · first | omega | rfl | assumption | (simp only [List.length_map]; omega)) | refine Runs.ret (ends_ro hm rfl rfl ?_) | exact Runs.ret (ends_cellR hm rfl rfl rfl (Nat.le_of_ble_eq_true rfl) rfl rfl))
 | refine op_box rfl (tl hn rfl) ?_
 | refine op_storeF rfl rfl rfl rfl (Nat.le_of_ble_eq_true rfl) ?_
 | refine op_alloc (tl hn rfl) ?_
 | refine op_storeN rfl rfl rfl rfl (Nat.le_of_ble_eq_true rfl) ?_
 | ((first | refine RunsL.pe hn rfl rfl rfl ?_ | refine RunsD.pe rfl rfl ?_); first
 | refine ⟨_, pu_add rfl rfl (by omega), ?_⟩
 | refine ⟨_, pu_indexAddr_map rfl rfl (by omega) (by assumption), ?_⟩
 | refine ⟨_, pu_sub rfl rfl (by omega), ?_⟩
 | refine ⟨_, pu_pick_b rfl rfl rfl, ?_⟩
 | refine ⟨_, pu_mul rfl rfl (by omega), ?_⟩
 | refine ⟨_, pu_build rfl rfl rfl rfl rfl rfl, ?_⟩)
 | ((first | refine RunsL.guard_dec rfl rfl rfl ?_ ?_ | refine RunsL.guard_ndec rfl rfl rfl ?_ ?_ | refine RunsL.guard_nb rfl rfl rfl ?_ ?_ | refine RunsL.guard_b rfl rfl rfl ?_ ?_ | refine RunsD.guard_dec rfl rfl rfl ?_ ?_ | refine RunsD.guard_ndec rfl rfl rfl ?_ ?_ | refine RunsD.guard_nb rfl rfl rfl ?_ ?_ | refine RunsD.guard_b rfl rfl rfl ?_ ?_) <;> intro h <;> try (exfalso; first | omega | contradiction | (simp only [List.length_map] at h; omega))))
  obtain ⟨c, hc⟩ : ∃ c : Nat, 1 + x = c := ⟨(1 + x).toNat, by omega⟩
  rw [hc]
  refine Runs.nilCell (e := 9) (sz := 1) 3 5 (by decide) rfl rfl ?_
  refine Runs.nilCell (e := 3) (sz := 1) 3 7 (by decide) rfl rfl ?_
  refine Runs.loopI 30 rfl (fun m E z => ∃ (l : List ByteArray) (ks : List Int) (i h : Int), l.length + m = c ∧ ks.length = l.length ∧ (∀ (j : Nat) x, l[j]? = some x → ∃ a ∈ baseP, x = a ++ itoaS ((c : Int) - j)) ∧ (∀ z ∈ ks, InD d z) ∧ CurOk b i ∧ E = [(0, .pin 0 0 g), (6, .obj 2 0), (7, .int d.length), (8, .obj 3 0), (9, .int m)] ∧
    z = [curOb 65 u i h, ⟨26, 0, [.ro (rulsR d)]⟩, ⟨57, 0, [.str ⟨#[]⟩, .int 0, .int 0, .bool false, .nil, .nil, .nil, .nil]⟩, ⟨57, 0, [.str (a ++ itoaS d.length), .int 6, .int 0, .bool false, .nil, .own 4, .nil, .own 5]⟩, ⟨9, 1, (l.map RV.str).map .ro⟩, ⟨3, 1, (ks.map RV.int).map .ro⟩]) c [(0, .pin 0 0 g), (6, .obj 2 0), (7, .int d.length), (8, .obj 3 0), (9, .int c)] ⟨rfl, rfl, rfl, rfl, rfl, trivial⟩ ⟨[], [], i, h, by simp, rfl, by simp, by simp, hi, rfl, rfl⟩ fun m E z ⟨l, ks, i, h, hlc, hkl, hl, hks, hi, hE, hz⟩ ih => ?_
  subst hE; subst hz
  have hll : (l.map RV.str).length = l.length := List.length_map ..
  have hkk : (ks.map RV.int).length = ks.length := List.length_map ..
  have hF2 := spec_FormatInt (m : Int) (by constructor <;> omega)
  have hlen2 := itoa_len (m : Int) (by omega) (by omega)
  have hfs2 : (⟨(Lib.itoa (m : Int)).toArray⟩ : ByteArray).size ≤ 20 := by rw [ba_size]; exact hlen2
  by_cases hm0 : 0 < m
  · repeat' (first
 | refine Runs.toLate (id := 19) 30 [0, 1, 2, 3, 5] [4, 6, 7, 8, 9, 10, 11] mixed rfl rfl (by kernel_rfl) (by kernel_rfl) (by kernel_rfl) ?_
 | refine Runs.toLate (id := 20) 30 [0, 1, 2, 3] [4, 5, 6, 7, 8] mixed rfl rfl (by kernel_rfl) (by kernel_rfl) (by kernel_rfl) ?_
 | (refine RunsP.drawS (l1Str_d b hb baseP (by decide) (by decide)) rfl hu hi (fun _ => LendsPL.ros [strsR baseP]) rfl (by first | rfl | repeat' (first | rfl | exact clns_ro _ | refine clnO_cons ?_ ?_)) (tl hn rfl) ?_; intro i h q hi hq; have hsz2 := baseP_size q hq)
 | (refine RunsP.drawI (l1Below_d b hb (d.length : Int) (by omega)) rfl hu hi (fun _ => LendsPL.ros [.int (d.length : Int)]) rfl (by first | rfl | repeat' (first | rfl | exact clns_ro _ | refine clnO_cons ?_ ?_)) (tl hn rfl) ?_; intro i h y hi hy; have hyd : InD d y := ⟨fun e => hy.1 (by omega), fun e => hy.2 (by omega)⟩)
 | (refine RunsL.junk 3 5 rfl ?_; refine op_append (t := 86) (n := l.length) rfl rfl rfl rfl rfl rfl (by rw [hll, Nat.mul_one]) (FreeI.at_ ⟨by simp [curOb, AV.onlys, AV.only], by simp [AV.onlys, AV.only], by simp [AV.onlys, AV.only], by simp [AV.onlys, AV.only], onlys_ro _ _, onlys_ro _ _, trivial⟩) (by simp; omega) (by simp; omega) (tl hn rfl) ?_)
 | (refine RunsL.junk 3 7 rfl ?_; refine op_append (t := 94) (n := ks.length) rfl rfl rfl rfl rfl rfl (by rw [hkk, Nat.mul_one]) (FreeI.at_ ⟨by simp [curOb, AV.onlys, AV.only], by simp [AV.onlys, AV.only], by simp [AV.onlys, AV.only], by simp [AV.onlys, AV.only], onlys_ro _ _, onlys_ro _ _, trivial⟩) (by simp; omega) (by simp; omega) (tl hn rfl) ?_)
 | refine RunsH.pur (fun _ _ => pu_auto tabOk rfl) rfl (tl hn rfl) rfl ?_
 | refine RunsH.pur (fun _ _ => pu_callR hF2 rfl) rfl (tl hn rfl) rfl ?_
 | refine RunsH.pur (fun _ _ => pu_cat rfl rfl (by omega)) rfl (tl hn rfl) rfl ?_
 | refine RunsH.pur (fun _ _ => pu_build rfl rfl rfl rfl rfl rfl) rfl (tl hn rfl) rfl ?_
 | refine RunsH.pur (fun _ _ => pu_add rfl rfl (by omega)) rfl (tl hn rfl) rfl ?_
 | refine RunsH.pur (fun _ _ => pu_sub rfl rfl (by omega)) rfl (tl hn rfl) rfl ?_
 | refine RunsH.pur (fun _ _ => pu_build rfl rfl rfl rfl rfl rfl) rfl (tl hn rfl) rfl ?_
 | refine RunsH.nil ?_
 | refine RunsP.pur (pu_auto tabOk rfl) rfl rfl (tl hn rfl) (by first | rfl | repeat' (first | rfl | exact clns_ro _ | refine clnO_cons ?_ ?_)) ?_
 | refine RunsP.pur (pu_callR hF2 rfl) rfl rfl (tl hn rfl) (by first | rfl | repeat' (first | rfl | exact clns_ro _ | refine clnO_cons ?_ ?_)) ?_
 | refine RunsP.pur (pu_cat rfl rfl (by omega)) rfl rfl (tl hn rfl) (by first | rfl | repeat' (first | rfl | exact clns_ro _ | refine clnO_cons ?_ ?_)) ?_
 | refine RunsP.pur (pu_build rfl rfl rfl rfl rfl rfl) rfl rfl (tl hn rfl) (by first | rfl | repeat' (first | rfl | exact clns_ro _ | refine clnO_cons ?_ ?_)) ?_
 | refine RunsP.pur (pu_add rfl rfl (by omega)) rfl rfl (tl hn rfl) (by first | rfl | repeat' (first | rfl | exact clns_ro _ | refine clnO_cons ?_ ?_)) ?_
 | refine RunsP.pur (pu_sub rfl rfl (by omega)) rfl rfl (tl hn rfl) (by first | rfl | repeat' (first | rfl | exact clns_ro _ | refine clnO_cons ?_ ?_)) ?_
 | refine RunsP.pur (pu_build rfl rfl rfl rfl rfl rfl) rfl rfl (tl hn rfl) (by first | rfl | repeat' (first | rfl | exact clns_ro _ | refine clnO_cons ?_ ?_)) ?_
 | refine RunsL.step tabOk hn rfl ?_
 | refine RunsL.nil ?_
 | refine Runs.toRegion 30 rfl ?_
 | refine RunsP.done 9 rfl (Nat.le_of_ble_eq_true rfl) (by kernel_rfl) (by kernel_rfl) ?_
 | refine RunsP.done 6 rfl (Nat.le_of_ble_eq_true rfl) (by kernel_rfl) (by kernel_rfl) ?_
 | ((first | refine RunsL.pe hn rfl rfl rfl ?_ | refine RunsD.pe rfl rfl ?_); first
 | refine ⟨_, pu_callR hF2 rfl, ?_⟩
 | refine ⟨_, pu_cat rfl rfl (by omega), ?_⟩
 | refine ⟨_, pu_build rfl rfl rfl rfl rfl rfl, ?_⟩)
 | (refine Runs.ctls 30 rfl ?_; first | refine Runs.cond_t rfl ?_ | refine Runs.cond_f rfl ?_ | ((first | refine Runs.cond_yes rfl ?_ ?_ | refine Runs.cond_nno rfl ?_ ?_); · first | omega | rfl | assumption | (simp only [List.length_map]; omega)) | ((first | refine Runs.cond_no rfl ?_ ?_ | refine Runs.cond_nyes rfl ?_ ?_); · first | omega | rfl | assumption | (simp only [List.length_map]; omega)) | refine Runs.ret (ends_ro hm rfl rfl ?_) | exact Runs.ret (ends_cellR hm rfl rfl rfl (Nat.le_of_ble_eq_true rfl) rfl rfl))
 | refine op_box rfl (tl hn rfl) ?_
 | refine op_storeF rfl rfl rfl rfl (Nat.le_of_ble_eq_true rfl) ?_
 | refine op_alloc (tl hn rfl) ?_
 | refine op_storeN rfl rfl rfl rfl (Nat.le_of_ble_eq_true rfl) ?_
 | ((first | refine RunsL.pe hn rfl rfl rfl ?_ | refine RunsD.pe rfl rfl ?_); first
 | refine ⟨_, pu_add rfl rfl (by omega), ?_⟩
 | refine ⟨_, pu_indexAddr_map rfl rfl (by omega) (by assumption), ?_⟩
 | refine ⟨_, pu_sub rfl rfl (by omega), ?_⟩
 | refine ⟨_, pu_pick_b rfl rfl rfl, ?_⟩
 | refine ⟨_, pu_mul rfl rfl (by omega), ?_⟩
 | refine ⟨_, pu_build rfl rfl rfl rfl rfl rfl, ?_⟩)
 | ((first | refine RunsL.guard_dec rfl rfl rfl ?_ ?_ | refine RunsL.guard_ndec rfl rfl rfl ?_ ?_ | refine RunsL.guard_nb rfl rfl rfl ?_ ?_ | refine RunsL.guard_b rfl rfl rfl ?_ ?_ | refine RunsD.guard_dec rfl rfl rfl ?_ ?_ | refine RunsD.guard_ndec rfl rfl rfl ?_ ?_ | refine RunsD.guard_nb rfl rfl rfl ?_ ?_ | refine RunsD.guard_b rfl rfl rfl ?_ ?_) <;> intro h <;> try (exfalso; first | omega | contradiction | (simp only [List.length_map] at h; omega))))
    refine ih (m - 1) _ _ _ (by omega) ⟨l ++ [q ++ ⟨(Lib.itoa (m : Int)).toArray⟩], ks ++ [y], i, h, by simp; omega, by simp [hkl], fun j z hz => ?_, fun z hz => ?_, hi, rfl, ?_⟩ ⟨rfl, rfl, rfl, rfl, ?_, trivial⟩
    · rw [List.getElem?_append] at hz
      split at hz
      · exact hl j z hz
      · rename_i hj
        have hj' : j - l.length = 0 := by
          have := (List.getElem?_eq_some_iff.1 hz).1
          simp at this; omega
        rw [hj'] at hz
        simp at hz
        subst hz
        exact ⟨q, hq, by unfold itoaS; congr 3; congr 1; omega⟩
    · rcases List.mem_append.1 hz with h1 | h1
      · exact hks z h1
      · simp at h1; subst h1; exact hyd
    · simp
    · show AV.int _ = AV.int _
      congr 1; omega
  · have em : m = 0 := by omega
    repeat' (first
 | refine RunsL.step tabOk hn rfl ?_
 | refine RunsL.nil ?_
 | refine Runs.toRegion 30 rfl ?_
 | (refine Runs.ctls 30 rfl ?_; first | refine Runs.cond_t rfl ?_ | refine Runs.cond_f rfl ?_ | ((first | refine Runs.cond_yes rfl ?_ ?_ | refine Runs.cond_nno rfl ?_ ?_); · first | omega | rfl | assumption | (simp only [List.length_map]; omega)) | ((first | refine Runs.cond_no rfl ?_ ?_ | refine Runs.cond_nyes rfl ?_ ?_); · first | omega | rfl | assumption | (simp only [List.length_map]; omega)) | refine Runs.ret (ends_ro hm rfl rfl ?_) | exact Runs.ret (ends_cellR hm rfl rfl rfl (Nat.le_of_ble_eq_true rfl) rfl rfl))
 | refine op_box rfl (tl hn rfl) ?_
 | refine op_storeF rfl rfl rfl rfl (Nat.le_of_ble_eq_true rfl) ?_
 | refine op_alloc (tl hn rfl) ?_
 | refine op_storeN rfl rfl rfl rfl (Nat.le_of_ble_eq_true rfl) ?_
 | ((first | refine RunsL.pe hn rfl rfl rfl ?_ | refine RunsD.pe rfl rfl ?_); first
 | refine ⟨_, pu_add rfl rfl (by omega), ?_⟩
 | refine ⟨_, pu_indexAddr_map rfl rfl (by omega) (by assumption), ?_⟩
 | refine ⟨_, pu_sub rfl rfl (by omega), ?_⟩
 | refine ⟨_, pu_pick_b rfl rfl rfl, ?_⟩
 | refine ⟨_, pu_mul rfl rfl (by omega), ?_⟩
 | refine ⟨_, pu_build rfl rfl rfl rfl rfl rfl, ?_⟩)
 | ((first | refine RunsL.guard_dec rfl rfl rfl ?_ ?_ | refine RunsL.guard_ndec rfl rfl rfl ?_ ?_ | refine RunsL.guard_nb rfl rfl rfl ?_ ?_ | refine RunsL.guard_b rfl rfl rfl ?_ ?_ | refine RunsD.guard_dec rfl rfl rfl ?_ ?_ | refine RunsD.guard_ndec rfl rfl rfl ?_ ?_ | refine RunsD.guard_nb rfl rfl rfl ?_ ?_ | refine RunsD.guard_b rfl rfl rfl ?_ ?_) <;> intro h <;> try (exfalso; first | omega | contradiction | (simp only [List.length_map] at h; omega))))
    refine Runs.nilCell (e := 5) (sz := 1) 2 4 (by decide) rfl rfl ?_
    refine Runs.nilCell (e := 3) (sz := 1) 2 6 (by decide) rfl rfl ?_
    exact Runs.ctls 30 rfl (Runs.ret (ends_rul (r := ⟨a ++ itoaS d.length, 6, 0, false, [], l, [], ks⟩) (x := 6) (y := 4) (z := 7) (w := 5) hm rfl rfl rfl hi rfl rfl rfl rfl rfl rfl (by decide) (by decide) (ruleD6 ha (by omega) (by rw [show (l.length : Int) = c by omega]; exact hl) hkl hks)))
set_option maxHeartbeats 8000000 in
theorem l4Make7_d (b : List UInt8) (hb : b.length ≤ 1048576) (d : Des) (hd : d.length ≤ 24) (r0 : Rul) (h0 : d[0]? = some r0) (hk0 : r0.kind = 1) : Drw Tryd.prog 65 43 b [desR d, .int 7] (QRul (RuleD d 7)) := by
  have hlm : (d.map rulR).length = d.length := List.length_map ..
  have hF := spec_FormatInt (d.length : Int) (by constructor <;> omega)
  have hlen := itoa_len (d.length : Int) (by omega) (by omega)
  have hfs : (⟨(Lib.itoa (d.length : Int)).toArray⟩ : ByteArray).size ≤ 20 := by rw [ba_size]; exact hlen
  refine drw_enter Tryd.func43 rfl _ Tryd.ntmps43 (by simp) fun C g u i h hn hm hu hi => ?_
  repeat' (first
 | (refine op_drawS (l1Str_d b hb baseA (by decide) (by decide)) rfl hu hi rfl (LendsPL.ros [strsR baseA]) rfl (by first | rfl | repeat' (first | rfl | exact clns_ro _ | refine clnO_cons ?_ ?_)) (tl hn rfl) ?_; intro i h a hi ha; have hsz := baseA_size a ha)
 | (refine op_drawI (l4Integer_d b hb d hd r0 h0 hk0) rfl hu hi rfl (LendsPL.ros [desR d]) rfl (by first | rfl | repeat' (first | rfl | exact clns_ro _ | refine clnO_cons ?_ ?_)) (tl hn rfl) ?_; intro i h x0 hi hx0)
 | refine op_build (t := 101) rfl rfl rfl rfl rfl (tl hn rfl) ?_
 | (refine op_drawI (l1Below_d b hb _ (by omega)) rfl hu hi rfl (LendsPL.ros [.int _]) rfl (by first | rfl | repeat' (first | rfl | exact clns_ro _ | refine clnO_cons ?_ ?_)) (tl hn rfl) ?_; intro i h x hi hx; obtain ⟨hxa, hxb⟩ := hx.2 (by omega))
 | ((first | refine RunsL.pe hn rfl rfl rfl ?_ | refine RunsD.pe rfl rfl ?_); first
 | refine ⟨_, pu_len_seqN d.length rfl hlm, ?_⟩)
 | refine RunsL.step tabOk hn rfl ?_
 | refine RunsL.nil ?_
 | refine Runs.toRegion 30 rfl ?_
 | ((first | refine RunsL.pe hn rfl rfl rfl ?_ | refine RunsD.pe rfl rfl ?_); first
 | refine ⟨_, pu_callR hF rfl, ?_⟩
 | refine ⟨_, pu_cat rfl rfl (by omega), ?_⟩
 | refine ⟨_, pu_buildS rfl, ?_⟩)
 | (refine Runs.ctls 30 rfl ?_; first | refine Runs.cond_t rfl ?_ | refine Runs.cond_f rfl ?_ | ((first | refine Runs.cond_yes rfl ?_ ?_ | refine Runs.cond_nno rfl ?_ ?_); · first | omega | rfl | assumption | (simp only [List.length_map]; omega)) | ((first | refine Runs.cond_no rfl ?_ ?_ | refine Runs.cond_nyes rfl ?_ ?_); · first | omega | rfl | assumption | (simp only [List.length_map]; omega)) | refine Runs.ret (ends_ro hm rfl rfl ?_) | exact Runs.ret (ends_cellR hm rfl rfl rfl (Nat.le_of_ble_eq_true rfl) rfl rfl))
 | refine op_box rfl (tl hn rfl) ?_
 | refine op_storeF rfl rfl rfl rfl (Nat.le_of_ble_eq_true rfl) ?_
 | refine op_alloc (tl hn rfl) ?_
 | refine op_storeN rfl rfl rfl rfl (Nat.le_of_ble_eq_true rfl) ?_
 | ((first | refine RunsL.pe hn rfl rfl rfl ?_ | refine RunsD.pe rfl rfl ?_); first
 | refine ⟨_, pu_add rfl rfl (by omega), ?_⟩
 | refine ⟨_, pu_indexAddr_map rfl rfl (by omega) (by assumption), ?_⟩
 | refine ⟨_, pu_sub rfl rfl (by omega), ?_⟩
 | refine ⟨_, pu_pick_b rfl rfl rfl, ?_⟩
 | refine ⟨_, pu_mul rfl rfl (by omega), ?_⟩
 | refine ⟨_, pu_build rfl rfl rfl rfl rfl rfl, ?_⟩)
 | ((first | refine RunsL.guard_dec rfl rfl rfl ?_ ?_ | refine RunsL.guard_ndec rfl rfl rfl ?_ ?_ | refine RunsL.guard_nb rfl rfl rfl ?_ ?_ | refine RunsL.guard_b rfl rfl rfl ?_ ?_ | refine RunsD.guard_dec rfl rfl rfl ?_ ?_ | refine RunsD.guard_ndec rfl rfl rfl ?_ ?_ | refine RunsD.guard_nb rfl rfl rfl ?_ ?_ | refine RunsD.guard_b rfl rfl rfl ?_ ?_) <;> intro h <;> try (exfalso; first | omega | contradiction | (simp only [List.length_map] at h; omega))))
  obtain ⟨c, hc⟩ : ∃ c : Nat, 1 + x = c := ⟨(1 + x).toNat, by omega⟩
  rw [hc]
  refine Runs.nilCell (e := 3) (sz := 1) 3 6 (by decide) rfl rfl ?_
  refine Runs.loopI 30 rfl (fun m E z => ∃ (ts ks : List Int) (i h : Int), ts.length + m = c ∧ ks.length = ts.length ∧ (∀ (j : Nat) z, ts[j]? = some z → 4 * (j : Int) ≤ z ∧ z ≤ 4 * j + 3) ∧ (∀ z ∈ ks, InD d z) ∧ CurOk b i ∧ E = [(0, .pin 0 0 g), (6, .obj 2 0), (7, .int d.length), (8, .obj 3 0), (10, .int m)] ∧
    z = [curOb 65 u i h, ⟨26, 0, [.ro (rulsR d)]⟩, ⟨57, 0, [.str ⟨#[]⟩, .int 0, .int 0, .bool false, .nil, .nil, .nil, .nil]⟩, ⟨57, 0, [.str (a ++ itoaS d.length), .int 7, .int 0, .bool false, .nil, .nil, .own 5, .own 4]⟩, ⟨3, 1, ((x0 :: ks).map RV.int).map .ro⟩, ⟨3, 1, (ts.map RV.int).map .ro⟩]) c [(0, .pin 0 0 g), (6, .obj 2 0), (7, .int d.length), (8, .obj 3 0), (10, .int c)] ⟨rfl, rfl, rfl, rfl, rfl, trivial⟩ ⟨[], [], i, h, by simp, rfl, by simp, by simp, hi, rfl, rfl⟩ fun m E z ⟨ts, ks, i, h, hlc, hkl, ht, hks, hi, hE, hz⟩ ih => ?_
  subst hE; subst hz
  have htt : (ts.map RV.int).length = ts.length := List.length_map ..
  have hta : ((ts.map RV.int).map AV.ro).length = ts.length := by simp
  have hkk : ((x0 :: ks).map RV.int).length = ks.length + 1 := by simp
  by_cases hm0 : 0 < m
  · repeat' (first
 | refine Runs.toLate (id := 26) 30 [0, 1, 2, 3, 4, 5, 6] [7, 8, 9, 10, 11, 12] mixed rfl rfl (by kernel_rfl) (by kernel_rfl) (by kernel_rfl) ?_
 | refine Runs.toLate (id := 27) 30 [0, 1, 2, 3] [4, 5, 6, 7, 8] mixed rfl rfl (by kernel_rfl) (by kernel_rfl) (by kernel_rfl) ?_
 | (refine RunsP.drawI (t := 117) (l1Below_d b hb 4 (by omega)) rfl hu hi (fun _ => LendsPL.ros [.int 4]) rfl (by first | rfl | repeat' (first | rfl | exact clns_ro _ | refine clnO_cons ?_ ?_)) (tl hn rfl) ?_; intro i h q hi hq; obtain ⟨hqa, hqb⟩ := hq.2 (by omega))
 | (refine RunsP.drawI (t := 126) (l1Below_d b hb (d.length : Int) (by omega)) rfl hu hi (fun _ => LendsPL.ros [.int (d.length : Int)]) rfl (by first | rfl | repeat' (first | rfl | exact clns_ro _ | refine clnO_cons ?_ ?_)) (tl hn rfl) ?_; intro i h y hi hy; have hyd : InD d y := ⟨fun e => hy.1 (by omega), fun e => hy.2 (by omega)⟩)
 | refine RunsH.pur (fun _ _ => pu_auto tabOk rfl) rfl (tl hn rfl) rfl ?_
 | refine RunsH.pur (fun _ _ => pu_len_own (n := ts.length) rfl rfl (by rw [hta, Nat.mul_one])) rfl (tl hn rfl) rfl ?_
 | refine RunsH.pur (fun _ _ => pu_mul rfl rfl (by omega)) rfl (tl hn rfl) rfl ?_
 | refine RunsH.pur (fun _ _ => pu_add rfl rfl (by omega)) rfl (tl hn rfl) rfl ?_
 | refine RunsH.pur (fun _ _ => pu_build rfl rfl rfl rfl rfl rfl) rfl (tl hn rfl) rfl ?_
 | refine RunsH.pur (fun _ _ => pu_add rfl rfl (by omega)) rfl (tl hn rfl) rfl ?_
 | refine RunsH.pur (fun _ _ => pu_sub rfl rfl (by omega)) rfl (tl hn rfl) rfl ?_
 | refine RunsH.pur (fun _ _ => pu_mul rfl rfl (by omega)) rfl (tl hn rfl) rfl ?_
 | refine RunsH.pur (fun _ _ => pu_build rfl rfl rfl rfl rfl rfl) rfl (tl hn rfl) rfl ?_
 | refine RunsH.nil ?_
 | refine RunsP.pur (pu_auto tabOk rfl) rfl rfl (tl hn rfl) (by first | rfl | repeat' (first | rfl | exact clns_ro _ | refine clnO_cons ?_ ?_)) ?_
 | refine RunsP.pur (pu_len_own (n := ts.length) rfl rfl (by rw [hta, Nat.mul_one])) rfl rfl (tl hn rfl) (by first | rfl | repeat' (first | rfl | exact clns_ro _ | refine clnO_cons ?_ ?_)) ?_
 | refine RunsP.pur (pu_mul rfl rfl (by omega)) rfl rfl (tl hn rfl) (by first | rfl | repeat' (first | rfl | exact clns_ro _ | refine clnO_cons ?_ ?_)) ?_
 | refine RunsP.pur (pu_add rfl rfl (by omega)) rfl rfl (tl hn rfl) (by first | rfl | repeat' (first | rfl | exact clns_ro _ | refine clnO_cons ?_ ?_)) ?_
 | refine RunsP.pur (pu_build rfl rfl rfl rfl rfl rfl) rfl rfl (tl hn rfl) (by first | rfl | repeat' (first | rfl | exact clns_ro _ | refine clnO_cons ?_ ?_)) ?_
 | refine RunsP.pur (pu_add rfl rfl (by omega)) rfl rfl (tl hn rfl) (by first | rfl | repeat' (first | rfl | exact clns_ro _ | refine clnO_cons ?_ ?_)) ?_
 | refine RunsP.pur (pu_sub rfl rfl (by omega)) rfl rfl (tl hn rfl) (by first | rfl | repeat' (first | rfl | exact clns_ro _ | refine clnO_cons ?_ ?_)) ?_
 | refine RunsP.pur (pu_mul rfl rfl (by omega)) rfl rfl (tl hn rfl) (by first | rfl | repeat' (first | rfl | exact clns_ro _ | refine clnO_cons ?_ ?_)) ?_
 | refine RunsP.pur (pu_build rfl rfl rfl rfl rfl rfl) rfl rfl (tl hn rfl) (by first | rfl | repeat' (first | rfl | exact clns_ro _ | refine clnO_cons ?_ ?_)) ?_
 | refine RunsL.step tabOk hn rfl ?_
 | refine RunsL.nil ?_
 | refine Runs.toRegion 30 rfl ?_
 | refine RunsP.done 10 rfl (Nat.le_of_ble_eq_true rfl) (by kernel_rfl) (by kernel_rfl) ?_
 | refine RunsP.done 6 rfl (Nat.le_of_ble_eq_true rfl) (by kernel_rfl) (by kernel_rfl) ?_
 | (refine RunsL.junk 3 6 rfl ?_; refine op_append (t := 120) (n := ts.length) rfl rfl rfl rfl rfl rfl (by rw [htt, Nat.mul_one]) (FreeI.at_ ⟨by simp [curOb, AV.onlys, AV.only], by simp [AV.onlys, AV.only], by simp [AV.onlys, AV.only], by simp [AV.onlys, AV.only], onlys_ro _ _, onlys_ro _ _, trivial⟩) (by simp; omega) (by simp; omega) (tl hn rfl) ?_)
 | (refine RunsL.junk 3 7 rfl ?_; refine op_append (t := 128) (n := ks.length + 1) rfl rfl rfl rfl rfl rfl (by rw [hkk, Nat.mul_one]) (FreeI.at_ ⟨by simp [curOb, AV.onlys, AV.only], by simp [AV.onlys, AV.only], by simp [AV.onlys, AV.only], by simp [AV.onlys, AV.only], onlys_ro _ _, onlys_ro _ _, trivial⟩) (by simp; omega) (by simp; omega) (tl hn rfl) ?_)
 | ((first | refine RunsL.pe hn rfl rfl rfl ?_ | refine RunsD.pe rfl rfl ?_); first
 | refine ⟨_, pu_len_own (n := ts.length) rfl rfl (by rw [hta, Nat.mul_one]), ?_⟩
 | refine ⟨_, pu_mul rfl rfl (by omega), ?_⟩
 | refine ⟨_, pu_add rfl rfl (by omega), ?_⟩
 | refine ⟨_, pu_build rfl rfl rfl rfl rfl rfl, ?_⟩)
 | (refine Runs.ctls 30 rfl ?_; first | refine Runs.cond_t rfl ?_ | refine Runs.cond_f rfl ?_ | ((first | refine Runs.cond_yes rfl ?_ ?_ | refine Runs.cond_nno rfl ?_ ?_); · first | omega | rfl | assumption | (simp only [List.length_map]; omega)) | ((first | refine Runs.cond_no rfl ?_ ?_ | refine Runs.cond_nyes rfl ?_ ?_); · first | omega | rfl | assumption | (simp only [List.length_map]; omega)) | refine Runs.ret (ends_ro hm rfl rfl ?_) | exact Runs.ret (ends_cellR hm rfl rfl rfl (Nat.le_of_ble_eq_true rfl) rfl rfl))
 | refine op_box rfl (tl hn rfl) ?_
 | refine op_storeF rfl rfl rfl rfl (Nat.le_of_ble_eq_true rfl) ?_
 | refine op_alloc (tl hn rfl) ?_
 | refine op_storeN rfl rfl rfl rfl (Nat.le_of_ble_eq_true rfl) ?_
 | ((first | refine RunsL.pe hn rfl rfl rfl ?_ | refine RunsD.pe rfl rfl ?_); first
 | refine ⟨_, pu_add rfl rfl (by omega), ?_⟩
 | refine ⟨_, pu_indexAddr_map rfl rfl (by omega) (by assumption), ?_⟩
 | refine ⟨_, pu_sub rfl rfl (by omega), ?_⟩
 | refine ⟨_, pu_pick_b rfl rfl rfl, ?_⟩
 | refine ⟨_, pu_mul rfl rfl (by omega), ?_⟩
 | refine ⟨_, pu_build rfl rfl rfl rfl rfl rfl, ?_⟩)
 | ((first | refine RunsL.guard_dec rfl rfl rfl ?_ ?_ | refine RunsL.guard_ndec rfl rfl rfl ?_ ?_ | refine RunsL.guard_nb rfl rfl rfl ?_ ?_ | refine RunsL.guard_b rfl rfl rfl ?_ ?_ | refine RunsD.guard_dec rfl rfl rfl ?_ ?_ | refine RunsD.guard_ndec rfl rfl rfl ?_ ?_ | refine RunsD.guard_nb rfl rfl rfl ?_ ?_ | refine RunsD.guard_b rfl rfl rfl ?_ ?_) <;> intro h <;> try (exfalso; first | omega | contradiction | (simp only [List.length_map] at h; omega))))
    refine ih (m - 1) _ _ _ (by omega) ⟨ts ++ [4 * (ts.length : Int) + q], ks ++ [y], i, h, by simp; omega, by simp [hkl], fun j z hz => ?_, fun z hz => ?_, hi, rfl, ?_⟩ ⟨rfl, rfl, rfl, rfl, ?_, trivial⟩
    · rw [List.getElem?_append] at hz
      split at hz
      · exact ht j z hz
      · rename_i hj
        have hj' : j - ts.length = 0 := by
          have := (List.getElem?_eq_some_iff.1 hz).1
          simp at this; omega
        rw [hj'] at hz
        simp at hz
        subst hz
        omega
    · rcases List.mem_append.1 hz with h1 | h1
      · exact hks z h1
      · simp at h1; subst h1; exact hyd
    · simp
    · show AV.int _ = AV.int _
      congr 1; omega
  · have em : m = 0 := by omega
    repeat' (first
 | refine RunsL.step tabOk hn rfl ?_
 | refine RunsL.nil ?_
 | refine Runs.toRegion 30 rfl ?_
 | (refine Runs.ctls 30 rfl ?_; first | refine Runs.cond_t rfl ?_ | refine Runs.cond_f rfl ?_ | ((first | refine Runs.cond_yes rfl ?_ ?_ | refine Runs.cond_nno rfl ?_ ?_); · first | omega | rfl | assumption | (simp only [List.length_map]; omega)) | ((first | refine Runs.cond_no rfl ?_ ?_ | refine Runs.cond_nyes rfl ?_ ?_); · first | omega | rfl | assumption | (simp only [List.length_map]; omega)) | refine Runs.ret (ends_ro hm rfl rfl ?_) | exact Runs.ret (ends_cellR hm rfl rfl rfl (Nat.le_of_ble_eq_true rfl) rfl rfl))
 | refine op_box rfl (tl hn rfl) ?_
 | refine op_storeF rfl rfl rfl rfl (Nat.le_of_ble_eq_true rfl) ?_
 | refine op_alloc (tl hn rfl) ?_
 | refine op_storeN rfl rfl rfl rfl (Nat.le_of_ble_eq_true rfl) ?_
 | ((first | refine RunsL.pe hn rfl rfl rfl ?_ | refine RunsD.pe rfl rfl ?_); first
 | refine ⟨_, pu_add rfl rfl (by omega), ?_⟩
 | refine ⟨_, pu_indexAddr_map rfl rfl (by omega) (by assumption), ?_⟩
 | refine ⟨_, pu_sub rfl rfl (by omega), ?_⟩
 | refine ⟨_, pu_pick_b rfl rfl rfl, ?_⟩
 | refine ⟨_, pu_mul rfl rfl (by omega), ?_⟩
 | refine ⟨_, pu_build rfl rfl rfl rfl rfl rfl, ?_⟩)
 | ((first | refine RunsL.guard_dec rfl rfl rfl ?_ ?_ | refine RunsL.guard_ndec rfl rfl rfl ?_ ?_ | refine RunsL.guard_nb rfl rfl rfl ?_ ?_ | refine RunsL.guard_b rfl rfl rfl ?_ ?_ | refine RunsD.guard_dec rfl rfl rfl ?_ ?_ | refine RunsD.guard_ndec rfl rfl rfl ?_ ?_ | refine RunsD.guard_nb rfl rfl rfl ?_ ?_ | refine RunsD.guard_b rfl rfl rfl ?_ ?_) <;> intro h <;> try (exfalso; first | omega | contradiction | (simp only [List.length_map] at h; omega))))
    refine Runs.nilCell (e := 5) (sz := 1) 2 4 (by decide) rfl rfl ?_
    refine Runs.nilCell (e := 9) (sz := 1) 2 5 (by decide) rfl rfl ?_
    exact Runs.ctls 30 rfl (Runs.ret (ends_rul (r := ⟨a ++ itoaS d.length, 7, 0, false, [], [], ts, x0 :: ks⟩) (x := 6) (y := 7) (z := 5) (w := 4) hm rfl rfl rfl hi rfl rfl rfl rfl rfl rfl (by decide) (by decide) (ruleD7 ha (by omega) ht hx0 hkl hks)))
end Go.Proofs.YtofefjklipglhaaDoor
/- The draw of a description. -/
namespace Go.Proofs.YtofefjklipglhaaDoor
set_option linter.unusedSimpArgs false
set_option linter.unusedVariables false
set_option maxRecDepth 100000
open Go.RowKit
open AV (Mem Keeps)
structure DrawD (d : Des) : Prop where
  pos : 1 ≤ d.length
  most : d.length ≤ 6
  first : ∃ r0, d[0]? = some r0 ∧ r0.kind = 1
  rule : ∀ (j : Nat) r, d[j]? = some r → ∃ k, 1 ≤ k ∧ k ≤ 10 ∧ RuleD (d.take j) k r
theorem l4Make_d (b : List UInt8) (hb : b.length ≤ 1048576) (d : Des) (hd : d.length ≤ 24) (k : Int) (hk : 1 ≤ k ∧ k ≤ 10) (hi : k = 1 ∨ ∃ r0, d[0]? = some r0 ∧ r0.kind = 1) : Drw Tryd.prog 65 43 b [desR d, .int k] (QRul (RuleD d k)) := by
  by_cases h1 : k = 1
  · subst h1; exact l4Make1_d b hb d hd
  obtain ⟨r0, h0, hk0⟩ := hi.resolve_left h1
  have : k = 2 ∨ k = 3 ∨ k = 4 ∨ k = 5 ∨ k = 6 ∨ k = 7 ∨ k = 8 ∨ k = 9 ∨ k = 10 := by omega
  rcases this with rfl | rfl | rfl | rfl | rfl | rfl | rfl | rfl | rfl
  · exact l4Make2_d b hb d hd
  · exact l4Make3_d b hb d hd
  · exact l4Make4_d b hb d hd r0 h0 hk0
  · exact l4Make5_d b hb d hd r0 h0 hk0
  · exact l4Make6_d b hb d hd
  · exact l4Make7_d b hb d hd r0 h0 hk0
  · exact l4Make8_d b hb d hd
  · exact l4Make9_d b hb d hd
  · exact l4Make10_d b hb d hd
theorem DrawD.app {d : Des} {k : Int} {r : Rul} (h : DrawD d) (hl : d.length < 6) (hk : 1 ≤ k ∧ k ≤ 10) (hr : RuleD d k r) : DrawD (d ++ [r]) := by
  obtain ⟨r0, e0, k0⟩ := h.first
  refine ⟨by simp, by simp; omega, ⟨r0, ?_, k0⟩, fun j x hx => ?_⟩
  · rw [List.getElem?_append_left (by have := h.pos; omega)]; exact e0
  · rcases Nat.lt_or_ge j d.length with hj | hj
    · rw [List.getElem?_append_left hj] at hx
      rw [List.take_append_of_le_length (by omega)]
      exact h.rule j x hx
    · have hjl := (List.getElem?_eq_some_iff.1 hx).1
      simp only [List.length_append, List.length_singleton] at hjl
      have ej : j = d.length := by omega
      subst ej
      simp at hx; subst hx
      rw [List.take_left']
      · exact ⟨k, hk.1, hk.2, hr⟩
      · rfl
theorem DrawD.one {r : Rul} (hr : RuleD [] 1 r) : DrawD [r] := by
  refine ⟨by simp, by simp, ⟨r, rfl, hr.hkind⟩, fun j x hx => ?_⟩
  cases j with
  | zero => simp at hx; subst hx; exact ⟨1, by decide, by decide, hr⟩
  | succ j => simp at hx
set_option maxRecDepth 100000 in
instance tb_des : TB Tryd.prog 26 [(0, 1)] [.slice none 0 0] := ⟨_, _, _, rfl, rfl, rfl, rfl, by kernel_rfl, by decide⟩
def desRR (d : Des) : RR := .agg [.row 57 8 (d.map rulR).flatten]
def QDes (p : Des → Prop) (rr : RR) : Prop := ∃ d, rr = desRR d ∧ p d
theorem qdes_ok {p : Des → Prop} : ∀ rr, QDes p rr → ∃ r, Seals rr r ∧ ∃ d, r = desR d ∧ p d := by
  rintro _ ⟨d, rfl, hd⟩
  refine ⟨desR d, ?_, d, rfl, hd⟩
  unfold desRR desR rulsR
  simp only [Seals, SealsL]
  exact ⟨_, rfl, _, _, rfl, ⟨_, rfl, rfl, fun x hx => by obtain ⟨r, _, rfl⟩ := List.mem_map.1 hx; rfl⟩, rfl⟩
theorem ruls_len (d : Des) : (d.map rulR).flatten.length = d.length * 8 := by rw [flatten_len (sz := 8) fun x hx => by obtain ⟨r, _, rfl⟩ := List.mem_map.1 hx; rfl, List.length_map]
set_option maxHeartbeats 8000000 in
theorem l4Description_d (b : List UInt8) (hb : b.length ≤ 1048576) : Drw Tryd.prog 65 17 b [] (QDes DrawD) := by
  refine drw_enter Tryd.func17 rfl _ Tryd.ntmps17 (by simp) fun C g u i h hn hm hu hi => ?_
  have rl : ∀ d : Des, ∀ x ∈ d.map rulR, x.length = 8 := fun d x hx => by obtain ⟨r, _, rfl⟩ := List.mem_map.1 hx; rfl
  repeat' (first
 | refine Runs.nilCell (e := 57) (sz := 8) 2 0 (by decide) rfl rfl ?_
 | refine Runs.toLate (id := 2) 30 [0, 1, 2, 3] [4, 5, 6, 7, 8] mixed rfl rfl (by kernel_rfl) (by kernel_rfl) (by kernel_rfl) ?_
 | (refine RunsP.drawF (t := 10) (l4Make_d b hb [] (by simp) 1 (by omega) (.inl rfl)) qrul_ok rfl hu hi (fun _ => .cons (LendsP.agg (.cons (LendsP.own (i := 3) (o := ⟨57, 8, _⟩) (els := List.map rulR []) (by decide) rfl rfl (rl [])) .nil)) (.cons .ro .nil)) rfl (by first | rfl | repeat' (first | rfl | exact clns_ro _ | refine clnO_cons ?_ ?_)) (tl hn rfl) ?_; rintro i h _ hi ⟨r, rfl, hr⟩)
 | (refine op_drawI (l1Below_d b hb _ (by omega)) rfl hu hi rfl (LendsPL.ros [.int _]) rfl (by first | rfl | repeat' (first | rfl | exact clns_ro _ | refine clnO_cons ?_ ?_)) (tl hn rfl) ?_; intro i h x hi hx; obtain ⟨hxa, hxb⟩ := hx.2 (by omega))
 | refine RunsH.pur (fun _ _ => pu_auto tabOk rfl) rfl (tl hn rfl) rfl ?_
 | refine RunsH.pur (fun _ _ => pu_buildS rfl) rfl (tl hn rfl) rfl ?_
 | refine RunsH.pur (fun _ _ => pu_build rfl rfl rfl rfl rfl rfl) rfl (tl hn rfl) rfl ?_
 | refine RunsH.pur (fun _ _ => pu_add rfl rfl (by omega)) rfl (tl hn rfl) rfl ?_
 | refine RunsH.pur (fun _ _ => pu_sub rfl rfl (by omega)) rfl (tl hn rfl) rfl ?_
 | refine RunsH.pur (fun _ _ => pu_build rfl rfl rfl rfl rfl rfl) rfl (tl hn rfl) rfl ?_
 | refine RunsH.nil ?_
 | refine RunsP.pur (pu_auto tabOk rfl) rfl rfl (tl hn rfl) (by first | rfl | repeat' (first | rfl | exact clns_ro _ | refine clnO_cons ?_ ?_)) ?_
 | refine RunsP.pur (pu_buildS rfl) rfl rfl (tl hn rfl) (by first | rfl | repeat' (first | rfl | exact clns_ro _ | refine clnO_cons ?_ ?_)) ?_
 | refine RunsP.pur (pu_build rfl rfl rfl rfl rfl rfl) rfl rfl (tl hn rfl) (by first | rfl | repeat' (first | rfl | exact clns_ro _ | refine clnO_cons ?_ ?_)) ?_
 | refine RunsP.pur (pu_add rfl rfl (by omega)) rfl rfl (tl hn rfl) (by first | rfl | repeat' (first | rfl | exact clns_ro _ | refine clnO_cons ?_ ?_)) ?_
 | refine RunsP.pur (pu_sub rfl rfl (by omega)) rfl rfl (tl hn rfl) (by first | rfl | repeat' (first | rfl | exact clns_ro _ | refine clnO_cons ?_ ?_)) ?_
 | refine RunsP.pur (pu_build rfl rfl rfl rfl rfl rfl) rfl rfl (tl hn rfl) (by first | rfl | repeat' (first | rfl | exact clns_ro _ | refine clnO_cons ?_ ?_)) ?_
 | refine RunsL.step tabOk hn rfl ?_
 | refine RunsL.nil ?_
 | refine Runs.toRegion 30 rfl ?_
 | refine RunsP.done 6 rfl (Nat.le_of_ble_eq_true rfl) (by kernel_rfl) (by kernel_rfl) ?_
 | (refine RunsL.junk 2 0 rfl ?_; refine op_append (t := 12) (n := 0) (rs := []) rfl rfl rfl rfl rfl rfl rfl (FreeI.at_ ⟨by simp [curOb, AV.onlys, AV.only], by simp [AV.onlys, AV.only], ⟨trivial, trivial⟩, by simp [AV.onlys], trivial⟩) (by simp) (by simp) (tl hn rfl) ?_)
 | ((first | refine RunsL.pe hn rfl rfl rfl ?_ | refine RunsD.pe rfl rfl ?_); first
 | refine ⟨_, pu_buildS rfl, ?_⟩
 | refine ⟨_, pu_build rfl rfl rfl rfl rfl rfl, ?_⟩)
 | (refine Runs.ctls 30 rfl ?_; first | ((first | refine Runs.cond_yes rfl ?_ ?_ | refine Runs.cond_nno rfl ?_ ?_); · first | omega | rfl | assumption | (simp only [List.length_map]; omega)) | ((first | refine Runs.cond_no rfl ?_ ?_ | refine Runs.cond_nyes rfl ?_ ?_); · first | omega | rfl | assumption | (simp only [List.length_map]; omega)) | refine Runs.ret (ends_ro hm rfl rfl ?_) | exact Runs.ret (ends_cellR hm rfl rfl rfl (Nat.le_of_ble_eq_true rfl) rfl rfl))
 | refine op_storeF rfl rfl rfl rfl (Nat.le_of_ble_eq_true rfl) ?_
 | refine op_alloc (tl hn rfl) ?_
 | refine op_storeN rfl rfl rfl rfl (Nat.le_of_ble_eq_true rfl) ?_
 | ((first | refine RunsL.pe hn rfl rfl rfl ?_ | refine RunsD.pe rfl rfl ?_); first
 | refine ⟨_, pu_add rfl rfl (by omega), ?_⟩
 | refine ⟨_, pu_indexAddr_map rfl rfl (by omega) (by assumption), ?_⟩
 | refine ⟨_, pu_sub rfl rfl (by omega), ?_⟩
 | refine ⟨_, pu_pick_b rfl rfl rfl, ?_⟩
 | refine ⟨_, pu_mul rfl rfl (by omega), ?_⟩
 | refine ⟨_, pu_build rfl rfl rfl rfl rfl rfl, ?_⟩))
  obtain ⟨c, hc⟩ : ∃ c : Nat, x = c := ⟨x.toNat, by omega⟩
  subst hc
  have hD0 := DrawD.one hr
  refine Runs.loopI 30 rfl (fun m E z => ∃ (d : Des) (i h : Int), d.length + m ≤ 6 ∧ DrawD d ∧ CurOk b i ∧ E = [(0, .pin 0 0 g), (2, .obj 1 0), (3, .obj 2 0), (4, .int m)] ∧
    z = [curOb 65 u i h, ⟨26, 0, [.nil]⟩, ⟨26, 0, [.own 3]⟩, ⟨57, 8, (d.map rulR).flatten.map .ro⟩]) c [(0, .pin 0 0 g), (2, .obj 1 0), (3, .obj 2 0), (4, .int c)] ⟨rfl, rfl, rfl, rfl, trivial⟩ ⟨[r], i, h, by simp; omega, hD0, hi, rfl, rfl⟩ fun m E z ⟨d, i, h, hlc, hD, hi, hE, hz⟩ ih => ?_
  subst hE; subst hz
  have hfl := ruls_len d
  by_cases hm0 : 0 < m
  · repeat' (first
 | refine Runs.toLate (id := 6) 30 [0, 1, 2, 3, 4] [5, 6, 7, 8, 9, 10, 11] mixed rfl rfl (by kernel_rfl) (by kernel_rfl) (by kernel_rfl) ?_
 | (refine RunsP.drawI (t := 25) (l1Below_d b hb 10 (by omega)) rfl hu hi (fun _ => LendsPL.ros [.int 10]) rfl (by first | rfl | repeat' (first | rfl | exact clns_ro _ | refine clnO_cons ?_ ?_)) (tl hn rfl) ?_; intro i h q hi hq; obtain ⟨hqa, hqb⟩ := hq.2 (by omega))
 | (refine RunsP.drawF (t := 27) (l4Make_d b hb d (by omega) (1 + q) (by omega) (.inr hD.first)) qrul_ok rfl hu hi (fun _ => .cons (LendsP.agg (.cons (LendsP.own (i := 3) (o := ⟨57, 8, _⟩) (els := List.map rulR d) (by decide) rfl rfl (rl d)) .nil)) (.cons .ro .nil)) rfl (by first | rfl | repeat' (first | rfl | exact clns_ro _ | refine clnO_cons ?_ ?_)) (tl hn rfl) ?_; rintro i h _ hi ⟨r, rfl, hr⟩)
 | refine RunsH.pur (fun _ _ => pu_auto tabOk rfl) rfl (tl hn rfl) rfl ?_
 | refine RunsH.pur (fun _ _ => pu_add rfl rfl (by omega)) rfl (tl hn rfl) rfl ?_
 | refine RunsH.pur (fun _ _ => pu_build rfl rfl rfl rfl rfl rfl) rfl (tl hn rfl) rfl ?_
 | refine RunsH.pur (fun _ _ => pu_add rfl rfl (by omega)) rfl (tl hn rfl) rfl ?_
 | refine RunsH.pur (fun _ _ => pu_sub rfl rfl (by omega)) rfl (tl hn rfl) rfl ?_
 | refine RunsH.pur (fun _ _ => pu_build rfl rfl rfl rfl rfl rfl) rfl (tl hn rfl) rfl ?_
 | refine RunsH.nil ?_
 | refine RunsP.pur (pu_auto tabOk rfl) rfl rfl (tl hn rfl) (by first | rfl | repeat' (first | rfl | exact clns_ro _ | refine clnO_cons ?_ ?_)) ?_
 | refine RunsP.pur (pu_add rfl rfl (by omega)) rfl rfl (tl hn rfl) (by first | rfl | repeat' (first | rfl | exact clns_ro _ | refine clnO_cons ?_ ?_)) ?_
 | refine RunsP.pur (pu_build rfl rfl rfl rfl rfl rfl) rfl rfl (tl hn rfl) (by first | rfl | repeat' (first | rfl | exact clns_ro _ | refine clnO_cons ?_ ?_)) ?_
 | refine RunsP.pur (pu_add rfl rfl (by omega)) rfl rfl (tl hn rfl) (by first | rfl | repeat' (first | rfl | exact clns_ro _ | refine clnO_cons ?_ ?_)) ?_
 | refine RunsP.pur (pu_sub rfl rfl (by omega)) rfl rfl (tl hn rfl) (by first | rfl | repeat' (first | rfl | exact clns_ro _ | refine clnO_cons ?_ ?_)) ?_
 | refine RunsP.pur (pu_build rfl rfl rfl rfl rfl rfl) rfl rfl (tl hn rfl) (by first | rfl | repeat' (first | rfl | exact clns_ro _ | refine clnO_cons ?_ ?_)) ?_
 | refine RunsL.step tabOk hn rfl ?_
 | refine RunsL.nil ?_
 | refine Runs.toRegion 30 rfl ?_
 | refine RunsP.done 9 rfl (Nat.le_of_ble_eq_true rfl) (by kernel_rfl) (by kernel_rfl) ?_
 | (refine RunsL.junk 2 0 rfl ?_; refine op_append (t := 29) (n := d.length) rfl rfl rfl rfl rfl rfl (by rw [hfl]) (FreeI.at_ ⟨by simp [curOb, AV.onlys, AV.only], by simp [AV.onlys, AV.only], by simp [AV.onlys, AV.only], onlys_ro _ _, trivial⟩) (by simp; omega) (by simp; omega) (tl hn rfl) ?_)
 | ((first | refine RunsL.pe hn rfl rfl rfl ?_ | refine RunsD.pe rfl rfl ?_); first
 | refine ⟨_, pu_add rfl rfl (by omega), ?_⟩
 | refine ⟨_, pu_build rfl rfl rfl rfl rfl rfl, ?_⟩)
 | (refine Runs.ctls 30 rfl ?_; first | ((first | refine Runs.cond_yes rfl ?_ ?_ | refine Runs.cond_nno rfl ?_ ?_); · first | omega | rfl | assumption | (simp only [List.length_map]; omega)) | ((first | refine Runs.cond_no rfl ?_ ?_ | refine Runs.cond_nyes rfl ?_ ?_); · first | omega | rfl | assumption | (simp only [List.length_map]; omega)) | refine Runs.ret (ends_ro hm rfl rfl ?_) | exact Runs.ret (ends_cellR hm rfl rfl rfl (Nat.le_of_ble_eq_true rfl) rfl rfl))
 | refine op_storeF rfl rfl rfl rfl (Nat.le_of_ble_eq_true rfl) ?_
 | refine op_alloc (tl hn rfl) ?_
 | refine op_storeN rfl rfl rfl rfl (Nat.le_of_ble_eq_true rfl) ?_
 | ((first | refine RunsL.pe hn rfl rfl rfl ?_ | refine RunsD.pe rfl rfl ?_); first
 | refine ⟨_, pu_add rfl rfl (by omega), ?_⟩
 | refine ⟨_, pu_indexAddr_map rfl rfl (by omega) (by assumption), ?_⟩
 | refine ⟨_, pu_sub rfl rfl (by omega), ?_⟩
 | refine ⟨_, pu_pick_b rfl rfl rfl, ?_⟩
 | refine ⟨_, pu_mul rfl rfl (by omega), ?_⟩
 | refine ⟨_, pu_build rfl rfl rfl rfl rfl rfl, ?_⟩))
    refine ih (m - 1) _ _ _ (by omega) ⟨d ++ [r], i, h, by simp; omega, hD.app (by omega) (by omega) hr, hi, rfl, ?_⟩ ⟨rfl, rfl, rfl, ?_, trivial⟩
    · simp; rfl
    · show AV.int _ = AV.int _
      congr 1; omega
  · repeat' (first
 | refine RunsL.step tabOk hn rfl ?_
 | refine RunsL.nil ?_
 | refine Runs.toRegion 30 rfl ?_
 | (refine Runs.ctls 30 rfl ?_; first | ((first | refine Runs.cond_yes rfl ?_ ?_ | refine Runs.cond_nno rfl ?_ ?_); · first | omega | rfl | assumption | (simp only [List.length_map]; omega)) | ((first | refine Runs.cond_no rfl ?_ ?_ | refine Runs.cond_nyes rfl ?_ ?_); · first | omega | rfl | assumption | (simp only [List.length_map]; omega)) | refine Runs.ret (ends_ro hm rfl rfl ?_) | exact Runs.ret (ends_cellR hm rfl rfl rfl (Nat.le_of_ble_eq_true rfl) rfl rfl))
 | refine op_storeF rfl rfl rfl rfl (Nat.le_of_ble_eq_true rfl) ?_
 | refine op_alloc (tl hn rfl) ?_
 | refine op_storeN rfl rfl rfl rfl (Nat.le_of_ble_eq_true rfl) ?_
 | ((first | refine RunsL.pe hn rfl rfl rfl ?_ | refine RunsD.pe rfl rfl ?_); first
 | refine ⟨_, pu_add rfl rfl (by omega), ?_⟩
 | refine ⟨_, pu_indexAddr_map rfl rfl (by omega) (by assumption), ?_⟩
 | refine ⟨_, pu_sub rfl rfl (by omega), ?_⟩
 | refine ⟨_, pu_pick_b rfl rfl rfl, ?_⟩
 | refine ⟨_, pu_mul rfl rfl (by omega), ?_⟩
 | refine ⟨_, pu_build rfl rfl rfl rfl rfl rfl, ?_⟩))
    exact Runs.ctls 30 rfl (Runs.ret (endsD1 hm rfl rfl rfl hi (.agg [.own 3]) (by
      simp only [ResV]
      exact ⟨1, 0, _, rfl, rfl, .inr ⟨1, by infer_instance, Nat.le_refl _, rfl⟩⟩) (desRR d) [3] (by
      simp only [desRR, Harv, Harvs]
      exact ⟨_, rfl, _, _, [3], [], rfl, rfl, ⟨3, rfl, rfl, rfl⟩, rfl, rfl⟩) (by decide) (by decide) ⟨d, rfl, hD⟩))
end Go.Proofs.YtofefjklipglhaaDoor
/- What is drawn is valid: plain laws; the draw of a description as a call. -/
namespace Go.Proofs.YtofefjklipglhaaDoor
set_option linter.unusedSimpArgs false
set_option linter.unusedVariables false
set_option maxRecDepth 100000
open Go.RowKit
theorem itoaS_one {n : Nat} (h : n < 10) : itoaS (n : Int) = ⟨#[UInt8.ofNat (48 + n)]⟩ := by
  unfold itoaS Lib.itoa
  rw [if_neg (by omega), Int.toNat_natCast, Lib.decDigits_one h]
theorem ba_inv {s : ByteArray} {k : Nat} {c : UInt8} (h : s[k]? = some c) : s.data.toList[k]? = some c := by
  rw [Array.getElem?_toList]
  have hk : k < s.size := by
    rcases Nat.lt_or_ge k s.size with h' | h'
    · exact h'
    · rw [getElem?_neg s k (by omega)] at h; cases h
  rw [getElem?_pos s k hk] at h
  injection h with h
  rw [Array.getElem?_eq_getElem (show k < s.data.size from hk)]
  exact congrArg some h
theorem cat_data (a : ByteArray) (x : UInt8) : (a ++ (⟨#[x]⟩ : ByteArray)).data.toList = a.data.toList ++ [x] := by simp
theorem ncat_size (a : ByteArray) (x : UInt8) : (a ++ (⟨#[x]⟩ : ByteArray)).size = a.size + 1 := by rw [ByteArray.size_append]; rfl
theorem ba_len (s : ByteArray) : s.data.toList.length = s.size := by rw [Array.length_toList]; rfl
def Low (a : ByteArray) : Prop := 1 ≤ a.size ∧ a.size ≤ 4 ∧ ∀ x ∈ a.data.toList, 97 ≤ x.toNat ∧ x.toNat ≤ 122
theorem baseA_low : ∀ a ∈ baseA, Low a := by
  intro x hx
  simp only [baseA, List.mem_cons, List.not_mem_nil, or_false] at hx
  rcases hx with rfl | rfl | rfl | rfl | rfl <;> exact ⟨by decide, by decide, by decide⟩
theorem baseP_low : ∀ a ∈ baseP, Low a := by
  intro x hx
  simp only [baseP, List.mem_cons, List.not_mem_nil, or_false] at hx
  rcases hx with rfl | rfl | rfl <;> exact ⟨by decide, by decide, by decide⟩
theorem nm_cat {a : ByteArray} (h : Low a) {n : Nat} (hn : n < 10) : IsNm (a ++ itoaS (n : Int)) := by
  rw [itoaS_one hn]
  refine ⟨by rw [ncat_size]; omega, by rw [ncat_size]; have := h.2.1; omega, fun i c hc => ?_⟩
  have h1 := ba_inv hc
  rw [cat_data] at h1
  have hal := ba_len a
  rcases Nat.lt_or_ge i a.size with hi | hi
  · rw [List.getElem?_append_left (by omega)] at h1
    have := h.2.2 c (List.mem_of_getElem? h1)
    exact .inl this
  · have hil := (List.getElem?_eq_some_iff.1 h1).1
    simp only [List.length_append, List.length_singleton] at hil
    have ei : i = a.data.toList.length := by omega
    subst ei
    rw [List.getElem?_append_right (Nat.le_refl _), Nat.sub_self] at h1
    have h1' : UInt8.ofNat (48 + n) = c := by simpa only [List.getElem?_cons_zero, Option.some.injEq] using h1
    subst h1'
    have := h.1
    refine .inr ⟨?_, ?_, by omega⟩ <;> (rw [UInt8.toNat_ofNat']; omega)
theorem cat_inj {a a' : ByteArray} {n n' : Nat} (hn : n < 10) (hn' : n' < 10) (h : a ++ itoaS (n : Int) = a' ++ itoaS (n' : Int)) : n = n' := by
  rw [itoaS_one hn, itoaS_one hn'] at h
  have h1 := congrArg (fun s : ByteArray => s.data.toList.getLast?) h
  simp only [cat_data, List.getLast?_append, List.getLast?_singleton, Option.some_or, Option.some.injEq] at h1
  have h2 := congrArg UInt8.toNat h1
  rw [UInt8.toNat_ofNat', UInt8.toNat_ofNat'] at h2
  omega
theorem ncat_le {a : ByteArray} (h : Low a) {n : Nat} (hn : n < 10) : (a ++ itoaS (n : Int)).size ≤ 5 := by
  rw [itoaS_one hn, ncat_size]; have := h.2.1; omega
theorem IsInt.up {d : Des} {j : Nat} {x : Int} (h : IsInt (d.take j) x) : IsInt d x ∧ x < j := by
  obtain ⟨h1, h2, r, h3, h4⟩ := h
  rw [List.length_take] at h2
  have hj : x.toNat < j := by omega
  rw [List.getElem?_take_of_lt hj] at h3
  exact ⟨⟨h1, by omega, r, h3, h4⟩, by omega⟩
structure IsInt' (d : Des) (x : Int) : Prop where
  int : IsInt d x
  lim : 255 ≤ lim d x
theorem DrawD.int {d : Des} (h : DrawD d) {x : Int} (hx : IsInt d x) : 255 ≤ lim d x := by
  obtain ⟨h1, h2, r, h3, h4⟩ := hx
  obtain ⟨k, k1, k2, hr⟩ := h.rule _ r h3
  have ek : k = 1 := by rw [← hr.hkind]; exact h4
  have hs := hr.hsize.1 ek
  rw [lim_yes h3 ⟨h1, h4, hs.1, by omega⟩]
  have := @pow8_le r.size
  omega
section
variable {d : Des} (h : DrawD d) {j : Nat} {r : Rul} (hj : d[j]? = some r)
include h hj
theorem DrawD.kinds : ∃ k, 1 ≤ k ∧ k ≤ 10 ∧ RuleD (d.take j) k r ∧ r.kind = k ∧ (d.take j).length = j ∧ j < d.length := by
  obtain ⟨k, k1, k2, hr⟩ := h.rule j r hj
  have hjl := (List.getElem?_eq_some_iff.1 hj).1
  exact ⟨k, k1, k2, hr, hr.hkind, by rw [List.length_take]; omega, hjl⟩
theorem DrawD.kid : ∀ z ∈ r.kids, 0 ≤ z ∧ z < j := by
  obtain ⟨k, k1, k2, hr, hk, hl, hjl⟩ := h.kinds hj
  have hInt : ∀ x, IsInt (d.take j) x → 0 ≤ x ∧ x < j := fun x hx => ⟨hx.1, hx.up.2⟩
  have hpos : 2 ≤ k → 0 < j := fun h2 => by
    rcases Nat.eq_zero_or_pos j with e | e
    · subst e
      obtain ⟨r0, e0, k0⟩ := h.first
      rw [e0] at hj; injection hj with hj; subst hj
      omega
    · exact e
  have hIn : 2 ≤ k → ∀ x, InD (d.take j) x → 0 ≤ x ∧ x < j := fun h2 x hx => by
    have := hx.2 (by rw [hl]; exact hpos h2)
    rw [hl] at this; exact this
  intro z hz
  obtain ⟨g4, g5, g6, g7, g8, g1⟩ := hr.hkids
  have hc : k = 1 ∨ k = 2 ∨ k = 3 ∨ k = 4 ∨ k = 5 ∨ k = 6 ∨ k = 7 ∨ k = 8 ∨ k = 9 ∨ k = 10 := by omega
  rcases hc with e | e | e | e | e | e | e | e | e | e
  · rw [g1 (.inl e)] at hz; simp at hz
  · rw [g1 (.inr (.inl e))] at hz; simp at hz
  · rw [g1 (.inr (.inr (.inl e)))] at hz; simp at hz
  · obtain ⟨x, h1, e1⟩ := g4 e
    rw [e1] at hz; simp at hz; subst hz; exact hInt _ h1
  · obtain ⟨x, y, h1, h2, e1⟩ := g5 e
    rw [e1] at hz; simp at hz
    rcases hz with rfl | rfl
    · exact hInt _ h1
    · exact hIn (by omega) _ h2
  · exact hIn (by omega) _ ((g6 e).2 z hz)
  · obtain ⟨x, l, h1, _, h2, e1⟩ := g7 e
    rw [e1] at hz
    rcases List.mem_cons.1 hz with rfl | hz
    · exact hInt _ h1
    · exact hIn (by omega) _ (h2 z hz)
  · obtain ⟨y, h2, e1⟩ := g8 (.inl e)
    rw [e1] at hz; simp at hz; subst hz; exact hIn (by omega) _ h2
  · obtain ⟨y, h2, e1⟩ := g8 (.inr e)
    rw [e1] at hz; simp at hz; subst hz; exact hIn (by omega) _ h2
  · rw [g1 (.inr (.inr (.inr e)))] at hz; simp at hz
theorem DrawD.name : ∃ a, Low a ∧ r.name = a ++ itoaS (j : Int) := by
  obtain ⟨k, k1, k2, hr, hk, hl, hjl⟩ := h.kinds hj
  obtain ⟨a, ha, e⟩ := hr.hname
  rw [hl] at e
  exact ⟨a, baseA_low a ha, e⟩
theorem DrawD.kindOk : KindOk d r := by
  obtain ⟨k, k1, k2, hr, hk, hl, hjl⟩ := h.kinds hj
  have hlit : r.little = false ∨ r.kind = 1 := by
    cases e : r.little
    · exact .inl rfl
    · exact .inr (hk.trans (hr.hlittle e).1)
  have hbytes : k ≠ 2 → k ≠ 10 → r.bytes.length = 0 := fun a b => by rw [hr.hbytes.2.2 a b]; rfl
  have hnames : k ≠ 6 → r.names.length = 0 := fun a => by rw [hr.hnames.2 a]; rfl
  have htags : k ≠ 7 → r.tags.length = 0 := fun a => by rw [hr.htags.2 a]; rfl
  have hsize : k ≠ 1 → k ≠ 3 → r.size = 0 := hr.hsize.2.2
  obtain ⟨g4, g5, g6, g7, g8, g1⟩ := hr.hkids
  have hc : k = 1 ∨ k = 2 ∨ k = 3 ∨ k = 4 ∨ k = 5 ∨ k = 6 ∨ k = 7 ∨ k = 8 ∨ k = 9 ∨ k = 10 := by omega
  rcases hc with e | e | e | e | e | e | e | e | e | e
  · refine .inl ⟨by omega, ⟨⟨.inl rfl, .inr (hbytes (by omega) (by omega)), .inr (hnames (by omega)), .inr (htags (by omega)), .inr ?_⟩, hlit⟩, ?_, ?_⟩
    · rw [g1 (.inl e)]; rfl
    · have := hr.hsize.1 e; unfold InR; omega
    · cases e' : r.little
      · exact .inl rfl
      · exact .inr (hr.hlittle e').2
  · refine .inr (.inl ⟨by omega, ⟨⟨.inr (hsize (by omega) (by omega)), .inl rfl, .inr (hnames (by omega)), .inr (htags (by omega)), .inr ?_⟩, hlit⟩, ?_⟩)
    · rw [g1 (.inr (.inl e))]; rfl
    · have := hr.hbytes.1 e; unfold InR; omega
  · refine .inr (.inr (.inl ⟨by omega, ⟨⟨.inl rfl, .inr (hbytes (by omega) (by omega)), .inr (hnames (by omega)), .inr (htags (by omega)), .inr ?_⟩, hlit⟩, ?_⟩))
    · rw [g1 (.inr (.inr (.inl e)))]; rfl
    · have := hr.hsize.2.1 e; unfold InR; omega
  · obtain ⟨x, h1, e1⟩ := g4 e
    have := h.int h1.up.1
    refine .inr (.inr (.inr (.inl ⟨by omega, ⟨⟨.inr (hsize (by omega) (by omega)), .inr (hbytes (by omega) (by omega)), .inr (hnames (by omega)), .inr (htags (by omega)), .inr ?_⟩, hlit⟩, ?_⟩)))
    · rw [e1]; rfl
    · rw [e1]; show 0 < lim d x; omega
  · obtain ⟨x, y, h1, h2, e1⟩ := g5 e
    have := h.int h1.up.1
    refine .inr (.inr (.inr (.inr (.inl ⟨by omega, ⟨⟨.inr (hsize (by omega) (by omega)), .inr (hbytes (by omega) (by omega)), .inr (hnames (by omega)), .inr (htags (by omega)), .inr ?_⟩, hlit⟩, ?_⟩))))
    · rw [e1]; rfl
    · rw [e1]; show 0 < lim d x; omega
  · obtain ⟨n1, n2, n3⟩ := hr.hnames.1 e
    refine .inr (.inr (.inr (.inr (.inr (.inl ⟨by omega, ⟨⟨.inr (hsize (by omega) (by omega)), .inr (hbytes (by omega) (by omega)), .inl rfl, .inr (htags (by omega)), .inr ?_⟩, hlit⟩, n1, by omega, fun i x hx => ?_⟩)))))
    · rw [(g6 e).1]
    · have hil := (List.getElem?_eq_some_iff.1 hx).1
      obtain ⟨a, ha, rfl⟩ := n3 i x hx
      have e1 : ((r.names.length : Int) - i) = ((r.names.length - i : Nat) : Int) := by omega
      rw [e1]
      refine ⟨nm_cat (baseP_low a ha) (by omega), fun hm => ?_⟩
      obtain ⟨m, hm', hm⟩ := List.mem_take_iff_getElem.1 hm
      obtain ⟨a', ha', e2⟩ := n3 m _ (List.getElem?_eq_getElem (by omega))
      rw [hm, show ((r.names.length : Int) - m) = ((r.names.length - m : Nat) : Int) by omega] at e2
      have := cat_inj (by omega) (by omega) e2
      omega
  · obtain ⟨t1, t2, t3⟩ := hr.htags.1 e
    obtain ⟨x, l, h1, h2, h3, e1⟩ := g7 e
    have hlim := h.int h1.up.1
    refine .inr (.inr (.inr (.inr (.inr (.inr (.inl ⟨by omega, ⟨⟨.inr (hsize (by omega) (by omega)), .inr (hbytes (by omega) (by omega)), .inr (hnames (by omega)), .inl rfl, .inl (by decide)⟩, hlit⟩, ?_, t1, by omega, fun i z hz => ?_⟩))))))
    · rw [e1, List.length_cons, h2]
    · have hil := (List.getElem?_eq_some_iff.1 hz).1
      have := t3 i z hz
      refine ⟨by omega, ?_, fun y hi hy => ?_⟩
      · rw [e1]; show z ≤ lim d x; omega
      · have := t3 (i - 1) y hy
        omega
  · obtain ⟨y, h2, e1⟩ := g8 (.inl e)
    refine .inr (.inr (.inr (.inr (.inr (.inr (.inr (.inl ⟨.inl (by omega), ⟨⟨.inr (hsize (by omega) (by omega)), .inr (hbytes (by omega) (by omega)), .inr (hnames (by omega)), .inr (htags (by omega)), .inr ?_⟩, hlit⟩⟩)))))))
    rw [e1]; rfl
  · obtain ⟨y, h2, e1⟩ := g8 (.inr e)
    refine .inr (.inr (.inr (.inr (.inr (.inr (.inr (.inl ⟨.inr (by omega), ⟨⟨.inr (hsize (by omega) (by omega)), .inr (hbytes (by omega) (by omega)), .inr (hnames (by omega)), .inr (htags (by omega)), .inr ?_⟩, hlit⟩⟩)))))))
    rw [e1]; rfl
  · obtain ⟨x, hx, eb⟩ := hr.hbytes.2.1 e
    refine .inr (.inr (.inr (.inr (.inr (.inr (.inr (.inr ⟨by omega, ⟨⟨.inr (hsize (by omega) (by omega)), .inl rfl, .inr (hnames (by omega)), .inr (htags (by omega)), .inr ?_⟩, hlit⟩, ?_, ?_⟩)))))))
    · rw [g1 (.inr (.inr (.inr e)))]; rfl
    · rw [eb]; rfl
    · rw [eb]
      simp only [List.mem_cons, List.not_mem_nil, or_false] at hx
      rcases hx with rfl | rfl | rfl | rfl <;> decide
end
theorem DrawD.good {d : Des} (h : DrawD d) : Good' d := by
  refine ⟨h.pos, by have := h.most; omega, fun j hj => ?_⟩
  obtain ⟨r, hr⟩ : ∃ r, d[j]? = some r := ⟨_, List.getElem?_eq_getElem hj⟩
  have hm := h.most
  refine (ruleAt_iff (by omega) (by simpa using hr)).2 ?_
  rw [Int.toNat_natCast]
  obtain ⟨a, ha, en⟩ := h.name hr
  refine ⟨fun k x hk hx e => ?_, fun k z hz => h.kid hr z (List.mem_of_getElem? hz), by rw [en]; exact nm_cat ha (by omega), h.kindOk hr⟩
  obtain ⟨a', ha', en'⟩ := h.name hx
  rw [en, en'] at e
  have := cat_inj (by omega) (by omega) e
  omega
theorem sum_le_mul {α : Type} (f : α → Nat) (c : Nat) : ∀ l : List α, (∀ x ∈ l, f x ≤ c) → (l.map f).sum ≤ l.length * c
  | [], _ => by simp
  | x :: l, h => by
    have h1 := h x (by simp)
    have h2 := sum_le_mul f c l fun y hy => h y (by simp [hy])
    rw [List.map_cons, List.sum_cons, List.length_cons, Nat.succ_mul]; omega
section
variable {d : Des} (h : DrawD d) {j : Nat} {r : Rul} (hj : d[j]? = some r)
include h hj
theorem DrawD.lens : r.name.size ≤ 5 ∧ r.bytes.length ≤ 3 ∧ r.names.length ≤ 3 ∧ (∀ s ∈ r.names, s.size ≤ 5) ∧ r.tags.length ≤ 3 ∧ r.kids.length ≤ 4 ∧ (∀ z ∈ r.tags, 0 ≤ z ∧ z ≤ 12) ∧ 0 ≤ r.size ∧ r.size ≤ 4 := by
  obtain ⟨k, k1, k2, hr, hk, hl, hjl⟩ := h.kinds hj
  have hm := h.most
  obtain ⟨a, ha, en⟩ := h.name hj
  have hnm : r.names.length ≤ 3 ∧ ∀ s ∈ r.names, s.size ≤ 5 := by
    by_cases e : k = 6
    · obtain ⟨n1, n2, n3⟩ := hr.hnames.1 e
      refine ⟨n2, fun s hs => ?_⟩
      obtain ⟨i, hi⟩ := List.mem_iff_getElem?.1 hs
      have hil := (List.getElem?_eq_some_iff.1 hi).1
      obtain ⟨b, hb, rfl⟩ := n3 i s hi
      rw [show ((r.names.length : Int) - i) = ((r.names.length - i : Nat) : Int) by omega]
      exact ncat_le (baseP_low b hb) (by omega)
    · rw [hr.hnames.2 e]; simp
  have htg : r.tags.length ≤ 3 ∧ ∀ z ∈ r.tags, 0 ≤ z ∧ z ≤ 12 := by
    by_cases e : k = 7
    · obtain ⟨n1, n2, n3⟩ := hr.htags.1 e
      refine ⟨n2, fun s hs => ?_⟩
      obtain ⟨i, hi⟩ := List.mem_iff_getElem?.1 hs
      have hil := (List.getElem?_eq_some_iff.1 hi).1
      have := n3 i s hi
      omega
    · rw [hr.htags.2 e]; simp
  have hbs : r.bytes.length ≤ 3 := by
    by_cases e : k = 2
    · exact (hr.hbytes.1 e).2
    · by_cases e' : k = 10
      · obtain ⟨x, _, eb⟩ := hr.hbytes.2.1 e'
        rw [eb]; simp
      · rw [hr.hbytes.2.2 e e']; simp
  have hkd : r.kids.length ≤ 4 := by
    obtain ⟨g4, g5, g6, g7, g8, g1⟩ := hr.hkids
    have hc : k = 1 ∨ k = 2 ∨ k = 3 ∨ k = 4 ∨ k = 5 ∨ k = 6 ∨ k = 7 ∨ k = 8 ∨ k = 9 ∨ k = 10 := by omega
    rcases hc with e | e | e | e | e | e | e | e | e | e
    · rw [g1 (.inl e)]; simp
    · rw [g1 (.inr (.inl e))]; simp
    · rw [g1 (.inr (.inr (.inl e)))]; simp
    · obtain ⟨x, _, e1⟩ := g4 e; rw [e1]; simp
    · obtain ⟨x, y, _, _, e1⟩ := g5 e; rw [e1]; simp
    · rw [(g6 e).1]; omega
    · obtain ⟨x, l, _, h2, _, e1⟩ := g7 e; rw [e1, List.length_cons, h2]; omega
    · obtain ⟨y, _, e1⟩ := g8 (.inl e); rw [e1]; simp
    · obtain ⟨y, _, e1⟩ := g8 (.inr e); rw [e1]; simp
    · rw [g1 (.inr (.inr (.inr e)))]; simp
  have hsz : 0 ≤ r.size ∧ r.size ≤ 4 := by
    by_cases e : k = 1
    · have := hr.hsize.1 e; omega
    · by_cases e' : k = 3
      · have := hr.hsize.2.1 e'; omega
      · have := hr.hsize.2.2 e e'; omega
  exact ⟨by rw [en]; exact ncat_le ha (by omega), hbs, hnm.1, hnm.2, htg.1, hkd, htg.2, hsz.1, hsz.2⟩
theorem DrawD.ruleOk : r.Ok := by
  obtain ⟨l1, l2, l3, l4, l5, l6, l7, l8, l9⟩ := h.lens hj
  obtain ⟨k, k1, k2, hr, hk, hl, hjl⟩ := h.kinds hj
  have hm := h.most
  have hkd := h.kid hj
  have mx : maxLen = 4611686018427387904 ∨ 10 ≤ maxLen := .inr (by decide)
  refine ⟨by unfold I64; omega, by unfold I64; omega, fun z hz => by have := l7 z hz; unfold I64; omega, fun z hz => by have := hkd z hz; unfold I64; omega, ?_⟩
  have hx : 10 ≤ maxLen := by decide
  exact ⟨by omega, by omega, by omega, fun s hs => by have := l4 s hs; omega, by omega, by omega, trivial⟩
theorem DrawD.ruleTotal : r.total ≤ 40 := by
  obtain ⟨l1, l2, l3, l4, l5, l6, l7, l8, l9⟩ := h.lens hj
  have := sum_le_mul ByteArray.size 5 r.names l4
  unfold Rul.total
  omega
end
theorem DrawD.desOk {d : Des} (h : DrawD d) : DesOk d :=
  ⟨fun r hr => by
    obtain ⟨j, hj⟩ := List.mem_iff_getElem?.1 hr
    exact h.ruleOk hj, by have := h.most; have hx : 10 ≤ maxLen := by decide
                          omega⟩
theorem DrawD.total {d : Des} (h : DrawD d) : dtotal d ≤ 1000 := by
  have := sum_le_mul Rul.total 40 d fun r hr => by
    obtain ⟨j, hj⟩ := List.mem_iff_getElem?.1 hr
    exact h.ruleTotal hj
  have := h.most
  unfold dtotal
  omega
theorem drawDescription_ac (b : List UInt8) (hb : b.length ≤ 1048576) : AC Tryd.prog 5 [bytesR b] fun rr => ∃ d, rr = .ro (desR d) ∧ DrawD d := by
  refine acu_enter Tryd.func5 rfl _ Tryd.ntmps5 (by simp) fun C u hn hm hu => ?_
  have hmu : ∀ x, C.mu x → x = 0 := fun x h => (hm x h).elim
  repeat' (first
 | (refine op_newU (l1New_u b hb) rfl hu (tl hn rfl) ?_; intro h hi)
 | (refine op_drawN (l4Description_d b hb) qdes_ok rfl hu hi rfl rfl rfl (by first | rfl | repeat' (first | rfl | exact clns_ro _ | refine clnO_cons ?_ ?_)) (tl hn rfl) ?_; rintro i h _ hi ⟨d, rfl, hd⟩)
 | refine RunsL.step tabOk hn rfl ?_
 | refine RunsL.nil ?_
 | refine Runs.toRegion 30 rfl ?_
 | (refine Runs.ctls 30 rfl ?_; first | ((first | refine Runs.cond_yes rfl ?_ ?_ | refine Runs.cond_nno rfl ?_ ?_); · first | omega | rfl | assumption | (simp only [List.length_map]; omega)) | ((first | refine Runs.cond_no rfl ?_ ?_ | refine Runs.cond_nyes rfl ?_ ?_); · first | omega | rfl | assumption | (simp only [List.length_map]; omega)) | refine Runs.ret (ends_ro hm rfl rfl ?_) | exact Runs.ret (ends_cellR hm rfl rfl rfl (Nat.le_of_ble_eq_true rfl) rfl rfl))
 | refine op_alloc (tl hn rfl) ?_
 | refine op_storeN rfl rfl rfl rfl (Nat.le_of_ble_eq_true rfl) ?_
    )
  exact Runs.ctls 30 rfl (Runs.ret (ends_cellR (n := 1) hm rfl rfl rfl (Nat.le_of_ble_eq_true rfl) ⟨d, rfl, hd⟩ rfl))
end Go.Proofs.YtofefjklipglhaaDoor
/- Values of the format, which are trees, over values: the laws' helpers on them, opened arguments, counting, comparing. -/
namespace Go.Proofs.YtofefjklipglhaaDoor
set_option linter.unusedSimpArgs false
set_option linter.unusedVariables false
set_option maxRecDepth 100000
open Go.RowKit
inductive Tre where
  | mk (number : Int) (bytes : List UInt8) (items : List Tre)
namespace Tre
def number : Tre → Int | .mk n _ _ => n
def bytes : Tre → List UInt8 | .mk _ b _ => b
def items : Tre → List Tre | .mk _ _ l => l
mutual
def cells : Tre → List RV
  | .mk n b l => [.int n, bytesR b, .seq 3 (cellsL l)]
def cellsL : List Tre → List (List RV)
  | [] => []
  | v :: vs => cells v :: cellsL vs
def total : Tre → Nat
  | .mk _ b l => b.length + l.length + totalL l
def totalL : List Tre → Nat
  | [] => 0
  | v :: vs => total v + totalL vs
def count : Tre → Nat
  | .mk _ _ l => 1 + countL l
def countL : List Tre → Nat
  | [] => 0
  | v :: vs => count v + countL vs
def weight : Tre → Nat
  | .mk _ b l => b.length + weightL l
def weightL : List Tre → Nat
  | [] => 0
  | v :: vs => weight v + weightL vs
def Ok : Tre → Prop
  | .mk n b l => I64 n ∧ b.length ≤ maxLen ∧ l.length ≤ maxLen ∧ OkL l
def OkL : List Tre → Prop
  | [] => True
  | v :: vs => Ok v ∧ OkL vs
end
theorem OkL_iff : ∀ {l}, OkL l ↔ ∀ x ∈ l, Ok x
  | [] => by simp [OkL]
  | v :: vs => by simp [OkL, OkL_iff (l := vs)]
theorem Ok.out {v : Tre} (h : v.Ok) : I64 v.number ∧ v.bytes.length ≤ maxLen ∧ v.items.length ≤ maxLen ∧ ∀ x ∈ v.items, x.Ok := by
  cases v; rw [Ok, OkL_iff] at h; exact h
mutual
theorem ind {P : Tre → Prop} (h : ∀ v, (∀ x ∈ v.items, P x) → P v) : ∀ v, P v
  | .mk n b l => h _ (indL h l)
theorem indL {P : Tre → Prop} (h : ∀ v, (∀ x ∈ v.items, P x) → P v) : ∀ l : List Tre, ∀ x ∈ l, P x
  | [], x, hx => by cases hx
  | v :: vs, x, hx => by
    rcases List.mem_cons.1 hx with e | e
    · rw [e]; exact ind h v
    · exact indL h vs x e
end
mutual
theorem count_le : ∀ v : Tre, v.count ≤ 1 + v.total
  | .mk n b l => by have := countL_le l; simp only [count, total]; omega
theorem countL_le : ∀ l : List Tre, countL l ≤ l.length + totalL l
  | [] => by simp [countL]
  | v :: vs => by have := count_le v; have := countL_le vs; simp only [countL, totalL, List.length_cons]; omega
end
mutual
theorem weight_le : ∀ v : Tre, v.weight ≤ v.total
  | .mk n b l => by have := weightL_le l; simp only [weight, total]; omega
theorem weightL_le : ∀ l : List Tre, weightL l ≤ totalL l
  | [] => by simp [weightL]
  | v :: vs => by have := weight_le v; have := weightL_le vs; simp only [weightL, totalL]; omega
end
end Tre
noncomputable instance : DecidableEq Tre := fun a b => Classical.propDecidable _
end Go.Proofs.YtofefjklipglhaaDoor
/- The rule of an item of a value: both sides. -/
namespace Go.Proofs.YtofefjklipglhaaDoor
set_option linter.unusedSimpArgs false
set_option linter.unusedVariables false
set_option maxRecDepth 100000
open Go.RowKit
theorem item_fields {d : Des} {x : Rul} (hk : KindOk d x) : (x.kind = 5 → x.kids.length = 2) ∧ (x.kind = 7 → TagsOk d x) ∧ (x.kind = 8 ∨ x.kind = 9 → x.kids.length = 1) ∧ (x.kind = 4 → x.kids.length = 1) := by
  unfold KindOk at hk
  refine ⟨fun e => ?_, fun e => ?_, fun e => ?_, fun e => ?_⟩
  · rcases hk with hk | hk | hk | hk | hk | hk | hk | hk | hk
    all_goals first | omega | (have := hk.2.1.kids (by omega); omega)
  · rcases hk with hk | hk | hk | hk | hk | hk | hk | hk | hk
    all_goals first | omega | exact hk.2.2
  · rcases hk with hk | hk | hk | hk | hk | hk | hk | hk | hk
    all_goals first | omega | (have := hk.2.kids (by omega); omega)
  · rcases hk with hk | hk | hk | hk | hk | hk | hk | hk | hk
    all_goals first | omega | (have := hk.2.1.kids (by omega); omega)
theorem kind_at {d : Des} (hG : Good' d) {r : Nat} {x : Rul} (h : d[r]? = some x) : KindOk d x := by
  have hi := (List.getElem?_eq_some_iff.1 h).1
  obtain ⟨_, x', h1, h2⟩ := hG.2.2 r hi
  rw [show ((r : Nat) : Int).toNat = r by rfl, h] at h1; injection h1 with h1; subst h1
  exact h2.2.2.2
theorem kids_at {d : Des} (hG : Good' d) {r : Nat} {x : Rul} (h : d[r]? = some x) {k : Nat} {z : Int} (hz : x.kids[k]? = some z) : 0 ≤ z ∧ z < r := by
  have hi := (List.getElem?_eq_some_iff.1 h).1
  obtain ⟨_, x', h1, h2⟩ := hG.2.2 r hi
  rw [show ((r : Nat) : Int).toNat = r by rfl, h] at h1; injection h1 with h1; subst h1
  simpa using h2.2.1 k z hz
theorem getD_some {l : List Int} {k : Nat} {c : Int} (h : l[k]? = some c) : (l[k]?).getD (-1) = c := by rw [h]; rfl
section
variable {P : Program} {C : Ctx} {env : Env} {σ : List Ob} {t : Nat} {ty : TypeId} {pos : String} {after : Array Edge} {gd : Option (Nat × Bool)}
theorem pu_nilCheck {x : Operand} {cs : List RV} (hx : ev env x = .ro (.rp cs)) : Pur P C ⟨some t, .nilCheck x, ty, pos, after, gd⟩ env σ (.ro (.rp cs)) :=
  Pur.of (fun a m hG hσ hH => by
    have h := hH x (by simp [Op.operands, Call.operands])
    rw [hx] at h
    have h' := h
    simp only [AV.rel, RV.rel] at h
    obtain ⟨b, o, e, hb, hok, hc⟩ := h
    exact ⟨a.eval x, by simp [execOp, e], h'⟩)
end
theorem kn_nat {d : Des} {r : Int} (h : Kn d r) : ∃ (n : Nat) (x : Rul), r = n ∧ n < d.length ∧ d[n]? = some x := by
  obtain ⟨_, h2⟩ := h
  unfold HasR at h2
  exact ⟨r.toNat, _, by omega, by omega, List.getElem?_eq_getElem (by omega)⟩
end Go.Proofs.YtofefjklipglhaaDoor
/- The code of a rule: what it is, and the program's own methods that write it. -/
namespace Go.Proofs.YtofefjklipglhaaDoor
set_option linter.unusedSimpArgs false
set_option linter.unusedVariables false
set_option maxRecDepth 100000
open Go.RowKit
open AV (Mem Keeps)
set_option maxRecDepth 100000
def callI (en : List Int) (r : Int) : Ins := ⟨9, (en[r.toNat]?).getD 0, 0⟩
def chTags (tags : List Int) (first : Int) (j : Nat) : List Ins := (List.range j).map fun i : Nat => ⟨11, (tags[i]?).getD 0, w64 (first + 2 * (i : Int))⟩
def chCalls (kids : List Int) (en : List Int) (j : Nat) : List Ins := (List.range j).flatMap fun i : Nat => (if i = 0 then [] else [⟨10, 0, 0⟩]) ++ [callI en ((kids[i + 1]?).getD 0)]
def bodyI (x : Rul) (s : Int) (en : List Int) : List Ins :=
  if x.kind = 1 then [⟨1, x.size, if x.little = true then 1 else 0⟩]
  else if x.kind = 2 then x.bytes.map fun b => ⟨2, (b.toNat : Int), 0⟩
  else if x.kind = 3 then [⟨3, x.size, 0⟩]
  else if x.kind = 4 then [callI en (x.kids.headD 0), ⟨4, 0, 0⟩]
  else if x.kind = 5 then [callI en (x.kids.headD 0), ⟨5, 40, 0⟩, ⟨6, 0, 0⟩, ⟨7, w64 (s + 6), 0⟩, callI en ((x.kids[1]?).getD 0), ⟨8, w64 (s + 3), 0⟩]
  else if x.kind = 6 then x.kids.map (callI en)
  else if x.kind = 7 then callI en (x.kids.headD 0) :: (chTags x.tags (s + (x.tags.length : Int) + 2) x.tags.length ++ ⟨12, 3, 0⟩ :: chCalls x.kids en x.tags.length)
  else if x.kind = 8 then [⟨13, w64 (s + 2), 0⟩, callI en (x.kids.headD 0)]
  else if x.kind = 9 then [⟨14, 0, 0⟩, callI en (x.kids.headD 0), ⟨15, 0, 0⟩]
  else [⟨16, (((x.bytes[0]?).getD 0).toNat : Int), 0⟩]
def ruleI (x : Rul) (s : Int) (en : List Int) : List Ins := bodyI x s en ++ [⟨10, 0, 0⟩]
theorem chTags_next {tags : List Int} {first : Int} {j : Nat} {t : Int} (h : tags[j]? = some t) : chTags tags first (j + 1) = chTags tags first j ++ [⟨11, t, w64 (first + 2 * (j : Int))⟩] := by
  unfold chTags
  rw [List.range_succ, List.map_append, List.map_singleton, h]
  rfl
theorem chCalls_next {kids en : List Int} {j : Nat} {z : Int} (h : kids[j + 1]? = some z) : chCalls kids en (j + 1) = chCalls kids en j ++ ((if j = 0 then [] else [⟨10, 0, 0⟩]) ++ [callI en z]) := by
  unfold chCalls
  rw [List.range_succ, List.flatMap_append, List.flatMap_singleton, h]
  rfl
theorem chTags_len (tags : List Int) (first : Int) (j : Nat) : (chTags tags first j).length = j := by simp [chTags]
theorem chCalls_len (kids en : List Int) : ∀ j : Nat, (chCalls kids en j).length ≤ 2 * j
  | 0 => by simp [chCalls]
  | j + 1 => by
    have h := chCalls_len kids en j
    unfold chCalls at h ⊢
    rw [List.range_succ, List.flatMap_append, List.flatMap_singleton, List.length_append, List.length_append, List.length_singleton]
    split
    · simp only [List.length_nil]; omega
    · simp only [List.length_singleton]; omega
instance tb_ins : TB Tryd.prog 38 [(0, 1), (1, 1), (2, 1)] [.int .i64 0, .int .i64 0, .int .i64 0] := ⟨_, _, _, rfl, rfl, rfl, rfl, by kernel_rfl, by decide⟩
instance tb_cmpr : TB Tryd.prog 54 [(0, 1), (1, 1), (2, 1), (3, 1)] [.slice none 0 0, .int .i64 0, .slice none 0 0, .slice none 0 0] := ⟨_, _, _, rfl, rfl, rfl, rfl, by kernel_rfl, by decide⟩
def cO (d : Des) (s : Int) (en : List Int) (code : List Ins) : List Ob := [⟨54, 0, [.ro (rulsR d), .int s, .ro (intsR en), .own 1]⟩, ⟨38, 3, (code.flatMap insR).map .ro⟩]
theorem onlys_ros (p : Nat → Prop) : ∀ rs : List RV, AV.onlys p (rs.map .ro)
  | [] => by simp [AV.onlys]
  | r :: rs => by simp only [List.map_cons, AV.onlys, AV.only]; exact ⟨trivial, onlys_ros p rs⟩
theorem cO_free (d : Des) (s : Int) (en : List Int) (code : List Ins) : FreeO 2 (cO d s en code) := by
  simp only [cO, FreeO]
  exact ⟨by simp [AV.onlys, AV.only], onlys_ros _ _, trivial⟩
theorem insR_flat (l : List Ins) : (l.flatMap insR).length = l.length * 3 := by
  induction l with
  | nil => rfl
  | cons x l ih => rw [List.flatMap_cons, List.length_append, ih, insR_len, List.length_cons]; omega
theorem Runs.endA {P : Program} {C : Ctx} {fn : Func} {gs : Nat → Nat} {env : Env} {σ σ' more : List Ob} {t : Nat} (hp : look env t = .pin 0 0 (gs 0)) (hσ : σ = σ' ++ more) (hl : 0 < σ'.length) (hc : FreeO σ'.length σ') (hr : fn.results = #[]) :
    Runs P C [] (EndsA P C fn gs [0] σ' (.tup [])) ⟨env, σ⟩ :=
  Runs.shed (E' := [(t, .pin 0 0 (gs 0))]) ⟨hp, trivial⟩ hσ ⟨by simpa only [AV.only] using hl, trivial⟩ hc (Runs.end_ (endsA0 (fun i hi => by simp at hi; subst hi; exact ⟨t, 0, by simp [look]⟩) hr rfl))
set_option maxHeartbeats 2000000 in
theorem add_am (d : Des) (s : Int) (en : List Int) (code : List Ins) (op a b : Int) (hl : code.length ≤ 4194304) : AM Tryd.prog 37 (cO d s en code) [0] [.obj 0 0, .int op, .int a, .int b] (cO d s en (code ++ [⟨op, a, b⟩])) (.tup []) := by
  refine am_enter Tryd.func37 rfl _ Tryd.ntmps37 (by simp) (by simp) fun C gs hn => ?_
  have hfl := insR_flat code
  repeat' (first
 | refine RunsL.junk 0 3 rfl (op_append (n := code.length) (i := 1) rfl rfl rfl rfl rfl rfl (by rw [hfl]) (FreeI.at_ (i := 1) ⟨by simp [AV.onlys, AV.only], onlys_ros _ _, trivial⟩) (by simp; omega) (by simp; omega) (tl hn rfl) ?_)
 | refine RunsL.step tabOk hn rfl ?_
 | refine RunsL.nil ?_
 | refine Runs.toRegion 30 rfl ?_
 | (refine RunsL.pe hn rfl rfl rfl ?_; first
 | refine ⟨_, pu_nilCheckP rfl, ?_⟩
 | refine ⟨_, pu_buildS rfl, ?_⟩)
 | (refine Runs.ctls 30 rfl ?_; first | ((first | refine Runs.cond_yes rfl ?_ ?_ | refine Runs.cond_nno rfl ?_ ?_); · first | omega | rfl | assumption | (simp only [List.length_map]; omega)) | ((first | refine Runs.cond_no rfl ?_ ?_ | refine Runs.cond_nyes rfl ?_ ?_); · first | omega | rfl | assumption | (simp only [List.length_map]; omega)) )
 | refine op_storeF rfl rfl rfl rfl (Nat.le_of_ble_eq_true rfl) ?_
 | (refine RunsL.pe hn rfl rfl rfl ?_; first
 | refine ⟨_, pu_build rfl rfl rfl rfl rfl rfl, ?_⟩))
  refine Runs.ctls 30 rfl ?_
  refine Runs.endA (more := []) (t := 0) rfl ?_ (by simp [cO]) (cO_free _ _ _ _) rfl
  rw [List.append_nil]
  unfold cO
  rw [List.flatMap_append]
  rfl
theorem cO_app {d : Des} {s : Int} {en : List Int} {code code' : List Ins} {more : List Ob} (h : code = code') : cO d s en code ++ more = cO d s en code' ++ more := by rw [h]
theorem lend_c {C : Ctx} {d : Des} {s : Int} {en : List Int} {code : List Ins} {σ more : List Ob} {g : Nat} (h : σ = cO d s en code ++ more) : Lends C σ (.pin 0 0 g) (.rp [rulsR d, .int s, intsR en, inssR code]) := by
  subst h
  exact Lends.pin rfl (.cons .ro (.cons .ro (.cons .ro (.cons (Lends.own (o := ⟨38, 3, (code.flatMap insR).map .ro⟩) (els := code.map insR) rfl rfl fun x hx => by obtain ⟨y, _, rfl⟩ := List.mem_map.1 hx; rfl) .nil))))
theorem here_ac (d : Des) (s : Int) (en : List Int) (code : List Ins) : ACv Tryd.prog 56 [.rp [rulsR d, .int s, intsR en, inssR code]] (.int (w64 (s + code.length))) := by
  have hl : (code.map insR).length = code.length := List.length_map ..
  refine ac_enter Tryd.func56 rfl _ Tryd.ntmps56 (by simp) fun C hn hm => ?_
  repeat' (first
 | ((first | refine RunsL.pe hn rfl rfl rfl ?_ | refine RunsD.pe rfl rfl ?_); first
 | refine ⟨_, pu_addW rfl rfl, ?_⟩)
 | refine RunsL.step tabOk hn rfl ?_
 | refine RunsL.nil ?_
 | refine Runs.toRegion 30 rfl ?_
 | ((first | refine RunsL.pe hn rfl rfl rfl ?_ | refine RunsD.pe rfl rfl ?_); first
 | refine ⟨_, pu_nilCheck rfl, ?_⟩)
 | (refine Runs.ctls 30 rfl ?_; first | ((first | refine Runs.cond_yes rfl ?_ ?_ | refine Runs.cond_nno rfl ?_ ?_); · first | omega | rfl | assumption | (simp only [List.length_map]; omega)) | ((first | refine Runs.cond_no rfl ?_ ?_ | refine Runs.cond_nyes rfl ?_ ?_); · first | omega | rfl | assumption | (simp only [List.length_map]; omega)) | refine Runs.ret (ends_ro hm rfl rfl ?_) | exact Runs.ret (ends_cellR hm rfl rfl rfl (Nat.le_of_ble_eq_true rfl) rfl rfl))
 | refine RunsD.step tabOk hn rfl rfl ?_
 | refine RunsD.nil ?_
 | refine Runs.toDraw 30 mixed hn rfl (by kernel_rfl) rfl ?_
 | ((first | refine RunsL.pe hn rfl rfl rfl ?_ | refine RunsD.pe rfl rfl ?_); first
 | refine ⟨_, pu_add rfl rfl (by omega), ?_⟩
 | refine ⟨_, pu_indexAddr_map rfl rfl (by omega) (by assumption), ?_⟩
 | refine ⟨_, pu_sub rfl rfl (by omega), ?_⟩
 | refine ⟨_, pu_pick_b rfl rfl rfl, ?_⟩
 | refine ⟨_, pu_mul rfl rfl (by omega), ?_⟩
 | refine ⟨_, pu_build rfl rfl rfl rfl rfl rfl, ?_⟩))
  exact rr_int (by rw [hl])
set_option maxHeartbeats 2000000 in
theorem call_am (d : Des) (s : Int) (en : List Int) (code : List Ins) (r : Int) (hl : code.length ≤ 4194304) (h0 : 0 ≤ r) (h1 : r < en.length) : AM Tryd.prog 55 (cO d s en code) [0] [.obj 0 0, .int r] (cO d s en (code ++ [callI en r])) (.tup []) := by
  refine am_enter Tryd.func55 rfl _ Tryd.ntmps55 (by simp) (by simp) fun C gs hn => ?_
  obtain ⟨z, hz⟩ : ∃ z, en[r.toNat]? = some z := ⟨_, List.getElem?_eq_getElem (by omega)⟩
  have hle : (en.map fun z => [RV.int z]).length = en.length := List.length_map ..
  repeat' (first
 | refine op_callP 2 (add_am d s en _ _ _ _ (by first | omega | (simp only [List.length_append, List.length_cons, List.length_nil]; omega))) rfl (by simp [AV.onlys, AV.only]) (by simp [AV.only, AV.onlys]) (List.append_nil _).symm rfl rfl (cO_free _ _ _ _) (cO_free _ _ _ _) rfl trivial (fun t h => by injection h with h; subst h; exact tl hn rfl) ?_
 | refine RunsL.step tabOk hn rfl ?_
 | refine RunsL.nil ?_
 | refine Runs.toRegion 30 rfl ?_
 | (refine RunsL.pe hn rfl rfl rfl ?_; first
 | refine ⟨_, pu_nilCheckP rfl, ?_⟩)
 | (refine Runs.ctls 30 rfl ?_; first | ((first | refine Runs.cond_yes rfl ?_ ?_ | refine Runs.cond_nno rfl ?_ ?_); · first | omega | rfl | assumption | (simp only [List.length_map]; omega)) | ((first | refine Runs.cond_no rfl ?_ ?_ | refine Runs.cond_nyes rfl ?_ ?_); · first | omega | rfl | assumption | (simp only [List.length_map]; omega)) )
 | (refine RunsL.pe hn rfl rfl rfl ?_; first
 | refine ⟨_, pu_indexAddr_map rfl rfl (by omega) (by assumption), ?_⟩
      ))
  refine Runs.ctls 30 rfl ?_
  refine Runs.endA (more := []) (t := 0) rfl (cO_app ?_) (by simp [cO]) (cO_free _ _ _ _) rfl
  unfold callI
  rw [hz]
  rfl
def RuleOkC (d : Des) (x : Rul) (en : List Int) : Prop := KindOk d x ∧ ∀ (k : Nat) z, x.kids[k]? = some z → 0 ≤ z ∧ z < en.length
theorem kid0 {d : Des} {x : Rul} {en : List Int} (h : RuleOkC d x en) (hl : 0 < x.kids.length) : x.kids[(0 : Int).toNat]? = some (x.kids.headD 0) ∧ 0 ≤ x.kids.headD 0 ∧ x.kids.headD 0 < en.length := by
  have hx : x.kids[(0 : Int).toNat]? = some (x.kids.headD 0) := by
    cases hk : x.kids with
    | nil => rw [hk] at hl; simp at hl
    | cons a l => rfl
  exact ⟨hx, h.2 0 _ hx⟩
set_option maxHeartbeats 4000000 in
theorem integer_am (d : Des) (s : Int) (en : List Int) (x : Rul) (hk : x.kind = 1) : AM Tryd.prog 27 (cO d s en []) [0] [.obj 0 0, .ro (.agg (rulR x))] (cO d s en (bodyI x s en)) (.tup []) := by
  refine am_enter Tryd.func27 rfl _ Tryd.ntmps27 (by simp) (by simp) fun C gs hn => ?_
  obtain ⟨nm, kd, sz, li, bs, ns, tg, ki⟩ := x
  simp only at hk
  subst hk
  cases li
  all_goals
    repeat' (first
 | refine op_callP 2 (add_am d s en _ _ _ _ (by first | omega | (simp only [List.length_append, List.length_cons, List.length_nil]; omega))) rfl (by simp [AV.onlys, AV.only]) (by simp [AV.only, AV.onlys]) rfl rfl rfl (cO_free _ _ _ _) (cO_free _ _ _ _) rfl ⟨rfl, trivial⟩ (fun t h => by injection h with h; subst h; exact tl hn rfl) ?_
 | refine RunsL.step tabOk hn rfl ?_
 | refine RunsL.nil ?_
 | refine Runs.toRegion 30 rfl ?_
 | (refine Runs.ctls 30 rfl ?_; first | refine Runs.cond_t rfl ?_ | refine Runs.cond_f rfl ?_ | ((first | refine Runs.cond_yes rfl ?_ ?_ | refine Runs.cond_nno rfl ?_ ?_); · first | omega | rfl | assumption | (simp only [List.length_map]; omega)) | ((first | refine Runs.cond_no rfl ?_ ?_ | refine Runs.cond_nyes rfl ?_ ?_); · first | omega | rfl | assumption | (simp only [List.length_map]; omega)) )
 | refine op_box rfl (tl hn rfl) ?_
      )
    refine Runs.ctls 30 rfl ?_
    exact Runs.endA (t := 0) rfl (cO_app rfl) (by simp [cO]) (cO_free _ _ _ _) rfl
theorem fixed_am (d : Des) (s : Int) (en : List Int) (x : Rul) (hk : x.kind = 3) : AM Tryd.prog 29 (cO d s en []) [0] [.obj 0 0, .ro (.agg (rulR x))] (cO d s en (bodyI x s en)) (.tup []) := by
  refine am_enter Tryd.func29 rfl _ Tryd.ntmps29 (by simp) (by simp) fun C gs hn => ?_
  repeat' (first
 | refine op_callP 2 (add_am d s en _ _ _ _ (by first | omega | (simp only [List.length_append, List.length_cons, List.length_nil]; omega))) rfl (by simp [AV.onlys, AV.only]) (by simp [AV.only, AV.onlys]) rfl rfl rfl (cO_free _ _ _ _) (cO_free _ _ _ _) rfl ⟨rfl, trivial⟩ (fun t h => by injection h with h; subst h; exact tl hn rfl) ?_
 | refine RunsL.step tabOk hn rfl ?_
 | refine RunsL.nil ?_
 | refine Runs.toRegion 30 rfl ?_
 | (refine Runs.ctls 30 rfl ?_; first | ((first | refine Runs.cond_yes rfl ?_ ?_ | refine Runs.cond_nno rfl ?_ ?_); · first | omega | rfl | assumption | (simp only [List.length_map]; omega)) | ((first | refine Runs.cond_no rfl ?_ ?_ | refine Runs.cond_nyes rfl ?_ ?_); · first | omega | rfl | assumption | (simp only [List.length_map]; omega)) )
 | refine op_box rfl (tl hn rfl) ?_
    )
  refine Runs.ctls 30 rfl ?_
  refine Runs.endA (t := 0) rfl (cO_app ?_) (by simp [cO]) (cO_free _ _ _ _) rfl
  simp [bodyI, hk]
theorem terminated_am (d : Des) (s : Int) (en : List Int) (x : Rul) (hk : x.kind = 10) (hb : x.bytes.length = 1) : AM Tryd.prog 36 (cO d s en []) [0] [.obj 0 0, .ro (.agg (rulR x))] (cO d s en (bodyI x s en)) (.tup []) := by
  refine am_enter Tryd.func36 rfl _ Tryd.ntmps36 (by simp) (by simp) fun C gs hn => ?_
  obtain ⟨b, hx⟩ : ∃ b, x.bytes[(0 : Int).toNat]? = some b := ⟨_, List.getElem?_eq_getElem (by simp; omega)⟩
  have hx' : x.bytes[0]? = some b := hx
  have hle : (x.bytes.map fun z => [RV.u8 z]).length = x.bytes.length := List.length_map ..
  repeat' (first
 | refine op_callP 2 (add_am d s en _ _ _ _ (by first | omega | (simp only [List.length_append, List.length_cons, List.length_nil]; omega))) rfl (by simp [AV.onlys, AV.only]) (by simp [AV.only, AV.onlys]) rfl rfl rfl (cO_free _ _ _ _) (cO_free _ _ _ _) rfl ⟨rfl, trivial⟩ (fun t h => by injection h with h; subst h; exact tl hn rfl) ?_
 | refine RunsL.step tabOk hn rfl ?_
 | refine RunsL.nil ?_
 | refine Runs.toRegion 30 rfl ?_
 | (refine RunsL.pe hn rfl rfl rfl ?_; first
 | refine ⟨_, pu_ofU8 rfl, ?_⟩)
 | (refine Runs.ctls 30 rfl ?_; first | ((first | refine Runs.cond_yes rfl ?_ ?_ | refine Runs.cond_nno rfl ?_ ?_); · first | omega | rfl | assumption | (simp only [List.length_map]; omega)) | ((first | refine Runs.cond_no rfl ?_ ?_ | refine Runs.cond_nyes rfl ?_ ?_); · first | omega | rfl | assumption | (simp only [List.length_map]; omega)) )
 | refine op_box rfl (tl hn rfl) ?_
 | (refine RunsL.pe hn rfl rfl rfl ?_; first
 | refine ⟨_, pu_indexAddr_map rfl rfl (by omega) (by assumption), ?_⟩
      ))
  refine Runs.ctls 30 rfl ?_
  refine Runs.endA (t := 0) rfl (cO_app ?_) (by simp [cO]) (cO_free _ _ _ _) rfl
  simp [bodyI, hk, hx']
set_option maxHeartbeats 4000000 in
theorem sized_am (d : Des) (s : Int) (en : List Int) (x : Rul) (hk : x.kind = 4) (hr : RuleOkC d x en) : AM Tryd.prog 30 (cO d s en []) [0] [.obj 0 0, .ro (.agg (rulR x))] (cO d s en (bodyI x s en)) (.tup []) := by
  refine am_enter Tryd.func30 rfl _ Tryd.ntmps30 (by simp) (by simp) fun C gs hn => ?_
  obtain ⟨f5, f7, f8, f4⟩ := item_fields hr.1
  have hlk : (x.kids.map fun z => [RV.int z]).length = x.kids.length := List.length_map ..
  obtain ⟨h0, h1, h2⟩ := kid0 hr (by have := f4 hk; omega)
  repeat' (first
 | refine op_callP 2 (add_am d s en _ _ _ _ (by first | omega | (simp only [List.length_append, List.length_cons, List.length_nil]; omega))) rfl (by simp [AV.onlys, AV.only]) (by simp [AV.only, AV.onlys]) rfl rfl rfl (cO_free _ _ _ _) (cO_free _ _ _ _) rfl ⟨rfl, trivial⟩ (fun t h => by injection h with h; subst h; exact tl hn rfl) ?_
 | refine op_callP 2 (call_am d s en _ _ (by first | omega | (simp only [List.length_append, List.length_cons, List.length_nil]; omega)) (by omega) (by omega)) rfl (by simp [AV.onlys, AV.only]) (by simp [AV.only, AV.onlys]) rfl rfl rfl (cO_free _ _ _ _) (cO_free _ _ _ _) rfl ⟨rfl, trivial⟩ (fun t h => by injection h with h; subst h; exact tl hn rfl) ?_
 | refine RunsL.step tabOk hn rfl ?_
 | refine RunsL.nil ?_
 | refine Runs.toRegion 30 rfl ?_
 | (refine Runs.ctls 30 rfl ?_; first | ((first | refine Runs.cond_yes rfl ?_ ?_ | refine Runs.cond_nno rfl ?_ ?_); · first | omega | rfl | assumption | (simp only [List.length_map]; omega)) | ((first | refine Runs.cond_no rfl ?_ ?_ | refine Runs.cond_nyes rfl ?_ ?_); · first | omega | rfl | assumption | (simp only [List.length_map]; omega)) )
 | refine op_box rfl (tl hn rfl) ?_
 | (refine RunsL.pe hn rfl rfl rfl ?_; first
 | refine ⟨_, pu_indexAddr_map rfl rfl (by omega) (by assumption), ?_⟩
      ))
  refine Runs.ctls 30 rfl ?_
  refine Runs.endA (t := 0) rfl (cO_app ?_) (by simp [cO]) (cO_free _ _ _ _) rfl
  simp [bodyI, hk]
set_option maxHeartbeats 4000000 in
theorem option_am (d : Des) (s : Int) (en : List Int) (x : Rul) (hk : x.kind = 8) (hr : RuleOkC d x en) : AM Tryd.prog 34 (cO d s en []) [0] [.obj 0 0, .ro (.agg (rulR x))] (cO d s en (bodyI x s en)) (.tup []) := by
  refine am_enter Tryd.func34 rfl _ Tryd.ntmps34 (by simp) (by simp) fun C gs hn => ?_
  obtain ⟨f5, f7, f8, f4⟩ := item_fields hr.1
  have hlk : (x.kids.map fun z => [RV.int z]).length = x.kids.length := List.length_map ..
  obtain ⟨h0, h1, h2⟩ := kid0 hr (by have := f8 (.inl hk); omega)
  repeat' (first
 | refine op_callP 2 (add_am d s en _ _ _ _ (by first | omega | (simp only [List.length_append, List.length_cons, List.length_nil]; omega))) rfl (by simp [AV.onlys, AV.only]) (by simp [AV.only, AV.onlys]) rfl rfl rfl (cO_free _ _ _ _) (cO_free _ _ _ _) rfl ⟨rfl, trivial⟩ (fun t h => by injection h with h; subst h; exact tl hn rfl) ?_
 | refine op_callP 2 (call_am d s en _ _ (by first | omega | (simp only [List.length_append, List.length_cons, List.length_nil]; omega)) (by omega) (by omega)) rfl (by simp [AV.onlys, AV.only]) (by simp [AV.only, AV.onlys]) rfl rfl rfl (cO_free _ _ _ _) (cO_free _ _ _ _) rfl ⟨rfl, trivial⟩ (fun t h => by injection h with h; subst h; exact tl hn rfl) ?_
 | (refine RunsL.pe hn rfl rfl rfl ?_; first
 | refine ⟨_, pu_callL (here_ac d s en _) (.cons (lend_c rfl) .nil), ?_⟩
 | refine ⟨_, pu_addW rfl rfl, ?_⟩)
 | refine RunsL.step tabOk hn rfl ?_
 | refine RunsL.nil ?_
 | refine Runs.toRegion 30 rfl ?_
 | (refine Runs.ctls 30 rfl ?_; first | ((first | refine Runs.cond_yes rfl ?_ ?_ | refine Runs.cond_nno rfl ?_ ?_); · first | omega | rfl | assumption | (simp only [List.length_map]; omega)) | ((first | refine Runs.cond_no rfl ?_ ?_ | refine Runs.cond_nyes rfl ?_ ?_); · first | omega | rfl | assumption | (simp only [List.length_map]; omega)) )
 | refine op_box rfl (tl hn rfl) ?_
 | (refine RunsL.pe hn rfl rfl rfl ?_; first
 | refine ⟨_, pu_indexAddr_map rfl rfl (by omega) (by assumption), ?_⟩
      ))
  refine Runs.ctls 30 rfl ?_
  refine Runs.endA (t := 0) rfl (cO_app ?_) (by simp [cO]) (cO_free _ _ _ _) rfl
  have := w64_add (s + 0) 2
  simp [bodyI, hk]
  simpa using this
set_option maxHeartbeats 4000000 in
theorem checked_am (d : Des) (s : Int) (en : List Int) (x : Rul) (hk : x.kind = 9) (hr : RuleOkC d x en) : AM Tryd.prog 35 (cO d s en []) [0] [.obj 0 0, .ro (.agg (rulR x))] (cO d s en (bodyI x s en)) (.tup []) := by
  refine am_enter Tryd.func35 rfl _ Tryd.ntmps35 (by simp) (by simp) fun C gs hn => ?_
  obtain ⟨f5, f7, f8, f4⟩ := item_fields hr.1
  have hlk : (x.kids.map fun z => [RV.int z]).length = x.kids.length := List.length_map ..
  obtain ⟨h0, h1, h2⟩ := kid0 hr (by have := f8 (.inr hk); omega)
  repeat' (first
 | refine op_callP 2 (add_am d s en _ _ _ _ (by first | omega | (simp only [List.length_append, List.length_cons, List.length_nil]; omega))) rfl (by simp [AV.onlys, AV.only]) (by simp [AV.only, AV.onlys]) rfl rfl rfl (cO_free _ _ _ _) (cO_free _ _ _ _) rfl ⟨rfl, trivial⟩ (fun t h => by injection h with h; subst h; exact tl hn rfl) ?_
 | refine op_callP 2 (call_am d s en _ _ (by first | omega | (simp only [List.length_append, List.length_cons, List.length_nil]; omega)) (by omega) (by omega)) rfl (by simp [AV.onlys, AV.only]) (by simp [AV.only, AV.onlys]) rfl rfl rfl (cO_free _ _ _ _) (cO_free _ _ _ _) rfl ⟨rfl, trivial⟩ (fun t h => by injection h with h; subst h; exact tl hn rfl) ?_
 | refine RunsL.step tabOk hn rfl ?_
 | refine RunsL.nil ?_
 | refine Runs.toRegion 30 rfl ?_
 | (refine Runs.ctls 30 rfl ?_; first | ((first | refine Runs.cond_yes rfl ?_ ?_ | refine Runs.cond_nno rfl ?_ ?_); · first | omega | rfl | assumption | (simp only [List.length_map]; omega)) | ((first | refine Runs.cond_no rfl ?_ ?_ | refine Runs.cond_nyes rfl ?_ ?_); · first | omega | rfl | assumption | (simp only [List.length_map]; omega)) )
 | refine op_box rfl (tl hn rfl) ?_
 | (refine RunsL.pe hn rfl rfl rfl ?_; first
 | refine ⟨_, pu_indexAddr_map rfl rfl (by omega) (by assumption), ?_⟩
      ))
  refine Runs.ctls 30 rfl ?_
  refine Runs.endA (t := 0) rfl (cO_app ?_) (by simp [cO]) (cO_free _ _ _ _) rfl
  simp [bodyI, hk]
set_option maxHeartbeats 8000000 in
theorem array_am (d : Des) (s : Int) (en : List Int) (x : Rul) (hk : x.kind = 5) (hr : RuleOkC d x en) : AM Tryd.prog 31 (cO d s en []) [0] [.obj 0 0, .ro (.agg (rulR x))] (cO d s en (bodyI x s en)) (.tup []) := by
  refine am_enter Tryd.func31 rfl _ Tryd.ntmps31 (by simp) (by simp) fun C gs hn => ?_
  obtain ⟨f5, f7, f8, f4⟩ := item_fields hr.1
  have hlk : (x.kids.map fun z => [RV.int z]).length = x.kids.length := List.length_map ..
  have hk2 := f5 hk
  obtain ⟨h0, h1, h2⟩ := kid0 hr (by omega)
  obtain ⟨z, hz⟩ : ∃ z, x.kids[(1 : Int).toNat]? = some z := ⟨_, List.getElem?_eq_getElem (by simp; omega)⟩
  have hz' : x.kids[1]? = some z := hz
  obtain ⟨h3, h4⟩ := hr.2 1 z hz'
  repeat' (first
 | refine op_callP 2 (add_am d s en _ _ _ _ (by first | omega | (simp only [List.length_append, List.length_cons, List.length_nil]; omega))) rfl (by simp [AV.onlys, AV.only]) (by simp [AV.only, AV.onlys]) rfl rfl rfl (cO_free _ _ _ _) (cO_free _ _ _ _) rfl ⟨rfl, trivial⟩ (fun t h => by injection h with h; subst h; exact tl hn rfl) ?_
 | refine op_callP 2 (call_am d s en _ _ (by first | omega | (simp only [List.length_append, List.length_cons, List.length_nil]; omega)) (by omega) (by omega)) rfl (by simp [AV.onlys, AV.only]) (by simp [AV.only, AV.onlys]) rfl rfl rfl (cO_free _ _ _ _) (cO_free _ _ _ _) rfl ⟨rfl, trivial⟩ (fun t h => by injection h with h; subst h; exact tl hn rfl) ?_
 | (refine RunsL.pe hn rfl rfl rfl ?_; first
 | refine ⟨_, pu_callL (here_ac d s en _) (.cons (lend_c rfl) .nil), ?_⟩
 | refine ⟨_, pu_addW rfl rfl, ?_⟩)
 | refine RunsL.step tabOk hn rfl ?_
 | refine RunsL.nil ?_
 | refine Runs.toRegion 30 rfl ?_
 | (refine Runs.ctls 30 rfl ?_; first | ((first | refine Runs.cond_yes rfl ?_ ?_ | refine Runs.cond_nno rfl ?_ ?_); · first | omega | rfl | assumption | (simp only [List.length_map]; omega)) | ((first | refine Runs.cond_no rfl ?_ ?_ | refine Runs.cond_nyes rfl ?_ ?_); · first | omega | rfl | assumption | (simp only [List.length_map]; omega)) )
 | refine op_box rfl (tl hn rfl) ?_
 | (refine RunsL.pe hn rfl rfl rfl ?_; first
 | refine ⟨_, pu_indexAddr_map rfl rfl (by omega) (by assumption), ?_⟩
      ))
  refine Runs.ctls 30 rfl ?_
  refine Runs.endA (t := 0) rfl (cO_app ?_) (by simp [cO]) (cO_free _ _ _ _) rfl
  have := w64_add (s + 3) 3
  simp [bodyI, hk, hz']
  simpa [Int.add_assoc] using this
end Go.Proofs.YtofefjklipglhaaDoor
/- The code of a rule: the compiler's methods that loop. -/
namespace Go.Proofs.YtofefjklipglhaaDoor
set_option linter.unusedSimpArgs false
set_option linter.unusedVariables false
set_option maxRecDepth 100000
open Go.RowKit
open AV (Mem Keeps)
set_option maxRecDepth 100000
def conI (l : List UInt8) : List Ins := l.map fun b => ⟨2, (b.toNat : Int), 0⟩
theorem conI_next {l : List UInt8} {j : Nat} {b : UInt8} (h : l[j]? = some b) : conI (l.take (j + 1)) = conI (l.take j) ++ [⟨2, (b.toNat : Int), 0⟩] := by
  unfold conI
  rw [List.take_add_one, h, List.map_append]
  rfl
theorem conI_len (l : List UInt8) (j : Nat) : (conI (l.take j)).length ≤ j := by unfold conI; rw [List.length_map, List.length_take]; omega
def seqC (en : List Int) (l : List Int) : List Ins := l.map (callI en)
theorem seqC_next {en l : List Int} {j : Nat} {b : Int} (h : l[j]? = some b) : seqC en (l.take (j + 1)) = seqC en (l.take j) ++ [callI en b] := by
  unfold seqC
  rw [List.take_add_one, h, List.map_append]
  rfl
theorem seqC_len (en l : List Int) (j : Nat) : (seqC en (l.take j)).length ≤ j := by unfold seqC; rw [List.length_map, List.length_take]; omega
set_option maxHeartbeats 4000000 in
theorem constant_am (d : Des) (s : Int) (en : List Int) (x : Rul) (hk : x.kind = 2) (hl : x.bytes.length ≤ 1048576) : AM Tryd.prog 28 (cO d s en []) [0] [.obj 0 0, .ro (.agg (rulR x))] (cO d s en (bodyI x s en)) (.tup []) := by
  refine am_enter Tryd.func28 rfl _ Tryd.ntmps28 (by simp) (by simp) fun C gs hn => ?_
  have hle : (x.bytes.map fun z => [RV.u8 z]).length = x.bytes.length := List.length_map ..
  repeat' (first
 | refine RunsL.step tabOk hn rfl ?_
 | refine RunsL.nil ?_
 | refine Runs.toRegion 30 rfl ?_
 | (refine Runs.ctls 30 rfl ?_; first | ((first | refine Runs.cond_yes rfl ?_ ?_ | refine Runs.cond_nno rfl ?_ ?_); · first | omega | rfl | assumption | (simp only [List.length_map]; omega)) | ((first | refine Runs.cond_no rfl ?_ ?_ | refine Runs.cond_nyes rfl ?_ ?_); · first | omega | rfl | assumption | (simp only [List.length_map]; omega)) )
 | refine op_box rfl (tl hn rfl) ?_
 | (refine RunsL.pe hn rfl rfl rfl ?_; first
 | refine ⟨_, pu_add rfl rfl (by omega), ?_⟩
 | refine ⟨_, pu_indexAddr_map rfl rfl (by omega) (by assumption), ?_⟩
      ))
  refine Runs.loopN 30 rfl (fun j => [(0, .pin 0 0 (gs 0)), (7, .ro (bytesR x.bytes)), (8, .int (x.bytes.length : Int)), (9, .int (j : Int))]) (fun j => cO d s en (conI (x.bytes.take j)) ++ [⟨57, 0, (rulR x).map .ro⟩]) (fun _ => True) x.bytes.length 0 (Nat.zero_le _) trivial ⟨rfl, rfl, by simp [look], rfl, trivial⟩ rfl fun j hj _ next => ?_
  have hcl := conI_len x.bytes j
  by_cases hlt : j < x.bytes.length
  · obtain ⟨b, hb⟩ : ∃ b, x.bytes[(j : Int).toNat]? = some b := ⟨_, List.getElem?_eq_getElem hlt⟩
    have hb' : x.bytes[j]? = some b := hb
    repeat' (first
 | refine op_callP 2 (add_am d s en _ _ _ _ (by first | omega | (simp only [List.length_append, List.length_cons, List.length_nil]; omega))) rfl (by simp [AV.onlys, AV.only]) (by simp [AV.only, AV.onlys]) rfl rfl rfl (cO_free _ _ _ _) (cO_free _ _ _ _) rfl ⟨rfl, trivial⟩ (fun t h => by injection h with h; subst h; exact tl hn rfl) ?_
 | refine RunsL.step tabOk hn rfl ?_
 | refine RunsL.nil ?_
 | refine Runs.toRegion 30 rfl ?_
 | (refine RunsL.pe hn rfl rfl rfl ?_; first
 | refine ⟨_, pu_ofU8 rfl, ?_⟩)
 | (refine Runs.ctls 30 rfl ?_; first | ((first | refine Runs.cond_yes rfl ?_ ?_ | refine Runs.cond_nno rfl ?_ ?_); · first | omega | rfl | assumption | (simp only [List.length_map]; omega)) | ((first | refine Runs.cond_no rfl ?_ ?_ | refine Runs.cond_nyes rfl ?_ ?_); · first | omega | rfl | assumption | (simp only [List.length_map]; omega)) )
 | refine op_box rfl (tl hn rfl) ?_
 | (refine RunsL.pe hn rfl rfl rfl ?_; first
 | refine ⟨_, pu_add rfl rfl (by omega), ?_⟩
 | refine ⟨_, pu_indexAddr_map rfl rfl (by omega) (by assumption), ?_⟩
        ))
    exact next _ _ ⟨rfl, rfl, rfl, rfl, trivial⟩ hlt trivial (cO_app (conI_next hb'))
  · obtain rfl : j = x.bytes.length := by omega
    repeat' (first
 | refine RunsL.step tabOk hn rfl ?_
 | refine RunsL.nil ?_
 | refine Runs.toRegion 30 rfl ?_
 | (refine Runs.ctls 30 rfl ?_; first | ((first | refine Runs.cond_yes rfl ?_ ?_ | refine Runs.cond_nno rfl ?_ ?_); · first | omega | rfl | assumption | (simp only [List.length_map]; omega)) | ((first | refine Runs.cond_no rfl ?_ ?_ | refine Runs.cond_nyes rfl ?_ ?_); · first | omega | rfl | assumption | (simp only [List.length_map]; omega)) )
 | refine op_box rfl (tl hn rfl) ?_
 | (refine RunsL.pe hn rfl rfl rfl ?_; first
 | refine ⟨_, pu_add rfl rfl (by omega), ?_⟩
 | refine ⟨_, pu_indexAddr_map rfl rfl (by omega) (by assumption), ?_⟩
        ))
    refine Runs.ctls 30 rfl ?_
    refine Runs.endA (t := 0) rfl (cO_app ?_) (by simp [cO]) (cO_free _ _ _ _) rfl
    rw [List.take_length]
    simp [bodyI, hk, conI]
set_option maxHeartbeats 4000000 in
theorem sequence_am (d : Des) (s : Int) (en : List Int) (x : Rul) (hk : x.kind = 6) (hr : RuleOkC d x en) (hl : x.kids.length ≤ 1048576) : AM Tryd.prog 32 (cO d s en []) [0] [.obj 0 0, .ro (.agg (rulR x))] (cO d s en (bodyI x s en)) (.tup []) := by
  refine am_enter Tryd.func32 rfl _ Tryd.ntmps32 (by simp) (by simp) fun C gs hn => ?_
  have hle : (x.kids.map fun z => [RV.int z]).length = x.kids.length := List.length_map ..
  repeat' (first
 | refine RunsL.step tabOk hn rfl ?_
 | refine RunsL.nil ?_
 | refine Runs.toRegion 30 rfl ?_
 | (refine Runs.ctls 30 rfl ?_; first | ((first | refine Runs.cond_yes rfl ?_ ?_ | refine Runs.cond_nno rfl ?_ ?_); · first | omega | rfl | assumption | (simp only [List.length_map]; omega)) | ((first | refine Runs.cond_no rfl ?_ ?_ | refine Runs.cond_nyes rfl ?_ ?_); · first | omega | rfl | assumption | (simp only [List.length_map]; omega)) )
 | refine op_box rfl (tl hn rfl) ?_
 | (refine RunsL.pe hn rfl rfl rfl ?_; first
 | refine ⟨_, pu_add rfl rfl (by omega), ?_⟩
 | refine ⟨_, pu_indexAddr_map rfl rfl (by omega) (by assumption), ?_⟩
      ))
  refine Runs.loopN 30 rfl (fun j => [(0, .pin 0 0 (gs 0)), (7, .ro (intsR x.kids)), (8, .int (x.kids.length : Int)), (9, .int (j : Int))]) (fun j => cO d s en (seqC en (x.kids.take j)) ++ [⟨57, 0, (rulR x).map .ro⟩]) (fun _ => True) x.kids.length 0 (Nat.zero_le _) trivial ⟨rfl, rfl, by simp [look], rfl, trivial⟩ rfl fun j hj _ next => ?_
  have hcl := seqC_len en x.kids j
  by_cases hlt : j < x.kids.length
  · obtain ⟨b, hb⟩ : ∃ b, x.kids[(j : Int).toNat]? = some b := ⟨_, List.getElem?_eq_getElem hlt⟩
    have hb' : x.kids[j]? = some b := hb
    obtain ⟨h3, h4⟩ := hr.2 j b hb'
    repeat' (first
 | refine op_callP 2 (call_am d s en _ _ (by first | omega | (simp only [List.length_append, List.length_cons, List.length_nil]; omega)) (by omega) (by omega)) rfl (by simp [AV.onlys, AV.only]) (by simp [AV.only, AV.onlys]) rfl rfl rfl (cO_free _ _ _ _) (cO_free _ _ _ _) rfl ⟨rfl, trivial⟩ (fun t h => by injection h with h; subst h; exact tl hn rfl) ?_
 | refine RunsL.step tabOk hn rfl ?_
 | refine RunsL.nil ?_
 | refine Runs.toRegion 30 rfl ?_
 | (refine Runs.ctls 30 rfl ?_; first | ((first | refine Runs.cond_yes rfl ?_ ?_ | refine Runs.cond_nno rfl ?_ ?_); · first | omega | rfl | assumption | (simp only [List.length_map]; omega)) | ((first | refine Runs.cond_no rfl ?_ ?_ | refine Runs.cond_nyes rfl ?_ ?_); · first | omega | rfl | assumption | (simp only [List.length_map]; omega)) )
 | refine op_box rfl (tl hn rfl) ?_
 | (refine RunsL.pe hn rfl rfl rfl ?_; first
 | refine ⟨_, pu_add rfl rfl (by omega), ?_⟩
 | refine ⟨_, pu_indexAddr_map rfl rfl (by omega) (by assumption), ?_⟩
        ))
    exact next _ _ ⟨rfl, rfl, rfl, rfl, trivial⟩ hlt trivial (cO_app (seqC_next hb'))
  · obtain rfl : j = x.kids.length := by omega
    repeat' (first
 | refine RunsL.step tabOk hn rfl ?_
 | refine RunsL.nil ?_
 | refine Runs.toRegion 30 rfl ?_
 | (refine Runs.ctls 30 rfl ?_; first | ((first | refine Runs.cond_yes rfl ?_ ?_ | refine Runs.cond_nno rfl ?_ ?_); · first | omega | rfl | assumption | (simp only [List.length_map]; omega)) | ((first | refine Runs.cond_no rfl ?_ ?_ | refine Runs.cond_nyes rfl ?_ ?_); · first | omega | rfl | assumption | (simp only [List.length_map]; omega)) )
 | refine op_box rfl (tl hn rfl) ?_
 | (refine RunsL.pe hn rfl rfl rfl ?_; first
 | refine ⟨_, pu_add rfl rfl (by omega), ?_⟩
 | refine ⟨_, pu_indexAddr_map rfl rfl (by omega) (by assumption), ?_⟩
        ))
    refine Runs.ctls 30 rfl ?_
    refine Runs.endA (t := 0) rfl (cO_app ?_) (by simp [cO]) (cO_free _ _ _ _) rfl
    rw [List.take_length]
    simp [bodyI, hk, seqC]
def choA (x : Rul) (s : Int) (en : List Int) (j : Nat) : List Ins := callI en (x.kids.headD 0) :: chTags x.tags (s + (x.tags.length : Int) + 2) j
def choB (x : Rul) (s : Int) (en : List Int) (j : Nat) : List Ins := choA x s en x.tags.length ++ ⟨12, 3, 0⟩ :: chCalls x.kids en j
theorem choB_len (x : Rul) (s : Int) (en : List Int) (j : Nat) : (choB x s en j).length ≤ x.tags.length + 2 + 2 * j := by
  have := chCalls_len x.kids en j
  unfold choB choA
  simp only [List.length_append, List.length_cons, chTags_len]
  omega
theorem choA_len (x : Rul) (s : Int) (en : List Int) (j : Nat) : (choA x s en j).length = j + 1 := by
  unfold choA
  simp only [List.length_cons, chTags_len]
set_option maxHeartbeats 8000000 in
theorem choice_am (d : Des) (s : Int) (en : List Int) (x : Rul) (hk : x.kind = 7) (hr : RuleOkC d x en) (hl : x.kids.length ≤ 1048576) : AM Tryd.prog 33 (cO d s en []) [0] [.obj 0 0, .ro (.agg (rulR x))] (cO d s en (bodyI x s en)) (.tup []) := by
  refine am_enter Tryd.func33 rfl _ Tryd.ntmps33 (by simp) (by simp) fun C gs hn => ?_
  obtain ⟨f5, f7, f8, f4⟩ := item_fields hr.1
  have hlk : (x.kids.map fun z => [RV.int z]).length = x.kids.length := List.length_map ..
  have hlt' : (x.tags.map fun z => [RV.int z]).length = x.tags.length := List.length_map ..
  obtain ⟨hkl, _, _, _⟩ := f7 hk
  obtain ⟨h0, h1, h2⟩ := kid0 hr (by omega)
  repeat' (first
 | refine op_callP 2 (add_am d s en _ _ _ _ (by first | omega | (simp only [List.length_append, List.length_cons, List.length_nil]; omega))) rfl (by simp [AV.onlys, AV.only]) (by simp [AV.only, AV.onlys]) rfl rfl rfl (cO_free _ _ _ _) (cO_free _ _ _ _) rfl ⟨rfl, trivial⟩ (fun t h => by injection h with h; subst h; exact tl hn rfl) ?_
 | refine op_callP 2 (call_am d s en _ _ (by first | omega | (simp only [List.length_append, List.length_cons, List.length_nil]; omega)) (by omega) (by omega)) rfl (by simp [AV.onlys, AV.only]) (by simp [AV.only, AV.onlys]) rfl rfl rfl (cO_free _ _ _ _) (cO_free _ _ _ _) rfl ⟨rfl, trivial⟩ (fun t h => by injection h with h; subst h; exact tl hn rfl) ?_
 | ((first | refine RunsL.pe hn rfl rfl rfl ?_ | refine RunsD.pe rfl rfl ?_); first
 | refine ⟨_, pu_callL (here_ac d s en _) (.cons (lend_c rfl) .nil), ?_⟩
 | refine ⟨_, pu_addW rfl rfl, ?_⟩)
 | refine RunsL.step tabOk hn rfl ?_
 | refine RunsL.nil ?_
 | refine Runs.toRegion 30 rfl ?_
 | ((first | refine RunsL.pe hn rfl rfl rfl ?_ | refine RunsD.pe rfl rfl ?_); first
 | refine ⟨_, pu_nilCheckP rfl, ?_⟩)
 | (refine Runs.ctls 30 rfl ?_; first | refine Runs.cond_f rfl ?_ | ((first | refine Runs.cond_yes rfl ?_ ?_ | refine Runs.cond_nno rfl ?_ ?_); · first | omega | rfl | assumption | (simp only [List.length_map]; omega)) | ((first | refine Runs.cond_no rfl ?_ ?_ | refine Runs.cond_nyes rfl ?_ ?_); · first | omega | rfl | assumption | (simp only [List.length_map]; omega)) )
 | refine op_box rfl (tl hn rfl) ?_
 | refine RunsD.step tabOk hn rfl rfl ?_
 | refine RunsD.nil ?_
 | refine Runs.toDraw 30 mixed hn rfl (by kernel_rfl) rfl ?_
 | ((first | refine RunsL.pe hn rfl rfl rfl ?_ | refine RunsD.pe rfl rfl ?_); first
 | refine ⟨_, pu_add rfl rfl (by omega), ?_⟩
 | refine ⟨_, pu_indexAddr_map rfl rfl (by omega) (by assumption), ?_⟩
 | refine ⟨_, pu_sub rfl rfl (by omega), ?_⟩
 | refine ⟨_, pu_pick_b rfl rfl rfl, ?_⟩
 | refine ⟨_, pu_mul rfl rfl (by omega), ?_⟩
 | refine ⟨_, pu_build rfl rfl rfl rfl rfl rfl, ?_⟩))
  refine Runs.loopN 30 rfl (fun j => [(0, .pin 0 0 (gs 0)), (3, .obj 2 0), (4, .int (w64 (s + (x.tags.length : Int) + 2))), (22, .ro (intsR x.tags)), (23, .int (x.tags.length : Int)), (24, .int (j : Int))]) (fun j => cO d s en (choA x s en j) ++ [⟨57, 0, (rulR x).map .ro⟩]) (fun _ => True) x.tags.length 0 (Nat.zero_le _) trivial ⟨rfl, rfl, ?_, rfl, by simp [look], rfl, trivial⟩ rfl fun j hj _ next => ?_
  · show AV.int _ = AV.int _
    rw [hlt']
    have e1 := w64_add (w64 (s + 1) + (x.tags.length : Int)) 1
    have e2 := w64_add (s + 1) (x.tags.length + 1 : Int)
    simp only [List.length_append, List.length_cons, List.length_nil]
    show AV.int (w64 (w64 (w64 (s + (1 : Int)) + (x.tags.length : Int)) + 1)) = _
    rw [e1, Int.add_assoc, e2, show s + 1 + ((x.tags.length : Int) + 1) = s + (x.tags.length : Int) + 2 by omega]
  have hcl := choA_len x s en j
  by_cases hlt : j < x.tags.length
  · obtain ⟨b, hb⟩ : ∃ b, x.tags[(j : Int).toNat]? = some b := ⟨_, List.getElem?_eq_getElem hlt⟩
    have hb' : x.tags[j]? = some b := hb
    repeat' (first
 | refine op_callP 2 (add_am d s en _ _ _ _ (by first | omega | (simp only [List.length_append, List.length_cons, List.length_nil]; omega))) rfl (by simp [AV.onlys, AV.only]) (by simp [AV.only, AV.onlys]) rfl rfl rfl (cO_free _ _ _ _) (cO_free _ _ _ _) rfl ⟨rfl, trivial⟩ (fun t h => by injection h with h; subst h; exact tl hn rfl) ?_
 | ((first | refine RunsL.pe hn rfl rfl rfl ?_ | refine RunsD.pe rfl rfl ?_); first
 | refine ⟨_, pu_mul rfl rfl (by omega), ?_⟩)
 | refine RunsL.step tabOk hn rfl ?_
 | refine RunsL.nil ?_
 | refine Runs.toRegion 30 rfl ?_
 | ((first | refine RunsL.pe hn rfl rfl rfl ?_ | refine RunsD.pe rfl rfl ?_); first
 | refine ⟨_, pu_addW (t := 34) rfl rfl, ?_⟩)
 | (refine Runs.ctls 30 rfl ?_; first | refine Runs.cond_f rfl ?_ | ((first | refine Runs.cond_yes rfl ?_ ?_ | refine Runs.cond_nno rfl ?_ ?_); · first | omega | rfl | assumption | (simp only [List.length_map]; omega)) | ((first | refine Runs.cond_no rfl ?_ ?_ | refine Runs.cond_nyes rfl ?_ ?_); · first | omega | rfl | assumption | (simp only [List.length_map]; omega)) )
 | refine op_box rfl (tl hn rfl) ?_
 | refine RunsD.step tabOk hn rfl rfl ?_
 | refine RunsD.nil ?_
 | refine Runs.toDraw 30 mixed hn rfl (by kernel_rfl) rfl ?_
 | ((first | refine RunsL.pe hn rfl rfl rfl ?_ | refine RunsD.pe rfl rfl ?_); first
 | refine ⟨_, pu_add rfl rfl (by omega), ?_⟩
 | refine ⟨_, pu_indexAddr_map rfl rfl (by omega) (by assumption), ?_⟩
 | refine ⟨_, pu_sub rfl rfl (by omega), ?_⟩
 | refine ⟨_, pu_pick_b rfl rfl rfl, ?_⟩
 | refine ⟨_, pu_mul rfl rfl (by omega), ?_⟩
 | refine ⟨_, pu_build rfl rfl rfl rfl rfl rfl, ?_⟩))
    refine next _ _ ⟨rfl, rfl, rfl, rfl, rfl, rfl, trivial⟩ hlt trivial (cO_app ?_)
    unfold choA
    rw [chTags_next hb']
    have := w64_add (s + (x.tags.length : Int) + 2) (2 * (j : Int))
    show _ :: (_ ++ [(⟨11, b, w64 (s + (x.tags.length : Int) + 2 + 2 * (j : Int))⟩ : Ins)]) = _ :: _ ++ [(⟨11, b, w64 (w64 (s + (x.tags.length : Int) + 2) + 2 * (j : Int))⟩ : Ins)]
    rw [this]
    rfl
  · obtain rfl : j = x.tags.length := by omega
    repeat' (first
 | refine op_callP 2 (add_am d s en _ _ _ _ (by first | omega | (simp only [List.length_append, List.length_cons, List.length_nil]; omega))) rfl (by simp [AV.onlys, AV.only]) (by simp [AV.only, AV.onlys]) rfl rfl rfl (cO_free _ _ _ _) (cO_free _ _ _ _) rfl ⟨rfl, trivial⟩ (fun t h => by injection h with h; subst h; exact tl hn rfl) ?_
 | refine RunsL.step tabOk hn rfl ?_
 | refine RunsL.nil ?_
 | refine Runs.toRegion 30 rfl ?_
 | (refine Runs.ctls 30 rfl ?_; first | refine Runs.cond_f rfl ?_ | ((first | refine Runs.cond_yes rfl ?_ ?_ | refine Runs.cond_nno rfl ?_ ?_); · first | omega | rfl | assumption | (simp only [List.length_map]; omega)) | ((first | refine Runs.cond_no rfl ?_ ?_ | refine Runs.cond_nyes rfl ?_ ?_); · first | omega | rfl | assumption | (simp only [List.length_map]; omega)) )
 | refine op_box rfl (tl hn rfl) ?_
 | refine RunsD.step tabOk hn rfl rfl ?_
 | refine RunsD.nil ?_
 | refine Runs.toDraw 30 mixed hn rfl (by kernel_rfl) rfl ?_
 | ((first | refine RunsL.pe hn rfl rfl rfl ?_ | refine RunsD.pe rfl rfl ?_); first
 | refine ⟨_, pu_add rfl rfl (by omega), ?_⟩
 | refine ⟨_, pu_indexAddr_map rfl rfl (by omega) (by assumption), ?_⟩
 | refine ⟨_, pu_sub rfl rfl (by omega), ?_⟩
 | refine ⟨_, pu_pick_b rfl rfl rfl, ?_⟩
 | refine ⟨_, pu_mul rfl rfl (by omega), ?_⟩
 | refine ⟨_, pu_build rfl rfl rfl rfl rfl rfl, ?_⟩))
    refine Runs.loopN 30 rfl (fun j => [(0, .pin 0 0 (gs 0)), (3, .obj 2 0), (41, .int (x.tags.length : Int)), (42, .int (j : Int))]) (fun j => cO d s en (choB x s en j) ++ [⟨57, 0, (rulR x).map .ro⟩]) (fun _ => True) x.tags.length 0 (Nat.zero_le _) trivial ⟨rfl, rfl, by simp [look], rfl, trivial⟩ rfl fun j hj _ next2 => ?_
    have hcb := choB_len x s en j
    by_cases hlt : j < x.tags.length
    · obtain ⟨b, hb⟩ : ∃ b, x.kids[((j : Int) + 1).toNat]? = some b := ⟨_, List.getElem?_eq_getElem (by omega)⟩
      have hb' : x.kids[j + 1]? = some b := by rw [← hb]; congr 1
      obtain ⟨h3, h4⟩ := hr.2 (j + 1) b hb'
      have hbn : choB x s en (j + 1) = choB x s en j ++ ((if j = 0 then [] else [⟨10, 0, 0⟩]) ++ [callI en b]) := by
        unfold choB
        rw [chCalls_next hb']
        simp
      by_cases hj0 : j = 0
      · subst hj0
        repeat' (first
 | refine op_callP 2 (add_am d s en _ _ _ _ (by first | omega | (simp only [List.length_append, List.length_cons, List.length_nil]; omega))) rfl (by simp [AV.onlys, AV.only]) (by simp [AV.only, AV.onlys]) rfl rfl rfl (cO_free _ _ _ _) (cO_free _ _ _ _) rfl ⟨rfl, trivial⟩ (fun t h => by injection h with h; subst h; exact tl hn rfl) ?_
 | refine op_callP 2 (call_am d s en _ _ (by first | omega | (simp only [List.length_append, List.length_cons, List.length_nil]; omega)) (by omega) (by omega)) rfl (by simp [AV.onlys, AV.only]) (by simp [AV.only, AV.onlys]) rfl rfl rfl (cO_free _ _ _ _) (cO_free _ _ _ _) rfl ⟨rfl, trivial⟩ (fun t h => by injection h with h; subst h; exact tl hn rfl) ?_
 | refine RunsL.step tabOk hn rfl ?_
 | refine RunsL.nil ?_
 | refine Runs.toRegion 30 rfl ?_
 | (refine Runs.ctls 30 rfl ?_; first | refine Runs.cond_f rfl ?_ | ((first | refine Runs.cond_yes rfl ?_ ?_ | refine Runs.cond_nno rfl ?_ ?_); · first | omega | rfl | assumption | (simp only [List.length_map]; omega)) | ((first | refine Runs.cond_no rfl ?_ ?_ | refine Runs.cond_nyes rfl ?_ ?_); · first | omega | rfl | assumption | (simp only [List.length_map]; omega)) )
 | refine op_box rfl (tl hn rfl) ?_
 | refine RunsD.step tabOk hn rfl rfl ?_
 | refine RunsD.nil ?_
 | refine Runs.toDraw 30 mixed hn rfl (by kernel_rfl) rfl ?_
 | ((first | refine RunsL.pe hn rfl rfl rfl ?_ | refine RunsD.pe rfl rfl ?_); first
 | refine ⟨_, pu_add rfl rfl (by omega), ?_⟩
 | refine ⟨_, pu_indexAddr_map rfl rfl (by omega) (by assumption), ?_⟩
 | refine ⟨_, pu_sub rfl rfl (by omega), ?_⟩
 | refine ⟨_, pu_pick_b rfl rfl rfl, ?_⟩
 | refine ⟨_, pu_mul rfl rfl (by omega), ?_⟩
 | refine ⟨_, pu_build rfl rfl rfl rfl rfl rfl, ?_⟩))
        all_goals first
          | (exfalso; omega)
          | exact next2 _ _ ⟨rfl, rfl, rfl, rfl, trivial⟩ hlt trivial (cO_app (by rw [hbn]; rfl))
      · repeat' (first
 | refine op_callP 2 (add_am d s en _ _ _ _ (by first | omega | (simp only [List.length_append, List.length_cons, List.length_nil]; omega))) rfl (by simp [AV.onlys, AV.only]) (by simp [AV.only, AV.onlys]) rfl rfl rfl (cO_free _ _ _ _) (cO_free _ _ _ _) rfl ⟨rfl, trivial⟩ (fun t h => by injection h with h; subst h; exact tl hn rfl) ?_
 | refine op_callP 2 (call_am d s en _ _ (by first | omega | (simp only [List.length_append, List.length_cons, List.length_nil]; omega)) (by omega) (by omega)) rfl (by simp [AV.onlys, AV.only]) (by simp [AV.only, AV.onlys]) rfl rfl rfl (cO_free _ _ _ _) (cO_free _ _ _ _) rfl ⟨rfl, trivial⟩ (fun t h => by injection h with h; subst h; exact tl hn rfl) ?_
 | refine RunsL.step tabOk hn rfl ?_
 | refine RunsL.nil ?_
 | refine Runs.toRegion 30 rfl ?_
 | (refine Runs.ctls 30 rfl ?_; first | refine Runs.cond_f rfl ?_ | ((first | refine Runs.cond_yes rfl ?_ ?_ | refine Runs.cond_nno rfl ?_ ?_); · first | omega | rfl | assumption | (simp only [List.length_map]; omega)) | ((first | refine Runs.cond_no rfl ?_ ?_ | refine Runs.cond_nyes rfl ?_ ?_); · first | omega | rfl | assumption | (simp only [List.length_map]; omega)) )
 | refine op_box rfl (tl hn rfl) ?_
 | refine RunsD.step tabOk hn rfl rfl ?_
 | refine RunsD.nil ?_
 | refine Runs.toDraw 30 mixed hn rfl (by kernel_rfl) rfl ?_
 | ((first | refine RunsL.pe hn rfl rfl rfl ?_ | refine RunsD.pe rfl rfl ?_); first
 | refine ⟨_, pu_add rfl rfl (by omega), ?_⟩
 | refine ⟨_, pu_indexAddr_map rfl rfl (by omega) (by assumption), ?_⟩
 | refine ⟨_, pu_sub rfl rfl (by omega), ?_⟩
 | refine ⟨_, pu_pick_b rfl rfl rfl, ?_⟩
 | refine ⟨_, pu_mul rfl rfl (by omega), ?_⟩
 | refine ⟨_, pu_build rfl rfl rfl rfl rfl rfl, ?_⟩))
        all_goals first
          | (exfalso; omega)
          | exact next2 _ _ ⟨rfl, rfl, rfl, rfl, trivial⟩ hlt trivial (cO_app (by rw [hbn, if_neg hj0]; simp))
    · obtain rfl : j = x.tags.length := by omega
      repeat' (first
 | refine RunsL.step tabOk hn rfl ?_
 | refine RunsL.nil ?_
 | refine Runs.toRegion 30 rfl ?_
 | (refine Runs.ctls 30 rfl ?_; first | refine Runs.cond_f rfl ?_ | ((first | refine Runs.cond_yes rfl ?_ ?_ | refine Runs.cond_nno rfl ?_ ?_); · first | omega | rfl | assumption | (simp only [List.length_map]; omega)) | ((first | refine Runs.cond_no rfl ?_ ?_ | refine Runs.cond_nyes rfl ?_ ?_); · first | omega | rfl | assumption | (simp only [List.length_map]; omega)) )
 | refine op_box rfl (tl hn rfl) ?_
 | refine RunsD.step tabOk hn rfl rfl ?_
 | refine RunsD.nil ?_
 | refine Runs.toDraw 30 mixed hn rfl (by kernel_rfl) rfl ?_
 | ((first | refine RunsL.pe hn rfl rfl rfl ?_ | refine RunsD.pe rfl rfl ?_); first
 | refine ⟨_, pu_add rfl rfl (by omega), ?_⟩
 | refine ⟨_, pu_indexAddr_map rfl rfl (by omega) (by assumption), ?_⟩
 | refine ⟨_, pu_sub rfl rfl (by omega), ?_⟩
 | refine ⟨_, pu_pick_b rfl rfl rfl, ?_⟩
 | refine ⟨_, pu_mul rfl rfl (by omega), ?_⟩
 | refine ⟨_, pu_build rfl rfl rfl rfl rfl rfl, ?_⟩))
      refine Runs.ctls 30 rfl ?_
      refine Runs.endA (t := 0) rfl (cO_app ?_) (by simp [cO]) (cO_free _ _ _ _) rfl
      simp [bodyI, hk, choB, choA]
end Go.Proofs.YtofefjklipglhaaDoor
/- The code of a rule: the program's side. -/
namespace Go.Proofs.YtofefjklipglhaaDoor
set_option linter.unusedSimpArgs false
set_option linter.unusedVariables false
set_option maxRecDepth 100000
open Go.RowKit
open AV (Mem Keeps)
set_option maxRecDepth 100000
instance t1_cmpF : T1 Tryd.prog 49 := ⟨by kernel_rfl⟩
instance sl_cmpF : SL Tryd.prog 52 49 (.nilFunc) 1 8 := ⟨Elem.mk' Tryd.underlying52 (by kernel_rfl) rfl (by decide)⟩
def tblC : List AV := [.fn (.func 27) [] [], .fn (.func 28) [] [], .fn (.func 29) [] [], .fn (.func 30) [] [], .fn (.func 31) [] [], .fn (.func 32) [] [], .fn (.func 33) [] [], .fn (.func 34) [] [], .fn (.func 35) [] [], .fn (.func 36) [] []]
theorem body_len {d : Des} {x : Rul} {en : List Int} (s : Int) (hk : KindOk d x) (ht : x.total ≤ 1048576) : (bodyI x s en).length ≤ 4194304 := by
  have etx : x.total = x.name.size + x.bytes.length + (x.names.length + (x.names.map ByteArray.size).sum) + x.tags.length + x.kids.length := rfl
  have hc := chCalls_len x.kids en x.tags.length
  unfold bodyI
  split
  · simp
  split
  · rw [List.length_map]; omega
  split
  · simp
  split
  · simp
  split
  · simp
  split
  · rw [List.length_map]; omega
  split
  · simp only [List.length_cons, List.length_append, chTags_len]; omega
  split
  · simp
  split
  · simp
  · simp
theorem rens_rosC (r : Nat → Nat) : ∀ rs : List RV, AV.rens r (rs.map .ro) = rs.map .ro
  | [] => rfl
  | x :: rs => by simp only [List.map_cons, AV.rens, AV.ren, rens_rosC r rs]
set_option maxHeartbeats 8000000 in
theorem compile_with {f : FuncId} {fn : Func} [FN Tryd.prog f fn] (d : Des) (hd : dtotal d ≤ 1048576) (n : Nat) (x : Rul) (hx : d[n]? = some x) (s : Int) (en : List Int) (hkn : ACv Tryd.prog 26 [desR d, .int (n : Int)] (.bool true)) (hen : n ≤ en.length) (hk : KindOk d x) (h1 : 1 ≤ x.kind) (h2 : x.kind ≤ 10)
    (hM : AM Tryd.prog f (cO d s en []) [0] [.obj 0 0, .ro (.agg (rulR x))] (cO d s en (bodyI x s en)) (.tup [])) (hT : tblC[(x.kind - 1).toNat * 1]? = some (.fn (.func f) [] [])) :
    AC Tryd.prog 10 [desR d, .int (n : Int), .int s, intsR en] (fun rr => rr = .row 38 3 ((ruleI x s en).flatMap insR)) := by
  have hlm : (d.map rulR).length = d.length := List.length_map ..
  have hle : (en.map fun z => [RV.int z]).length = en.length := List.length_map ..
  have hx' : d[(n : Int).toNat]? = some x := hx
  have hb := body_len s (en := en) hk (Nat.le_trans (by have := sum_mem_le Rul.total (List.mem_of_getElem? hx); have et : dtotal d = d.length + (d.map Rul.total).sum := rfl; omega) hd)
  have hA := add_am d s en (bodyI x s en) 10 0 0 (by omega)
  refine ac_enter Tryd.func10 rfl _ Tryd.ntmps10 (by simp) fun C hn hm => ?_
  repeat' (first
 | refine Runs.toDrawT (id := 6) 30 [] [0, 1, 2, 3, 4, 5, 6, 7] 8 [] mixed hn rfl (by kernel_rfl) rfl .nil (by decide) (by decide) (by decide) ?_
 | refine op_build rfl rfl rfl rfl rfl (tl hn rfl) ?_
 | refine RunsT.nil ?_
 | refine RunsT.step tabOk rfl rfl (fun _ => rfl) (by decide) ?_
 | refine RunsT.pur (fun _ => pu_callR hkn rfl) (by decide) rfl rfl ?_
 | refine RunsT.pur (fun _ => pu_buildS rfl) (by decide) rfl rfl ?_
 | refine RunsT.pur (fun _ => pu_indexAddr_own (n := 10) rfl rfl rfl rfl rfl (by omega) (by omega)) (by decide) rfl rfl ?_
 | refine RunsT.pur (fun _ => pu_load_obj rfl rfl hT) (by decide) rfl rfl ?_
 | refine RunsT.pur (fun _ => pu_nilCheckO rfl) (by decide) rfl rfl ?_
 | refine RunsT.pur (fun _ => pu_sub rfl rfl (by omega)) (by decide) rfl rfl ?_
 | refine RunsT.pur (fun _ => pu_indexAddr_map rfl rfl (by omega) (by assumption)) (by decide) rfl rfl ?_
 | refine RunsL.step tabOk hn rfl ?_
 | refine RunsL.nil ?_
 | refine Runs.toRegion 30 rfl ?_
 | ((first | refine RunsL.pe hn rfl rfl rfl ?_ | refine RunsD.pe rfl rfl ?_); first
 | refine ⟨_, pu_callR hkn rfl, ?_⟩
 | refine ⟨_, pu_buildS rfl, ?_⟩
 | refine ⟨_, pu_indexAddr_own (n := 10) rfl rfl rfl rfl rfl (by omega) (by omega), ?_⟩
 | refine ⟨_, pu_load_obj rfl rfl hT, ?_⟩
 | refine ⟨_, pu_nilCheckO rfl, ?_⟩
 | refine ⟨_, pu_sub rfl rfl (by omega), ?_⟩)
 | (refine Runs.ctls 30 rfl ?_; first | ((first | refine Runs.cond_yes rfl ?_ ?_ | refine Runs.cond_nno rfl ?_ ?_); · first | omega | rfl | assumption | (simp only [List.length_map]; omega)) | ((first | refine Runs.cond_no rfl ?_ ?_ | refine Runs.cond_nyes rfl ?_ ?_); · first | omega | rfl | assumption | (simp only [List.length_map]; omega)) | refine Runs.ret (ends_ro hm rfl rfl ?_) | exact Runs.ret (ends_cellR hm rfl rfl rfl (Nat.le_of_ble_eq_true rfl) rfl rfl))
 | refine op_box rfl (tl hn rfl) ?_
 | refine op_alloc (tl hn rfl) ?_
 | refine op_storeN rfl rfl rfl rfl (Nat.le_of_ble_eq_true rfl) ?_
 | ((first | refine RunsL.pe hn rfl rfl rfl ?_ | refine RunsD.pe rfl rfl ?_); first
 | refine ⟨_, pu_add rfl rfl (by omega), ?_⟩
 | refine ⟨_, pu_indexAddr_map rfl rfl (by omega) (by assumption), ?_⟩
 | refine ⟨_, pu_sub rfl rfl (by omega), ?_⟩
 | refine ⟨_, pu_pick_b rfl rfl rfl, ?_⟩
 | refine ⟨_, pu_mul rfl rfl (by omega), ?_⟩
 | refine ⟨_, pu_build rfl rfl rfl rfl rfl rfl, ?_⟩)
 | ((first | refine RunsL.guard_dec rfl rfl rfl ?_ ?_ | refine RunsL.guard_ndec rfl rfl rfl ?_ ?_ | refine RunsL.guard_nb rfl rfl rfl ?_ ?_ | refine RunsL.guard_b rfl rfl rfl ?_ ?_ | refine RunsD.guard_dec rfl rfl rfl ?_ ?_ | refine RunsD.guard_ndec rfl rfl rfl ?_ ?_ | refine RunsD.guard_nb rfl rfl rfl ?_ ?_ | refine RunsD.guard_b rfl rfl rfl ?_ ?_) <;> intro h <;> try (exfalso; first | omega | contradiction | (simp only [List.length_map] at h; omega))))
  refine RunsL.nilCell 2 3 (e := 38) (sz := 3) (by decide) rfl rfl ?_
  refine op_callMF [2, 4] rfl hM rfl (by simp [AV.onlys, AV.only, cO]) ⟨rfl, rfl, rfl, by decide, ⟨rfl, rfl, trivial⟩, cO_free _ _ _ _, rfl, ⟨.inr rfl, .inr rfl, .inl rfl, .inr rfl, .inl rfl, trivial⟩⟩ (fun t h => by injection h with h; subst h; exact tl hn rfl) ?_
  repeat' (first
 | refine op_callM [2, 4] hA rfl (by simp [AV.onlys, AV.only, cO]) ⟨rfl, rfl, rfl, by decide, ⟨rfl, rfl, trivial⟩, cO_free _ _ _ _, rfl, ⟨.inr rfl, .inr rfl, .inl rfl, .inr rfl, .inl rfl, trivial⟩⟩ (fun t h => by injection h with h; subst h; exact tl hn rfl) ?_
 | refine RunsL.step tabOk hn rfl ?_
 | refine RunsL.nil ?_
 | refine Runs.toRegion 30 rfl ?_
 | ((first | refine RunsL.pe hn rfl rfl rfl ?_ | refine RunsD.pe rfl rfl ?_); first
 | refine ⟨_, pu_nilCheckO rfl, ?_⟩)
 | (refine Runs.ctls 30 rfl ?_; first | ((first | refine Runs.cond_yes rfl ?_ ?_ | refine Runs.cond_nno rfl ?_ ?_); · first | omega | rfl | assumption | (simp only [List.length_map]; omega)) | ((first | refine Runs.cond_no rfl ?_ ?_ | refine Runs.cond_nyes rfl ?_ ?_); · first | omega | rfl | assumption | (simp only [List.length_map]; omega)) | refine Runs.ret (ends_ro hm rfl rfl ?_) | exact Runs.ret (ends_cellR hm rfl rfl rfl (Nat.le_of_ble_eq_true rfl) rfl rfl))
 | refine op_box rfl (tl hn rfl) ?_
 | refine op_alloc (tl hn rfl) ?_
 | refine op_storeN rfl rfl rfl rfl (Nat.le_of_ble_eq_true rfl) ?_
 | ((first | refine RunsL.pe hn rfl rfl rfl ?_ | refine RunsD.pe rfl rfl ?_); first
 | refine ⟨_, pu_add rfl rfl (by omega), ?_⟩
 | refine ⟨_, pu_indexAddr_map rfl rfl (by omega) (by assumption), ?_⟩
 | refine ⟨_, pu_sub rfl rfl (by omega), ?_⟩
 | refine ⟨_, pu_pick_b rfl rfl rfl, ?_⟩
 | refine ⟨_, pu_mul rfl rfl (by omega), ?_⟩
 | refine ⟨_, pu_build rfl rfl rfl rfl rfl rfl, ?_⟩)
 | ((first | refine RunsL.guard_dec rfl rfl rfl ?_ ?_ | refine RunsL.guard_ndec rfl rfl rfl ?_ ?_ | refine RunsL.guard_nb rfl rfl rfl ?_ ?_ | refine RunsL.guard_b rfl rfl rfl ?_ ?_ | refine RunsD.guard_dec rfl rfl rfl ?_ ?_ | refine RunsD.guard_ndec rfl rfl rfl ?_ ?_ | refine RunsD.guard_nb rfl rfl rfl ?_ ?_ | refine RunsD.guard_b rfl rfl rfl ?_ ?_) <;> intro h <;> try (exfalso; first | omega | contradiction | (simp only [List.length_map] at h; omega))))
  exact Runs.ctls 30 rfl (Runs.ret (ends_own (rs := (ruleI x s en).flatMap insR) hm rfl rfl rfl (rens_rosC _ _) rfl))
theorem cmp_bounds {d : Des} {x : Rul} (h : KindOk d x) : 1 ≤ x.kind ∧ x.kind ≤ 10 := by
  unfold KindOk at h
  omega
theorem compile_yes (d : Des) (hd : dtotal d ≤ 1048576) (hG : Good' d) (n : Nat) (x : Rul) (hx : d[n]? = some x) (s : Int) (en : List Int) (hkn : ACv Tryd.prog 26 [desR d, .int (n : Int)] (.bool true)) (hen : n ≤ en.length) :
    AC Tryd.prog 10 [desR d, .int (n : Int), .int s, intsR en] (fun rr => rr = .row 38 3 ((ruleI x s en).flatMap insR)) := by
  have hk := kind_at hG hx
  have hr : RuleOkC d x en := ⟨hk, fun k z hz => by have := kids_at hG hx hz; omega⟩
  obtain ⟨b1, b2⟩ := cmp_bounds hk
  have hxt := sum_mem_le Rul.total (List.mem_of_getElem? hx)
  have et : dtotal d = d.length + (d.map Rul.total).sum := rfl
  have etx : x.total = x.name.size + x.bytes.length + (x.names.length + (x.names.map ByteArray.size).sum) + x.tags.length + x.kids.length := rfl
  have hb10 : x.kind = 10 → x.bytes.length = 1 := fun e => by
    have h := hk
    unfold KindOk at h
    omega
  have hkk : x.kind = 1 ∨ x.kind = 2 ∨ x.kind = 3 ∨ x.kind = 4 ∨ x.kind = 5 ∨ x.kind = 6 ∨ x.kind = 7 ∨ x.kind = 8 ∨ x.kind = 9 ∨ x.kind = 10 := by omega
  rcases hkk with e | e | e | e | e | e | e | e | e | e
  · exact compile_with d hd n x hx s en hkn hen hk b1 b2 (integer_am d s en x e) (by rw [e]; rfl)
  · exact compile_with d hd n x hx s en hkn hen hk b1 b2 (constant_am d s en x e (by omega)) (by rw [e]; rfl)
  · exact compile_with d hd n x hx s en hkn hen hk b1 b2 (fixed_am d s en x e) (by rw [e]; rfl)
  · exact compile_with d hd n x hx s en hkn hen hk b1 b2 (sized_am d s en x e hr) (by rw [e]; rfl)
  · exact compile_with d hd n x hx s en hkn hen hk b1 b2 (array_am d s en x e hr) (by rw [e]; rfl)
  · exact compile_with d hd n x hx s en hkn hen hk b1 b2 (sequence_am d s en x e hr (by omega)) (by rw [e]; rfl)
  · exact compile_with d hd n x hx s en hkn hen hk b1 b2 (choice_am d s en x e hr (by omega)) (by rw [e]; rfl)
  · exact compile_with d hd n x hx s en hkn hen hk b1 b2 (option_am d s en x e hr) (by rw [e]; rfl)
  · exact compile_with d hd n x hx s en hkn hen hk b1 b2 (checked_am d s en x e hr) (by rw [e]; rfl)
  · exact compile_with d hd n x hx s en hkn hen hk b1 b2 (terminated_am d s en x e (hb10 e)) (by rw [e]; rfl)
noncomputable def cmpL (d : Des) (r s : Int) (en : List Int) : List Ins := open Classical in if Kn d r ∧ r ≤ en.length then (match d[r.toNat]? with
  | some x => ruleI x s en
  | none => []) else []
theorem cmpL_yes {d : Des} {r s : Int} {en : List Int} {x : Rul} (h : Kn d r ∧ r ≤ en.length) (hx : d[r.toNat]? = some x) : cmpL d r s en = ruleI x s en := by unfold cmpL; rw [if_pos h, hx]
theorem cmpL_no {d : Des} {r s : Int} {en : List Int} (h : ¬ (Kn d r ∧ r ≤ en.length)) : cmpL d r s en = [] := by unfold cmpL; rw [if_neg h]
set_option maxHeartbeats 4000000 in
theorem impl_CompileRule (d : Des) (ho : DesOk d) (hd : dtotal d ≤ 1048576) (r s : Int) (en : List Int) : AC Tryd.prog 10 [desR d, .int r, .int s, intsR en] (fun rr => rr = .row 38 3 ((cmpL d r s en).flatMap insR)) := by
  have hkn := known_ac d ho hd r
  have hle : (en.map fun z => [RV.int z]).length = en.length := List.length_map ..
  by_cases hK : Kn d r
  · rw [decide_eq_true hK] at hkn
    obtain ⟨n, x, rfl, hn', hx⟩ := kn_nat hK
    by_cases hen : (n : Int) ≤ en.length
    · rw [cmpL_yes ⟨hK, hen⟩ hx]
      exact compile_yes d hd hK.1 n x hx s en hkn (by omega)
    · rw [cmpL_no fun h => hen h.2]
      refine ac_enter Tryd.func10 rfl _ Tryd.ntmps10 (by simp) fun C hn hm => ?_
      repeat' (first
 | refine op_build0 (tl hn rfl) ?_
 | refine RunsL.step tabOk hn rfl ?_
 | refine RunsL.nil ?_
 | refine Runs.toRegion 30 rfl ?_
 | ((first | refine RunsL.pe hn rfl rfl rfl ?_ | refine RunsD.pe rfl rfl ?_); first
 | refine ⟨_, pu_callR hkn rfl, ?_⟩)
 | (refine Runs.ctls 30 rfl ?_; first | refine Runs.cond_t rfl ?_ | ((first | refine Runs.cond_yes rfl ?_ ?_ | refine Runs.cond_nno rfl ?_ ?_); · first | omega | rfl | assumption | (simp only [List.length_map]; omega)) | ((first | refine Runs.cond_no rfl ?_ ?_ | refine Runs.cond_nyes rfl ?_ ?_); · first | omega | rfl | assumption | (simp only [List.length_map]; omega)) | refine Runs.ret (ends_ro hm rfl rfl ?_) | exact Runs.ret (ends_cellR hm rfl rfl rfl (Nat.le_of_ble_eq_true rfl) rfl rfl))
 | refine op_box rfl (tl hn rfl) ?_
 | ((first | refine RunsL.pe hn rfl rfl rfl ?_ | refine RunsD.pe rfl rfl ?_); first
 | refine ⟨_, pu_add rfl rfl (by omega), ?_⟩
 | refine ⟨_, pu_indexAddr_map rfl rfl (by omega) (by assumption), ?_⟩
 | refine ⟨_, pu_sub rfl rfl (by omega), ?_⟩
 | refine ⟨_, pu_pick_b rfl rfl rfl, ?_⟩
 | refine ⟨_, pu_mul rfl rfl (by omega), ?_⟩
 | refine ⟨_, pu_build rfl rfl rfl rfl rfl rfl, ?_⟩)
 | ((first | refine RunsL.guard_dec rfl rfl rfl ?_ ?_ | refine RunsL.guard_ndec rfl rfl rfl ?_ ?_ | refine RunsL.guard_nb rfl rfl rfl ?_ ?_ | refine RunsL.guard_b rfl rfl rfl ?_ ?_ | refine RunsD.guard_dec rfl rfl rfl ?_ ?_ | refine RunsD.guard_ndec rfl rfl rfl ?_ ?_ | refine RunsD.guard_nb rfl rfl rfl ?_ ?_ | refine RunsD.guard_b rfl rfl rfl ?_ ?_) <;> intro h <;> try (exfalso; first | omega | contradiction | (simp only [List.length_map] at h; omega))))
      all_goals first
        | exact Runs.ctls 30 rfl (Runs.ret (ends_own (rs := []) hm rfl rfl rfl rfl rfl))
        | (exfalso; omega)
  · rw [decide_eq_false hK] at hkn
    rw [cmpL_no fun h => hK h.1]
    refine ac_enter Tryd.func10 rfl _ Tryd.ntmps10 (by simp) fun C hn hm => ?_
    repeat' (first
 | refine op_build0 (tl hn rfl) ?_
 | refine RunsL.step tabOk hn rfl ?_
 | refine RunsL.nil ?_
 | refine Runs.toRegion 30 rfl ?_
 | ((first | refine RunsL.pe hn rfl rfl rfl ?_ | refine RunsD.pe rfl rfl ?_); first
 | refine ⟨_, pu_callR hkn rfl, ?_⟩)
 | (refine Runs.ctls 30 rfl ?_; first | refine Runs.cond_t rfl ?_ | ((first | refine Runs.cond_yes rfl ?_ ?_ | refine Runs.cond_nno rfl ?_ ?_); · first | omega | rfl | assumption | (simp only [List.length_map]; omega)) | ((first | refine Runs.cond_no rfl ?_ ?_ | refine Runs.cond_nyes rfl ?_ ?_); · first | omega | rfl | assumption | (simp only [List.length_map]; omega)) | refine Runs.ret (ends_ro hm rfl rfl ?_) | exact Runs.ret (ends_cellR hm rfl rfl rfl (Nat.le_of_ble_eq_true rfl) rfl rfl))
 | refine op_box rfl (tl hn rfl) ?_
 | ((first | refine RunsL.pe hn rfl rfl rfl ?_ | refine RunsD.pe rfl rfl ?_); first
 | refine ⟨_, pu_add rfl rfl (by omega), ?_⟩
 | refine ⟨_, pu_indexAddr_map rfl rfl (by omega) (by assumption), ?_⟩
 | refine ⟨_, pu_sub rfl rfl (by omega), ?_⟩
 | refine ⟨_, pu_pick_b rfl rfl rfl, ?_⟩
 | refine ⟨_, pu_mul rfl rfl (by omega), ?_⟩
 | refine ⟨_, pu_build rfl rfl rfl rfl rfl rfl, ?_⟩)
 | ((first | refine RunsL.guard_dec rfl rfl rfl ?_ ?_ | refine RunsL.guard_ndec rfl rfl rfl ?_ ?_ | refine RunsL.guard_nb rfl rfl rfl ?_ ?_ | refine RunsL.guard_b rfl rfl rfl ?_ ?_ | refine RunsD.guard_dec rfl rfl rfl ?_ ?_ | refine RunsD.guard_ndec rfl rfl rfl ?_ ?_ | refine RunsD.guard_nb rfl rfl rfl ?_ ?_ | refine RunsD.guard_b rfl rfl rfl ?_ ?_) <;> intro h <;> try (exfalso; first | omega | contradiction | (simp only [List.length_map] at h; omega))))
    exact Runs.ctls 30 rfl (Runs.ret (ends_own (rs := []) hm rfl rfl rfl rfl rfl))
end Go.Proofs.YtofefjklipglhaaDoor
/- The code of a rule: the reference's side. -/
namespace Go.Proofs.YtofefjklipglhaaDoor
set_option linter.unusedSimpArgs false
set_option linter.unusedVariables false
set_option maxRecDepth 100000
open Go.RowKit
open AV (Mem Keeps)
set_option maxRecDepth 100000
end Go.Proofs.YtofefjklipglhaaDoor
/- The code of a rule: the reference's side, whole. -/
namespace Go.Proofs.YtofefjklipglhaaDoor
set_option linter.unusedSimpArgs false
set_option linter.unusedVariables false
set_option maxRecDepth 100000
open Go.RowKit
open AV (Mem Keeps)
set_option maxRecDepth 100000
end Go.Proofs.YtofefjklipglhaaDoor
/- The code of a rule: how long it is. -/
namespace Go.Proofs.YtofefjklipglhaaDoor
set_option linter.unusedSimpArgs false
set_option linter.unusedVariables false
set_option maxRecDepth 100000
open Go.RowKit
theorem body_len' {d : Des} {x : Rul} {en : List Int} (s : Int) (hk : KindOk d x) (ht : x.total ≤ 1048576) : (bodyI x s en).length ≤ 6 + 3 * x.total := by
  have etx : x.total = x.name.size + x.bytes.length + (x.names.length + (x.names.map ByteArray.size).sum) + x.tags.length + x.kids.length := rfl
  have hc := chCalls_len x.kids en x.tags.length
  unfold bodyI
  split
  · simp only [List.length_cons, List.length_nil]; omega
  split
  · rw [List.length_map]; omega
  split
  · simp only [List.length_cons, List.length_nil]; omega
  split
  · simp only [List.length_cons, List.length_nil]; omega
  split
  · simp only [List.length_cons, List.length_nil]; omega
  split
  · rw [List.length_map]; omega
  split
  · simp only [List.length_cons, List.length_append, chTags_len]; omega
  split
  · simp only [List.length_cons, List.length_nil]; omega
  split
  · simp only [List.length_cons, List.length_nil]; omega
  · simp only [List.length_cons, List.length_nil]; omega
end Go.Proofs.YtofefjklipglhaaDoor
