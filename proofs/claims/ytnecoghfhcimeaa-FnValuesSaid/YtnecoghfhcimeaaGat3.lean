/- Gathered texts. -/
import Derived.Test.YtnecoghfhcimeaaGat0
import Derived.Test.YtnecoghfhcimeaaGat1
import Derived.Test.YtnecoghfhcimeaaGat2
/- The draw of a rule: what it may be. -/
namespace Go.Proofs.Ytnecoghfhcimeaa
set_option linter.unusedSimpArgs false
set_option linter.unusedVariables false
open Go.RowKit
open AV (Mem Keeps)
def baseA : List ByteArray := [⟨#[97]⟩, ⟨#[105, 116, 101, 109]⟩, ⟨#[98]⟩, ⟨#[104, 101, 97, 100]⟩, ⟨#[120]⟩]
def baseP : List ByteArray := [⟨#[112]⟩, ⟨#[113]⟩, ⟨#[114]⟩]
def itoaS (n : Int) : ByteArray := ⟨(Lib.itoa n).toArray⟩
theorem baseA_size : ∀ x ∈ baseA, x.size ≤ 4 := by
  intro x hx
  simp only [baseA, List.mem_cons, List.not_mem_nil, or_false] at hx
  rcases hx with rfl | rfl | rfl | rfl | rfl <;> decide
theorem baseP_size : ∀ x ∈ baseP, x.size ≤ 4 := by
  intro x hx
  simp only [baseP, List.mem_cons, List.not_mem_nil, or_false] at hx
  rcases hx with rfl | rfl | rfl <;> decide
def InD (d : Des) (z : Int) : Prop := (d.length = 0 → z = 0) ∧ (0 < d.length → 0 ≤ z ∧ z < d.length)
structure RuleD (d : Des) (kind : Int) (r : Rul) : Prop where
  hkind : r.kind = kind
  hname : ∃ a ∈ baseA, r.name = a ++ itoaS d.length
  hsize : (kind = 1 → 1 ≤ r.size ∧ r.size ≤ 3) ∧ (kind = 3 → 1 ≤ r.size ∧ r.size ≤ 4) ∧ (kind ≠ 1 → kind ≠ 3 → r.size = 0)
  hlittle : r.little = true → kind = 1 ∧ 1 < r.size
  hbytes : (kind = 2 → 1 ≤ r.bytes.length ∧ r.bytes.length ≤ 3) ∧ (kind = 10 → ∃ x ∈ ([0, 10, 59, 255] : List Int), r.bytes = [u8i x]) ∧ (kind ≠ 2 → kind ≠ 10 → r.bytes = [])
  hnames : (kind = 6 → 1 ≤ r.names.length ∧ r.names.length ≤ 3 ∧ ∀ (j : Nat) x, r.names[j]? = some x → ∃ a ∈ baseP, x = a ++ itoaS ((r.names.length : Int) - j)) ∧ (kind ≠ 6 → r.names = [])
  htags : (kind = 7 → 1 ≤ r.tags.length ∧ r.tags.length ≤ 3 ∧ ∀ (j : Nat) z, r.tags[j]? = some z → 4 * (j : Int) ≤ z ∧ z ≤ 4 * j + 3) ∧ (kind ≠ 7 → r.tags = [])
  hkids : (kind = 4 → ∃ x, IsInt d x ∧ r.kids = [x]) ∧ (kind = 5 → ∃ x y, IsInt d x ∧ InD d y ∧ r.kids = [x, y]) ∧ (kind = 6 → r.kids.length = r.names.length ∧ ∀ z ∈ r.kids, InD d z) ∧
    (kind = 7 → ∃ x l, IsInt d x ∧ l.length = r.tags.length ∧ (∀ z ∈ l, InD d z) ∧ r.kids = x :: l) ∧ (kind = 8 ∨ kind = 9 → ∃ y, InD d y ∧ r.kids = [y]) ∧ (kind = 1 ∨ kind = 2 ∨ kind = 3 ∨ kind = 10 → r.kids = [])
section
variable {d : Des} {a : ByteArray}
theorem ruleD1 {s : Int} {lt : Bool} (ha : a ∈ baseA) (h : 1 ≤ s ∧ s ≤ 3) (hl : lt = true → 1 < s) : RuleD d 1 ⟨a ++ itoaS d.length, 1, s, lt, [], [], [], []⟩ :=
  ⟨rfl, ⟨a, ha, rfl⟩, by simp; exact h, fun e => ⟨rfl, hl e⟩, by simp, by simp, by simp, by simp⟩
theorem ruleD2 {x : List UInt8} (ha : a ∈ baseA) (h : 1 ≤ x.length ∧ x.length ≤ 3) : RuleD d 2 ⟨a ++ itoaS d.length, 2, 0, false, x, [], [], []⟩ :=
  ⟨rfl, ⟨a, ha, rfl⟩, by simp, by simp, by simp; exact h, by simp, by simp, by simp⟩
theorem ruleD3 {s : Int} (ha : a ∈ baseA) (h : 1 ≤ s ∧ s ≤ 4) : RuleD d 3 ⟨a ++ itoaS d.length, 3, s, false, [], [], [], []⟩ :=
  ⟨rfl, ⟨a, ha, rfl⟩, by simp; exact h, by simp, by simp, by simp, by simp, by simp⟩
theorem ruleD4 {x : Int} (ha : a ∈ baseA) (h : IsInt d x) : RuleD d 4 ⟨a ++ itoaS d.length, 4, 0, false, [], [], [], [x]⟩ :=
  ⟨rfl, ⟨a, ha, rfl⟩, by simp, by simp, by simp, by simp, by simp, by simp [h]⟩
theorem ruleD5 {x y : Int} (ha : a ∈ baseA) (h : IsInt d x) (hy : InD d y) : RuleD d 5 ⟨a ++ itoaS d.length, 5, 0, false, [], [], [], [x, y]⟩ :=
  ⟨rfl, ⟨a, ha, rfl⟩, by simp, by simp, by simp, by simp, by simp, by simp [h, hy]⟩
theorem ruleD6 {l : List ByteArray} {k : List Int} (ha : a ∈ baseA) (h : 1 ≤ l.length ∧ l.length ≤ 3) (hl : ∀ (j : Nat) x, l[j]? = some x → ∃ a ∈ baseP, x = a ++ itoaS ((l.length : Int) - j)) (hk : k.length = l.length) (hk' : ∀ z ∈ k, InD d z) : RuleD d 6 ⟨a ++ itoaS d.length, 6, 0, false, [], l, [], k⟩ :=
  ⟨rfl, ⟨a, ha, rfl⟩, by simp, by simp, by simp, ⟨fun _ => ⟨h.1, h.2, hl⟩, by simp⟩, by simp, by simp; exact ⟨hk, hk'⟩⟩
theorem ruleD7 {t k : List Int} {x : Int} (ha : a ∈ baseA) (h : 1 ≤ t.length ∧ t.length ≤ 3) (ht : ∀ (j : Nat) z, t[j]? = some z → 4 * (j : Int) ≤ z ∧ z ≤ 4 * j + 3) (hx : IsInt d x) (hk : k.length = t.length) (hk' : ∀ z ∈ k, InD d z) : RuleD d 7 ⟨a ++ itoaS d.length, 7, 0, false, [], [], t, x :: k⟩ :=
  ⟨rfl, ⟨a, ha, rfl⟩, by simp, by simp, by simp, by simp, ⟨fun _ => ⟨h.1, h.2, ht⟩, by simp⟩, ⟨by simp, by simp, by simp, fun _ => ⟨x, k, hx, hk, hk', rfl⟩, by simp, by simp⟩⟩
theorem ruleD8 {y : Int} (ha : a ∈ baseA) (hy : InD d y) : RuleD d 8 ⟨a ++ itoaS d.length, 8, 0, false, [], [], [], [y]⟩ :=
  ⟨rfl, ⟨a, ha, rfl⟩, by simp, by simp, by simp, by simp, by simp, by simp [hy]⟩
theorem ruleD9 {y : Int} (ha : a ∈ baseA) (hy : InD d y) : RuleD d 9 ⟨a ++ itoaS d.length, 9, 0, false, [], [], [], [y]⟩ :=
  ⟨rfl, ⟨a, ha, rfl⟩, by simp, by simp, by simp, by simp, by simp, by simp [hy]⟩
theorem ruleD10 {y : Int} (ha : a ∈ baseA) (hy : y ∈ ([0, 10, 59, 255] : List Int)) : RuleD d 10 ⟨a ++ itoaS d.length, 10, 0, false, [u8i y], [], [], []⟩ :=
  ⟨rfl, ⟨a, ha, rfl⟩, by simp, by simp, ⟨by simp, fun _ => ⟨y, hy, rfl⟩, by simp⟩, by simp, by simp, by simp⟩
end
def rulRR (r : Rul) : RR := .agg [.ro (.str r.name), .ro (.int r.kind), .ro (.int r.size), .ro (.bool r.little), .row 5 1 (r.bytes.map RV.u8), .row 9 1 (r.names.map RV.str), .row 3 1 (r.tags.map RV.int), .row 3 1 (r.kids.map RV.int)]
theorem rulRR_ok (r : Rul) : flatR (rulRR r) = true ∧ Seals (rulRR r) (.agg (rulR r)) := by
  have fl : ∀ {α : Type} (f : α → RV) (l : List α), (∀ x, flat (f x) = true) → (l.map f).all flat = true := fun f l h => by simp [h]
  refine ⟨?_, ?_⟩
  · simp only [rulRR, flatR, flatRs, flat, fl RV.u8 r.bytes (fun _ => rfl), fl RV.str r.names (fun _ => rfl), fl RV.int r.tags (fun _ => rfl), fl RV.int r.kids (fun _ => rfl), Bool.and_self]
  · have sl : ∀ {α : Type} (e : TypeId) (f : α → RV) (l : List α), Seals (.row e 1 (l.map f)) (.seq 1 (l.map fun z => [f z])) := fun e f l => by
      simp only [Seals]; exact ⟨_, rfl, flat1 f l, len1 f l⟩
    simp only [rulRR, rulR]
    unfold Seals
    refine ⟨_, rfl, ?_⟩
    unfold SealsL; refine ⟨_, _, rfl, by simp [Seals], ?_⟩
    unfold SealsL; refine ⟨_, _, rfl, by simp [Seals], ?_⟩
    unfold SealsL; refine ⟨_, _, rfl, by simp [Seals], ?_⟩
    unfold SealsL; refine ⟨_, _, rfl, by simp [Seals], ?_⟩
    unfold SealsL; refine ⟨_, _, rfl, sl _ RV.u8 _, ?_⟩
    unfold SealsL; refine ⟨_, _, rfl, sl _ RV.str _, ?_⟩
    unfold SealsL; refine ⟨_, _, rfl, sl _ RV.int _, ?_⟩
    unfold SealsL; refine ⟨_, _, rfl, sl _ RV.int _, ?_⟩
    unfold SealsL; rfl
def rC (r : Rul) (a b c d : Nat) : List AV := [.str r.name, .int r.kind, .int r.size, .bool r.little, .own a, .own b, .own c, .own d]
def rowU (l : List UInt8) : Ob := ⟨5, 1, (l.map RV.u8).map .ro⟩
def rowS (l : List ByteArray) : Ob := ⟨9, 1, (l.map RV.str).map .ro⟩
def rowZ (l : List Int) : Ob := ⟨3, 1, (l.map RV.int).map .ro⟩
theorem harv_rul {σ : List Ob} {r : Rul} {a b c d : Nat} (h1 : σ[a]? = some (rowU r.bytes)) (h2 : σ[b]? = some (rowS r.names)) (h3 : σ[c]? = some (rowZ r.tags)) (h4 : σ[d]? = some (rowZ r.kids)) : Harv σ (rulRR r) (.agg (rC r a b c d)) [a, b, c, d] := by
  simp only [rulRR, rC, Harv, Harvs, rowU, rowS, rowZ] at *
  exact ⟨_, rfl, _, _, [], _, rfl, rfl, ⟨rfl, rfl⟩, _, _, [], _, rfl, rfl, ⟨rfl, rfl⟩, _, _, [], _, rfl, rfl, ⟨rfl, rfl⟩, _, _, [], _, rfl, rfl, ⟨rfl, rfl⟩, _, _, [a], _, rfl, rfl, ⟨a, rfl, h1, rfl⟩, _, _, [b], _, rfl, rfl, ⟨b, rfl, h2, rfl⟩, _, _, [c], _, rfl, rfl, ⟨c, rfl, h3, rfl⟩, _, _, [d], [], rfl, rfl, ⟨d, rfl, h4, rfl⟩, rfl, rfl⟩
def QRul (p : Rul → Prop) (rr : RR) : Prop := ∃ r, rr = rulRR r ∧ p r
theorem qrul_ok {p : Rul → Prop} : ∀ rr, QRul p rr → flatR rr = true ∧ ∃ r, Seals rr r ∧ ∃ x, r = .agg (rulR x) ∧ p x := by
  rintro _ ⟨x, rfl, hx⟩
  exact ⟨(rulRR_ok x).1, _, (rulRR_ok x).2, x, rfl, hx⟩
set_option maxRecDepth 100000 in
instance tb_rule : TB Try.prog 52 [(0, 1), (1, 1), (2, 1), (3, 1), (4, 1), (5, 1), (6, 1), (7, 1)] [.string ⟨#[]⟩, .int .i64 0, .int .i64 0, .bool false, .slice none 0 0, .slice none 0 0, .slice none 0 0, .slice none 0 0] := ⟨_, _, _, rfl, rfl, rfl, rfl, by kernel_rfl, by decide⟩
theorem ends_rul {C : Ctx} {fn : Func} {ct : TypeId} {b : List UInt8} {g : Nat} {u : Value} {p : Rul → Prop} {env : Env} {σ : List Ob} {i h : Int} {more : List Ob} {t j : Nat} {r : Rul} {tt : TypeId} {x y z w : Nat} (hm : ∀ x, C.mu x → x = g) (hr : fn.results = #[.cell t 52]) (hσ : σ = curOb ct u i h :: more) (ht : look env 0 = .pin 0 0 g) (hi : CurOk b i) (h1 : look env t = .obj j 0) (h2 : σ[j]? = some ⟨tt, 0, rC r x y z w⟩)
    (k1 : σ[x]? = some (rowU r.bytes)) (k2 : σ[y]? = some (rowS r.names)) (k3 : σ[z]? = some (rowZ r.tags)) (k4 : σ[w]? = some (rowZ r.kids)) (hn : [x, y, z, w].Nodup) (h0 : 0 ∉ [x, y, z, w]) (hQ : p r) : ∀ a w, Sim C ⟨env, σ⟩ a w → EndsD Try.prog C fn ct b g u (QRul p) a w :=
  endsD1 hm hr hσ ht hi (.agg (rC r x y z w)) (by
    simp only [ResV]
    exact ⟨j, 0, _, h1, h2, .inr ⟨8, by infer_instance, Nat.le_refl _, rfl⟩⟩) (rulRR r) [x, y, z, w] (harv_rul k1 k2 k3 k4) hn h0 ⟨r, rfl, hQ⟩
end Go.Proofs.Ytnecoghfhcimeaa
/- The draw of a rule: l4Make. -/
namespace Go.Proofs.Ytnecoghfhcimeaa
set_option linter.unusedSimpArgs false
set_option linter.unusedVariables false
open Go.RowKit
open AV (Mem Keeps)
set_option maxHeartbeats 8000000 in
theorem l4Make1_d (b : List UInt8) (hb : b.length ≤ 1048576) (d : Des) (hd : d.length ≤ 24) : Drw Try.prog 123 117 b [desR d, .int 1] (QRul (RuleD d 1)) := by
  have hlm : (d.map rulR).length = d.length := List.length_map ..
  have hF := spec_FormatInt (d.length : Int) (by constructor <;> omega)
  have hlen := itoa_len (d.length : Int) (by omega) (by omega)
  have hfs : (⟨(Lib.itoa (d.length : Int)).toArray⟩ : ByteArray).size ≤ 20 := by rw [ba_size]; exact hlen
  refine drw_enter Try.func117 rfl _ Try.ntmps117 (by simp) fun C g u i h hn hm hu hi => ?_
  repeat' (first
 | (refine op_drawS (l1Str_d b hb baseA (by decide) (by decide)) rfl hu hi rfl (LendsPL.ros [strsR baseA]) rfl (by first | rfl | repeat' (first | rfl | exact clns_ro _ | refine clnO_cons ?_ ?_)) (tl hn rfl) ?_; intro i h a hi ha; have hsz := baseA_size a ha)
 | (refine op_drawI (l1Below_d b hb _ (by omega)) rfl hu hi rfl (LendsPL.ros [.int _]) rfl (by first | rfl | repeat' (first | rfl | exact clns_ro _ | refine clnO_cons ?_ ?_)) (tl hn rfl) ?_; intro i h x hi hx; obtain ⟨hxa, hxb⟩ := hx.2 (by omega))
 | refine RunsL.guard_t rfl rfl rfl ?_
 | (refine op_drawB (l1Once_d b hb 2 (by decide)) rfl hu hi rfl (LendsPL.ros [.int 2]) rfl (by first | rfl | repeat' (first | rfl | exact clns_ro _ | refine clnO_cons ?_ ?_)) (tl hn rfl) ?_; intro i h lt hi)
 | ((first | refine RunsL.pe hn rfl rfl rfl ?_ | refine RunsD.pe rfl rfl ?_); first
 | refine ⟨_, pu_len_seqN d.length rfl hlm, ?_⟩)
 | refine RunsL.step tabOk hn rfl ?_
 | refine RunsL.nil ?_
 | refine Runs.toRegion 30 rfl ?_
 | ((first | refine RunsL.pe hn rfl rfl rfl ?_ | refine RunsD.pe rfl rfl ?_); first
 | refine ⟨_, pu_callR hF rfl, ?_⟩
 | refine ⟨_, pu_cat rfl rfl (by omega), ?_⟩
 | refine ⟨_, pu_buildS rfl, ?_⟩)
 | (refine Runs.ctls 30 rfl ?_; first | refine Runs.cond_t rfl ?_ | ((first | refine Runs.cond_yes rfl ?_ ?_ | refine Runs.cond_nno rfl ?_ ?_); · first | omega | rfl | assumption | (simp only [List.length_map]; omega)) | ((first | refine Runs.cond_no rfl ?_ ?_ | refine Runs.cond_nyes rfl ?_ ?_); · first | omega | rfl | assumption | (simp only [List.length_map]; omega)) | refine Runs.ret (ends_ro hm rfl rfl ?_) | exact Runs.ret (ends_cellR hm rfl rfl rfl (Nat.le_of_ble_eq_true rfl) rfl rfl))
 | refine op_box rfl (tl hn rfl) ?_
 | refine op_storeF rfl rfl rfl rfl (Nat.le_of_ble_eq_true rfl) ?_
 | refine op_alloc (tl hn rfl) ?_
 | refine op_storeN rfl rfl rfl rfl (Nat.le_of_ble_eq_true rfl) ?_
 | ((first | refine RunsL.pe hn rfl rfl rfl ?_ | refine RunsD.pe rfl rfl ?_); first
 | refine ⟨_, pu_add rfl rfl (by omega), ?_⟩
 | refine ⟨_, pu_indexAddr_map rfl rfl (by omega) (by assumption), ?_⟩
 | refine ⟨_, pu_sub rfl rfl (by omega), ?_⟩
 | refine ⟨_, pu_pick_b rfl rfl rfl, ?_⟩
 | refine ⟨_, pu_mul rfl rfl (by omega), ?_⟩
 | refine ⟨_, pu_build rfl rfl rfl rfl rfl rfl, ?_⟩)
 | ((first | refine RunsL.guard_dec rfl rfl rfl ?_ ?_ | refine RunsL.guard_ndec rfl rfl rfl ?_ ?_ | refine RunsL.guard_nb rfl rfl rfl ?_ ?_ | refine RunsL.guard_b rfl rfl rfl ?_ ?_ | refine RunsD.guard_dec rfl rfl rfl ?_ ?_ | refine RunsD.guard_ndec rfl rfl rfl ?_ ?_ | refine RunsD.guard_nb rfl rfl rfl ?_ ?_ | refine RunsD.guard_b rfl rfl rfl ?_ ?_) <;> intro h <;> try (exfalso; first | omega | contradiction | (simp only [List.length_map] at h; omega))))
  all_goals (
    refine Runs.nilCell (e := 5) (sz := 1) 2 4 (by decide) rfl rfl ?_
    refine Runs.nilCell (e := 9) (sz := 1) 2 5 (by decide) rfl rfl ?_
    refine Runs.nilCell (e := 3) (sz := 1) 2 6 (by decide) rfl rfl ?_
    refine Runs.nilCell (e := 3) (sz := 1) 2 7 (by decide) rfl rfl ?_)
  all_goals first
    | exact Runs.ctls 30 rfl (Runs.ret (ends_rul (r := ⟨a ++ itoaS d.length, 1, 1 + x, lt, [], [], [], []⟩) (x := 4) (y := 5) (z := 6) (w := 7) hm rfl rfl rfl hi rfl rfl rfl rfl rfl rfl (by decide) (by decide) (ruleD1 ha (by omega) (fun _ => by omega))))
    | exact Runs.ctls 30 rfl (Runs.ret (ends_rul (r := ⟨a ++ itoaS d.length, 1, 1 + x, false, [], [], [], []⟩) (x := 4) (y := 5) (z := 6) (w := 7) hm rfl rfl rfl hi rfl rfl rfl rfl rfl rfl (by decide) (by decide) (ruleD1 ha (by omega) (by simp))))
set_option maxHeartbeats 8000000 in
theorem l4Make2_d (b : List UInt8) (hb : b.length ≤ 1048576) (d : Des) (hd : d.length ≤ 24) : Drw Try.prog 123 117 b [desR d, .int 2] (QRul (RuleD d 2)) := by
  have hlm : (d.map rulR).length = d.length := List.length_map ..
  have hF := spec_FormatInt (d.length : Int) (by constructor <;> omega)
  have hlen := itoa_len (d.length : Int) (by omega) (by omega)
  have hfs : (⟨(Lib.itoa (d.length : Int)).toArray⟩ : ByteArray).size ≤ 20 := by rw [ba_size]; exact hlen
  refine drw_enter Try.func117 rfl _ Try.ntmps117 (by simp) fun C g u i h hn hm hu hi => ?_
  repeat' (first
 | (refine op_drawS (l1Str_d b hb baseA (by decide) (by decide)) rfl hu hi rfl (LendsPL.ros [strsR baseA]) rfl (by first | rfl | repeat' (first | rfl | exact clns_ro _ | refine clnO_cons ?_ ?_)) (tl hn rfl) ?_; intro i h a hi ha; have hsz := baseA_size a ha)
 | (refine op_drawI (l1Below_d b hb _ (by omega)) rfl hu hi rfl (LendsPL.ros [.int _]) rfl (by first | rfl | repeat' (first | rfl | exact clns_ro _ | refine clnO_cons ?_ ?_)) (tl hn rfl) ?_; intro i h x hi hx; obtain ⟨hxa, hxb⟩ := hx.2 (by omega); obtain ⟨n3, rfl⟩ : ∃ n3 : Nat, x = n3 := ⟨x.toNat, by omega⟩)
 | (refine op_drawO (l1Bytes_d b hb (1 + n3) (by omega)) rfl hu hi rfl rfl rfl (by first | rfl | repeat' (first | rfl | exact clns_ro _ | refine clnO_cons ?_ ?_)) (tl hn rfl) ?_; rintro i h _ hi ⟨z, rfl, hz⟩)
 | ((first | refine RunsL.pe hn rfl rfl rfl ?_ | refine RunsD.pe rfl rfl ?_); first
 | refine ⟨_, pu_len_seqN d.length rfl hlm, ?_⟩)
 | refine RunsL.step tabOk hn rfl ?_
 | refine RunsL.nil ?_
 | refine Runs.toRegion 30 rfl ?_
 | ((first | refine RunsL.pe hn rfl rfl rfl ?_ | refine RunsD.pe rfl rfl ?_); first
 | refine ⟨_, pu_callR hF rfl, ?_⟩
 | refine ⟨_, pu_cat rfl rfl (by omega), ?_⟩
 | refine ⟨_, pu_buildS rfl, ?_⟩)
 | (refine Runs.ctls 30 rfl ?_; first | refine Runs.cond_t rfl ?_ | refine Runs.cond_f rfl ?_ | ((first | refine Runs.cond_yes rfl ?_ ?_ | refine Runs.cond_nno rfl ?_ ?_); · first | omega | rfl | assumption | (simp only [List.length_map]; omega)) | ((first | refine Runs.cond_no rfl ?_ ?_ | refine Runs.cond_nyes rfl ?_ ?_); · first | omega | rfl | assumption | (simp only [List.length_map]; omega)) | refine Runs.ret (ends_ro hm rfl rfl ?_) | exact Runs.ret (ends_cellR hm rfl rfl rfl (Nat.le_of_ble_eq_true rfl) rfl rfl))
 | refine op_box rfl (tl hn rfl) ?_
 | refine op_storeF rfl rfl rfl rfl (Nat.le_of_ble_eq_true rfl) ?_
 | refine op_alloc (tl hn rfl) ?_
 | refine op_storeN rfl rfl rfl rfl (Nat.le_of_ble_eq_true rfl) ?_
 | ((first | refine RunsL.pe hn rfl rfl rfl ?_ | refine RunsD.pe rfl rfl ?_); first
 | refine ⟨_, pu_add rfl rfl (by omega), ?_⟩
 | refine ⟨_, pu_indexAddr_map rfl rfl (by omega) (by assumption), ?_⟩
 | refine ⟨_, pu_sub rfl rfl (by omega), ?_⟩
 | refine ⟨_, pu_pick_b rfl rfl rfl, ?_⟩
 | refine ⟨_, pu_mul rfl rfl (by omega), ?_⟩
 | refine ⟨_, pu_build rfl rfl rfl rfl rfl rfl, ?_⟩)
 | ((first | refine RunsL.guard_dec rfl rfl rfl ?_ ?_ | refine RunsL.guard_ndec rfl rfl rfl ?_ ?_ | refine RunsL.guard_nb rfl rfl rfl ?_ ?_ | refine RunsL.guard_b rfl rfl rfl ?_ ?_ | refine RunsD.guard_dec rfl rfl rfl ?_ ?_ | refine RunsD.guard_ndec rfl rfl rfl ?_ ?_ | refine RunsD.guard_nb rfl rfl rfl ?_ ?_ | refine RunsD.guard_b rfl rfl rfl ?_ ?_) <;> intro h <;> try (exfalso; first | omega | contradiction | (simp only [List.length_map] at h; omega))))
  all_goals (
    refine Runs.nilCell (e := 9) (sz := 1) 2 5 (by decide) rfl rfl ?_
    refine Runs.nilCell (e := 3) (sz := 1) 2 6 (by decide) rfl rfl ?_
    refine Runs.nilCell (e := 3) (sz := 1) 2 7 (by decide) rfl rfl ?_)
  all_goals first
    | exact Runs.ctls 30 rfl (Runs.ret (ends_rul (r := ⟨a ++ itoaS d.length, 2, 0, false, z, [], [], []⟩) (x := 4) (y := 5) (z := 6) (w := 7) hm rfl rfl rfl hi rfl rfl rfl rfl rfl rfl (by decide) (by decide) (ruleD2 ha (by omega))))
set_option maxHeartbeats 8000000 in
theorem l4Make3_d (b : List UInt8) (hb : b.length ≤ 1048576) (d : Des) (hd : d.length ≤ 24) : Drw Try.prog 123 117 b [desR d, .int 3] (QRul (RuleD d 3)) := by
  have hlm : (d.map rulR).length = d.length := List.length_map ..
  have hF := spec_FormatInt (d.length : Int) (by constructor <;> omega)
  have hlen := itoa_len (d.length : Int) (by omega) (by omega)
  have hfs : (⟨(Lib.itoa (d.length : Int)).toArray⟩ : ByteArray).size ≤ 20 := by rw [ba_size]; exact hlen
  refine drw_enter Try.func117 rfl _ Try.ntmps117 (by simp) fun C g u i h hn hm hu hi => ?_
  repeat' (first
 | (refine op_drawS (l1Str_d b hb baseA (by decide) (by decide)) rfl hu hi rfl (LendsPL.ros [strsR baseA]) rfl (by first | rfl | repeat' (first | rfl | exact clns_ro _ | refine clnO_cons ?_ ?_)) (tl hn rfl) ?_; intro i h a hi ha; have hsz := baseA_size a ha)
 | (refine op_drawI (l1Below_d b hb _ (by omega)) rfl hu hi rfl (LendsPL.ros [.int _]) rfl (by first | rfl | repeat' (first | rfl | exact clns_ro _ | refine clnO_cons ?_ ?_)) (tl hn rfl) ?_; intro i h x hi hx; obtain ⟨hxa, hxb⟩ := hx.2 (by omega))
 | ((first | refine RunsL.pe hn rfl rfl rfl ?_ | refine RunsD.pe rfl rfl ?_); first
 | refine ⟨_, pu_len_seqN d.length rfl hlm, ?_⟩)
 | refine RunsL.step tabOk hn rfl ?_
 | refine RunsL.nil ?_
 | refine Runs.toRegion 30 rfl ?_
 | ((first | refine RunsL.pe hn rfl rfl rfl ?_ | refine RunsD.pe rfl rfl ?_); first
 | refine ⟨_, pu_callR hF rfl, ?_⟩
 | refine ⟨_, pu_cat rfl rfl (by omega), ?_⟩
 | refine ⟨_, pu_buildS rfl, ?_⟩)
 | (refine Runs.ctls 30 rfl ?_; first | refine Runs.cond_t rfl ?_ | refine Runs.cond_f rfl ?_ | ((first | refine Runs.cond_yes rfl ?_ ?_ | refine Runs.cond_nno rfl ?_ ?_); · first | omega | rfl | assumption | (simp only [List.length_map]; omega)) | ((first | refine Runs.cond_no rfl ?_ ?_ | refine Runs.cond_nyes rfl ?_ ?_); · first | omega | rfl | assumption | (simp only [List.length_map]; omega)) | refine Runs.ret (ends_ro hm rfl rfl ?_) | exact Runs.ret (ends_cellR hm rfl rfl rfl (Nat.le_of_ble_eq_true rfl) rfl rfl))
 | refine op_box rfl (tl hn rfl) ?_
 | refine op_storeF rfl rfl rfl rfl (Nat.le_of_ble_eq_true rfl) ?_
 | refine op_alloc (tl hn rfl) ?_
 | refine op_storeN rfl rfl rfl rfl (Nat.le_of_ble_eq_true rfl) ?_
 | ((first | refine RunsL.pe hn rfl rfl rfl ?_ | refine RunsD.pe rfl rfl ?_); first
 | refine ⟨_, pu_add rfl rfl (by omega), ?_⟩
 | refine ⟨_, pu_indexAddr_map rfl rfl (by omega) (by assumption), ?_⟩
 | refine ⟨_, pu_sub rfl rfl (by omega), ?_⟩
 | refine ⟨_, pu_pick_b rfl rfl rfl, ?_⟩
 | refine ⟨_, pu_mul rfl rfl (by omega), ?_⟩
 | refine ⟨_, pu_build rfl rfl rfl rfl rfl rfl, ?_⟩)
 | ((first | refine RunsL.guard_dec rfl rfl rfl ?_ ?_ | refine RunsL.guard_ndec rfl rfl rfl ?_ ?_ | refine RunsL.guard_nb rfl rfl rfl ?_ ?_ | refine RunsL.guard_b rfl rfl rfl ?_ ?_ | refine RunsD.guard_dec rfl rfl rfl ?_ ?_ | refine RunsD.guard_ndec rfl rfl rfl ?_ ?_ | refine RunsD.guard_nb rfl rfl rfl ?_ ?_ | refine RunsD.guard_b rfl rfl rfl ?_ ?_) <;> intro h <;> try (exfalso; first | omega | contradiction | (simp only [List.length_map] at h; omega))))
  all_goals (
    refine Runs.nilCell (e := 5) (sz := 1) 2 4 (by decide) rfl rfl ?_
    refine Runs.nilCell (e := 9) (sz := 1) 2 5 (by decide) rfl rfl ?_
    refine Runs.nilCell (e := 3) (sz := 1) 2 6 (by decide) rfl rfl ?_
    refine Runs.nilCell (e := 3) (sz := 1) 2 7 (by decide) rfl rfl ?_)
  all_goals first
    | exact Runs.ctls 30 rfl (Runs.ret (ends_rul (r := ⟨a ++ itoaS d.length, 3, 1 + x, false, [], [], [], []⟩) (x := 4) (y := 5) (z := 6) (w := 7) hm rfl rfl rfl hi rfl rfl rfl rfl rfl rfl (by decide) (by decide) (ruleD3 ha (by omega))))
set_option maxHeartbeats 8000000 in
theorem l4Make4_d (b : List UInt8) (hb : b.length ≤ 1048576) (d : Des) (hd : d.length ≤ 24) (r0 : Rul) (h0 : d[0]? = some r0) (hk0 : r0.kind = 1) : Drw Try.prog 123 117 b [desR d, .int 4] (QRul (RuleD d 4)) := by
  have hlm : (d.map rulR).length = d.length := List.length_map ..
  have hF := spec_FormatInt (d.length : Int) (by constructor <;> omega)
  have hlen := itoa_len (d.length : Int) (by omega) (by omega)
  have hfs : (⟨(Lib.itoa (d.length : Int)).toArray⟩ : ByteArray).size ≤ 20 := by rw [ba_size]; exact hlen
  refine drw_enter Try.func117 rfl _ Try.ntmps117 (by simp) fun C g u i h hn hm hu hi => ?_
  repeat' (first
 | (refine op_drawS (l1Str_d b hb baseA (by decide) (by decide)) rfl hu hi rfl (LendsPL.ros [strsR baseA]) rfl (by first | rfl | repeat' (first | rfl | exact clns_ro _ | refine clnO_cons ?_ ?_)) (tl hn rfl) ?_; intro i h a hi ha; have hsz := baseA_size a ha)
 | (refine op_drawI (l4Integer_d b hb d hd r0 h0 hk0) rfl hu hi rfl (LendsPL.ros [desR d]) rfl (by first | rfl | repeat' (first | rfl | exact clns_ro _ | refine clnO_cons ?_ ?_)) (tl hn rfl) ?_; intro i h x hi hx)
 | refine op_build (t := 56) rfl rfl rfl rfl rfl (tl hn rfl) ?_
 | ((first | refine RunsL.pe hn rfl rfl rfl ?_ | refine RunsD.pe rfl rfl ?_); first
 | refine ⟨_, pu_len_seqN d.length rfl hlm, ?_⟩)
 | refine RunsL.step tabOk hn rfl ?_
 | refine RunsL.nil ?_
 | refine Runs.toRegion 30 rfl ?_
 | ((first | refine RunsL.pe hn rfl rfl rfl ?_ | refine RunsD.pe rfl rfl ?_); first
 | refine ⟨_, pu_callR hF rfl, ?_⟩
 | refine ⟨_, pu_cat rfl rfl (by omega), ?_⟩
 | refine ⟨_, pu_buildS rfl, ?_⟩)
 | (refine Runs.ctls 30 rfl ?_; first | refine Runs.cond_t rfl ?_ | refine Runs.cond_f rfl ?_ | ((first | refine Runs.cond_yes rfl ?_ ?_ | refine Runs.cond_nno rfl ?_ ?_); · first | omega | rfl | assumption | (simp only [List.length_map]; omega)) | ((first | refine Runs.cond_no rfl ?_ ?_ | refine Runs.cond_nyes rfl ?_ ?_); · first | omega | rfl | assumption | (simp only [List.length_map]; omega)) | refine Runs.ret (ends_ro hm rfl rfl ?_) | exact Runs.ret (ends_cellR hm rfl rfl rfl (Nat.le_of_ble_eq_true rfl) rfl rfl))
 | refine op_box rfl (tl hn rfl) ?_
 | refine op_storeF rfl rfl rfl rfl (Nat.le_of_ble_eq_true rfl) ?_
 | refine op_alloc (tl hn rfl) ?_
 | refine op_storeN rfl rfl rfl rfl (Nat.le_of_ble_eq_true rfl) ?_
 | ((first | refine RunsL.pe hn rfl rfl rfl ?_ | refine RunsD.pe rfl rfl ?_); first
 | refine ⟨_, pu_add rfl rfl (by omega), ?_⟩
 | refine ⟨_, pu_indexAddr_map rfl rfl (by omega) (by assumption), ?_⟩
 | refine ⟨_, pu_sub rfl rfl (by omega), ?_⟩
 | refine ⟨_, pu_pick_b rfl rfl rfl, ?_⟩
 | refine ⟨_, pu_mul rfl rfl (by omega), ?_⟩
 | refine ⟨_, pu_build rfl rfl rfl rfl rfl rfl, ?_⟩)
 | ((first | refine RunsL.guard_dec rfl rfl rfl ?_ ?_ | refine RunsL.guard_ndec rfl rfl rfl ?_ ?_ | refine RunsL.guard_nb rfl rfl rfl ?_ ?_ | refine RunsL.guard_b rfl rfl rfl ?_ ?_ | refine RunsD.guard_dec rfl rfl rfl ?_ ?_ | refine RunsD.guard_ndec rfl rfl rfl ?_ ?_ | refine RunsD.guard_nb rfl rfl rfl ?_ ?_ | refine RunsD.guard_b rfl rfl rfl ?_ ?_) <;> intro h <;> try (exfalso; first | omega | contradiction | (simp only [List.length_map] at h; omega))))
  all_goals (
    refine Runs.nilCell (e := 5) (sz := 1) 2 4 (by decide) rfl rfl ?_
    refine Runs.nilCell (e := 9) (sz := 1) 2 5 (by decide) rfl rfl ?_
    refine Runs.nilCell (e := 3) (sz := 1) 2 6 (by decide) rfl rfl ?_)
  all_goals first
    | exact Runs.ctls 30 rfl (Runs.ret (ends_rul (r := ⟨a ++ itoaS d.length, 4, 0, false, [], [], [], [x]⟩) (x := 5) (y := 6) (z := 7) (w := 4) hm rfl rfl rfl hi rfl rfl rfl rfl rfl rfl (by decide) (by decide) (ruleD4 ha hx)))
set_option maxHeartbeats 8000000 in
theorem l4Make5_d (b : List UInt8) (hb : b.length ≤ 1048576) (d : Des) (hd : d.length ≤ 24) (r0 : Rul) (h0 : d[0]? = some r0) (hk0 : r0.kind = 1) : Drw Try.prog 123 117 b [desR d, .int 5] (QRul (RuleD d 5)) := by
  have hlm : (d.map rulR).length = d.length := List.length_map ..
  have hF := spec_FormatInt (d.length : Int) (by constructor <;> omega)
  have hlen := itoa_len (d.length : Int) (by omega) (by omega)
  have hfs : (⟨(Lib.itoa (d.length : Int)).toArray⟩ : ByteArray).size ≤ 20 := by rw [ba_size]; exact hlen
  refine drw_enter Try.func117 rfl _ Try.ntmps117 (by simp) fun C g u i h hn hm hu hi => ?_
  repeat' (first
 | (refine op_drawS (l1Str_d b hb baseA (by decide) (by decide)) rfl hu hi rfl (LendsPL.ros [strsR baseA]) rfl (by first | rfl | repeat' (first | rfl | exact clns_ro _ | refine clnO_cons ?_ ?_)) (tl hn rfl) ?_; intro i h a hi ha; have hsz := baseA_size a ha)
 | (refine op_drawI (l4Integer_d b hb d hd r0 h0 hk0) rfl hu hi rfl (LendsPL.ros [desR d]) rfl (by first | rfl | repeat' (first | rfl | exact clns_ro _ | refine clnO_cons ?_ ?_)) (tl hn rfl) ?_; intro i h x hi hx)
 | (refine op_drawI (l1Below_d b hb (d.length : Int) (by omega)) rfl hu hi rfl (LendsPL.ros [.int (d.length : Int)]) rfl (by first | rfl | repeat' (first | rfl | exact clns_ro _ | refine clnO_cons ?_ ?_)) (tl hn rfl) ?_; intro i h y hi hy; have hyd : InD d y := ⟨fun e => hy.1 (by omega), fun e => hy.2 (by omega)⟩)
 | refine op_build (t := 66) rfl rfl rfl rfl rfl (tl hn rfl) ?_
 | ((first | refine RunsL.pe hn rfl rfl rfl ?_ | refine RunsD.pe rfl rfl ?_); first
 | refine ⟨_, pu_len_seqN d.length rfl hlm, ?_⟩)
 | refine RunsL.step tabOk hn rfl ?_
 | refine RunsL.nil ?_
 | refine Runs.toRegion 30 rfl ?_
 | ((first | refine RunsL.pe hn rfl rfl rfl ?_ | refine RunsD.pe rfl rfl ?_); first
 | refine ⟨_, pu_callR hF rfl, ?_⟩
 | refine ⟨_, pu_cat rfl rfl (by omega), ?_⟩
 | refine ⟨_, pu_buildS rfl, ?_⟩)
 | (refine Runs.ctls 30 rfl ?_; first | refine Runs.cond_t rfl ?_ | refine Runs.cond_f rfl ?_ | ((first | refine Runs.cond_yes rfl ?_ ?_ | refine Runs.cond_nno rfl ?_ ?_); · first | omega | rfl | assumption | (simp only [List.length_map]; omega)) | ((first | refine Runs.cond_no rfl ?_ ?_ | refine Runs.cond_nyes rfl ?_ ?_); · first | omega | rfl | assumption | (simp only [List.length_map]; omega)) | refine Runs.ret (ends_ro hm rfl rfl ?_) | exact Runs.ret (ends_cellR hm rfl rfl rfl (Nat.le_of_ble_eq_true rfl) rfl rfl))
 | refine op_box rfl (tl hn rfl) ?_
 | refine op_storeF rfl rfl rfl rfl (Nat.le_of_ble_eq_true rfl) ?_
 | refine op_alloc (tl hn rfl) ?_
 | refine op_storeN rfl rfl rfl rfl (Nat.le_of_ble_eq_true rfl) ?_
 | ((first | refine RunsL.pe hn rfl rfl rfl ?_ | refine RunsD.pe rfl rfl ?_); first
 | refine ⟨_, pu_add rfl rfl (by omega), ?_⟩
 | refine ⟨_, pu_indexAddr_map rfl rfl (by omega) (by assumption), ?_⟩
 | refine ⟨_, pu_sub rfl rfl (by omega), ?_⟩
 | refine ⟨_, pu_pick_b rfl rfl rfl, ?_⟩
 | refine ⟨_, pu_mul rfl rfl (by omega), ?_⟩
 | refine ⟨_, pu_build rfl rfl rfl rfl rfl rfl, ?_⟩)
 | ((first | refine RunsL.guard_dec rfl rfl rfl ?_ ?_ | refine RunsL.guard_ndec rfl rfl rfl ?_ ?_ | refine RunsL.guard_nb rfl rfl rfl ?_ ?_ | refine RunsL.guard_b rfl rfl rfl ?_ ?_ | refine RunsD.guard_dec rfl rfl rfl ?_ ?_ | refine RunsD.guard_ndec rfl rfl rfl ?_ ?_ | refine RunsD.guard_nb rfl rfl rfl ?_ ?_ | refine RunsD.guard_b rfl rfl rfl ?_ ?_) <;> intro h <;> try (exfalso; first | omega | contradiction | (simp only [List.length_map] at h; omega))))
  all_goals (
    refine Runs.nilCell (e := 5) (sz := 1) 2 4 (by decide) rfl rfl ?_
    refine Runs.nilCell (e := 9) (sz := 1) 2 5 (by decide) rfl rfl ?_
    refine Runs.nilCell (e := 3) (sz := 1) 2 6 (by decide) rfl rfl ?_)
  all_goals first
    | exact Runs.ctls 30 rfl (Runs.ret (ends_rul (r := ⟨a ++ itoaS d.length, 5, 0, false, [], [], [], [x, y]⟩) (x := 5) (y := 6) (z := 7) (w := 4) hm rfl rfl rfl hi rfl rfl rfl rfl rfl rfl (by decide) (by decide) (ruleD5 ha hx hyd)))
set_option maxHeartbeats 8000000 in
theorem l4Make8_d (b : List UInt8) (hb : b.length ≤ 1048576) (d : Des) (hd : d.length ≤ 24) : Drw Try.prog 123 117 b [desR d, .int 8] (QRul (RuleD d 8)) := by
  have hlm : (d.map rulR).length = d.length := List.length_map ..
  have hF := spec_FormatInt (d.length : Int) (by constructor <;> omega)
  have hlen := itoa_len (d.length : Int) (by omega) (by omega)
  have hfs : (⟨(Lib.itoa (d.length : Int)).toArray⟩ : ByteArray).size ≤ 20 := by rw [ba_size]; exact hlen
  refine drw_enter Try.func117 rfl _ Try.ntmps117 (by simp) fun C g u i h hn hm hu hi => ?_
  repeat' (first
 | (refine op_drawS (l1Str_d b hb baseA (by decide) (by decide)) rfl hu hi rfl (LendsPL.ros [strsR baseA]) rfl (by first | rfl | repeat' (first | rfl | exact clns_ro _ | refine clnO_cons ?_ ?_)) (tl hn rfl) ?_; intro i h a hi ha; have hsz := baseA_size a ha)
 | (refine op_drawI (l1Below_d b hb (d.length : Int) (by omega)) rfl hu hi rfl (LendsPL.ros [.int (d.length : Int)]) rfl (by first | rfl | repeat' (first | rfl | exact clns_ro _ | refine clnO_cons ?_ ?_)) (tl hn rfl) ?_; intro i h y hi hy; have hyd : InD d y := ⟨fun e => hy.1 (by omega), fun e => hy.2 (by omega)⟩)
 | refine op_build (t := 136) rfl rfl rfl rfl rfl (tl hn rfl) ?_
 | ((first | refine RunsL.pe hn rfl rfl rfl ?_ | refine RunsD.pe rfl rfl ?_); first
 | refine ⟨_, pu_len_seqN d.length rfl hlm, ?_⟩)
 | refine RunsL.step tabOk hn rfl ?_
 | refine RunsL.nil ?_
 | refine Runs.toRegion 30 rfl ?_
 | ((first | refine RunsL.pe hn rfl rfl rfl ?_ | refine RunsD.pe rfl rfl ?_); first
 | refine ⟨_, pu_callR hF rfl, ?_⟩
 | refine ⟨_, pu_cat rfl rfl (by omega), ?_⟩
 | refine ⟨_, pu_buildS rfl, ?_⟩)
 | (refine Runs.ctls 30 rfl ?_; first | refine Runs.cond_t rfl ?_ | refine Runs.cond_f rfl ?_ | ((first | refine Runs.cond_yes rfl ?_ ?_ | refine Runs.cond_nno rfl ?_ ?_); · first | omega | rfl | assumption | (simp only [List.length_map]; omega)) | ((first | refine Runs.cond_no rfl ?_ ?_ | refine Runs.cond_nyes rfl ?_ ?_); · first | omega | rfl | assumption | (simp only [List.length_map]; omega)) | refine Runs.ret (ends_ro hm rfl rfl ?_) | exact Runs.ret (ends_cellR hm rfl rfl rfl (Nat.le_of_ble_eq_true rfl) rfl rfl))
 | refine op_box rfl (tl hn rfl) ?_
 | refine op_storeF rfl rfl rfl rfl (Nat.le_of_ble_eq_true rfl) ?_
 | refine op_alloc (tl hn rfl) ?_
 | refine op_storeN rfl rfl rfl rfl (Nat.le_of_ble_eq_true rfl) ?_
 | ((first | refine RunsL.pe hn rfl rfl rfl ?_ | refine RunsD.pe rfl rfl ?_); first
 | refine ⟨_, pu_add rfl rfl (by omega), ?_⟩
 | refine ⟨_, pu_indexAddr_map rfl rfl (by omega) (by assumption), ?_⟩
 | refine ⟨_, pu_sub rfl rfl (by omega), ?_⟩
 | refine ⟨_, pu_pick_b rfl rfl rfl, ?_⟩
 | refine ⟨_, pu_mul rfl rfl (by omega), ?_⟩
 | refine ⟨_, pu_build rfl rfl rfl rfl rfl rfl, ?_⟩)
 | ((first | refine RunsL.guard_dec rfl rfl rfl ?_ ?_ | refine RunsL.guard_ndec rfl rfl rfl ?_ ?_ | refine RunsL.guard_nb rfl rfl rfl ?_ ?_ | refine RunsL.guard_b rfl rfl rfl ?_ ?_ | refine RunsD.guard_dec rfl rfl rfl ?_ ?_ | refine RunsD.guard_ndec rfl rfl rfl ?_ ?_ | refine RunsD.guard_nb rfl rfl rfl ?_ ?_ | refine RunsD.guard_b rfl rfl rfl ?_ ?_) <;> intro h <;> try (exfalso; first | omega | contradiction | (simp only [List.length_map] at h; omega))))
  all_goals (
    refine Runs.nilCell (e := 5) (sz := 1) 2 4 (by decide) rfl rfl ?_
    refine Runs.nilCell (e := 9) (sz := 1) 2 5 (by decide) rfl rfl ?_
    refine Runs.nilCell (e := 3) (sz := 1) 2 6 (by decide) rfl rfl ?_)
  all_goals first
    | exact Runs.ctls 30 rfl (Runs.ret (ends_rul (r := ⟨a ++ itoaS d.length, 8, 0, false, [], [], [], [y]⟩) (x := 5) (y := 6) (z := 7) (w := 4) hm rfl rfl rfl hi rfl rfl rfl rfl rfl rfl (by decide) (by decide) (ruleD8 ha hyd)))
set_option maxHeartbeats 8000000 in
theorem l4Make9_d (b : List UInt8) (hb : b.length ≤ 1048576) (d : Des) (hd : d.length ≤ 24) : Drw Try.prog 123 117 b [desR d, .int 9] (QRul (RuleD d 9)) := by
  have hlm : (d.map rulR).length = d.length := List.length_map ..
  have hF := spec_FormatInt (d.length : Int) (by constructor <;> omega)
  have hlen := itoa_len (d.length : Int) (by omega) (by omega)
  have hfs : (⟨(Lib.itoa (d.length : Int)).toArray⟩ : ByteArray).size ≤ 20 := by rw [ba_size]; exact hlen
  refine drw_enter Try.func117 rfl _ Try.ntmps117 (by simp) fun C g u i h hn hm hu hi => ?_
  repeat' (first
 | (refine op_drawS (l1Str_d b hb baseA (by decide) (by decide)) rfl hu hi rfl (LendsPL.ros [strsR baseA]) rfl (by first | rfl | repeat' (first | rfl | exact clns_ro _ | refine clnO_cons ?_ ?_)) (tl hn rfl) ?_; intro i h a hi ha; have hsz := baseA_size a ha)
 | (refine op_drawI (l1Below_d b hb (d.length : Int) (by omega)) rfl hu hi rfl (LendsPL.ros [.int (d.length : Int)]) rfl (by first | rfl | repeat' (first | rfl | exact clns_ro _ | refine clnO_cons ?_ ?_)) (tl hn rfl) ?_; intro i h y hi hy; have hyd : InD d y := ⟨fun e => hy.1 (by omega), fun e => hy.2 (by omega)⟩)
 | refine op_build (t := 136) rfl rfl rfl rfl rfl (tl hn rfl) ?_
 | ((first | refine RunsL.pe hn rfl rfl rfl ?_ | refine RunsD.pe rfl rfl ?_); first
 | refine ⟨_, pu_len_seqN d.length rfl hlm, ?_⟩)
 | refine RunsL.step tabOk hn rfl ?_
 | refine RunsL.nil ?_
 | refine Runs.toRegion 30 rfl ?_
 | ((first | refine RunsL.pe hn rfl rfl rfl ?_ | refine RunsD.pe rfl rfl ?_); first
 | refine ⟨_, pu_callR hF rfl, ?_⟩
 | refine ⟨_, pu_cat rfl rfl (by omega), ?_⟩
 | refine ⟨_, pu_buildS rfl, ?_⟩)
 | (refine Runs.ctls 30 rfl ?_; first | refine Runs.cond_t rfl ?_ | refine Runs.cond_f rfl ?_ | ((first | refine Runs.cond_yes rfl ?_ ?_ | refine Runs.cond_nno rfl ?_ ?_); · first | omega | rfl | assumption | (simp only [List.length_map]; omega)) | ((first | refine Runs.cond_no rfl ?_ ?_ | refine Runs.cond_nyes rfl ?_ ?_); · first | omega | rfl | assumption | (simp only [List.length_map]; omega)) | refine Runs.ret (ends_ro hm rfl rfl ?_) | exact Runs.ret (ends_cellR hm rfl rfl rfl (Nat.le_of_ble_eq_true rfl) rfl rfl))
 | refine op_box rfl (tl hn rfl) ?_
 | refine op_storeF rfl rfl rfl rfl (Nat.le_of_ble_eq_true rfl) ?_
 | refine op_alloc (tl hn rfl) ?_
 | refine op_storeN rfl rfl rfl rfl (Nat.le_of_ble_eq_true rfl) ?_
 | ((first | refine RunsL.pe hn rfl rfl rfl ?_ | refine RunsD.pe rfl rfl ?_); first
 | refine ⟨_, pu_add rfl rfl (by omega), ?_⟩
 | refine ⟨_, pu_indexAddr_map rfl rfl (by omega) (by assumption), ?_⟩
 | refine ⟨_, pu_sub rfl rfl (by omega), ?_⟩
 | refine ⟨_, pu_pick_b rfl rfl rfl, ?_⟩
 | refine ⟨_, pu_mul rfl rfl (by omega), ?_⟩
 | refine ⟨_, pu_build rfl rfl rfl rfl rfl rfl, ?_⟩)
 | ((first | refine RunsL.guard_dec rfl rfl rfl ?_ ?_ | refine RunsL.guard_ndec rfl rfl rfl ?_ ?_ | refine RunsL.guard_nb rfl rfl rfl ?_ ?_ | refine RunsL.guard_b rfl rfl rfl ?_ ?_ | refine RunsD.guard_dec rfl rfl rfl ?_ ?_ | refine RunsD.guard_ndec rfl rfl rfl ?_ ?_ | refine RunsD.guard_nb rfl rfl rfl ?_ ?_ | refine RunsD.guard_b rfl rfl rfl ?_ ?_) <;> intro h <;> try (exfalso; first | omega | contradiction | (simp only [List.length_map] at h; omega))))
  all_goals (
    refine Runs.nilCell (e := 5) (sz := 1) 2 4 (by decide) rfl rfl ?_
    refine Runs.nilCell (e := 9) (sz := 1) 2 5 (by decide) rfl rfl ?_
    refine Runs.nilCell (e := 3) (sz := 1) 2 6 (by decide) rfl rfl ?_)
  all_goals first
    | exact Runs.ctls 30 rfl (Runs.ret (ends_rul (r := ⟨a ++ itoaS d.length, 9, 0, false, [], [], [], [y]⟩) (x := 5) (y := 6) (z := 7) (w := 4) hm rfl rfl rfl hi rfl rfl rfl rfl rfl rfl (by decide) (by decide) (ruleD9 ha hyd)))
set_option maxHeartbeats 8000000 in
theorem l4Make10_d (b : List UInt8) (hb : b.length ≤ 1048576) (d : Des) (hd : d.length ≤ 24) : Drw Try.prog 123 117 b [desR d, .int 10] (QRul (RuleD d 10)) := by
  have hlm : (d.map rulR).length = d.length := List.length_map ..
  have hF := spec_FormatInt (d.length : Int) (by constructor <;> omega)
  have hlen := itoa_len (d.length : Int) (by omega) (by omega)
  have hfs : (⟨(Lib.itoa (d.length : Int)).toArray⟩ : ByteArray).size ≤ 20 := by rw [ba_size]; exact hlen
  refine drw_enter Try.func117 rfl _ Try.ntmps117 (by simp) fun C g u i h hn hm hu hi => ?_
  repeat' (first
 | (refine op_drawS (l1Str_d b hb baseA (by decide) (by decide)) rfl hu hi rfl (LendsPL.ros [strsR baseA]) rfl (by first | rfl | repeat' (first | rfl | exact clns_ro _ | refine clnO_cons ?_ ?_)) (tl hn rfl) ?_; intro i h a hi ha; have hsz := baseA_size a ha)
 | (refine op_drawI (l1Int_d b hb [0, 10, 59, 255] (by decide) (by decide)) rfl hu hi rfl (LendsPL.ros [intsR [0, 10, 59, 255]]) rfl (by first | rfl | repeat' (first | rfl | exact clns_ro _ | refine clnO_cons ?_ ?_)) (tl hn rfl) ?_; intro i h y hi hy)
 | refine op_build (t := 144) rfl rfl rfl rfl rfl (tl hn rfl) ?_
 | ((first | refine RunsL.pe hn rfl rfl rfl ?_ | refine RunsD.pe rfl rfl ?_); first
 | refine ⟨_, pu_len_seqN d.length rfl hlm, ?_⟩)
 | refine RunsL.step tabOk hn rfl ?_
 | refine RunsL.nil ?_
 | refine Runs.toRegion 30 rfl ?_
 | ((first | refine RunsL.pe hn rfl rfl rfl ?_ | refine RunsD.pe rfl rfl ?_); first
 | refine ⟨_, pu_callR hF rfl, ?_⟩
 | refine ⟨_, pu_cat rfl rfl (by omega), ?_⟩
 | refine ⟨_, pu_buildS rfl, ?_⟩
 | refine ⟨_, pu_toU8 rfl, ?_⟩)
 | (refine Runs.ctls 30 rfl ?_; first | refine Runs.cond_t rfl ?_ | refine Runs.cond_f rfl ?_ | ((first | refine Runs.cond_yes rfl ?_ ?_ | refine Runs.cond_nno rfl ?_ ?_); · first | omega | rfl | assumption | (simp only [List.length_map]; omega)) | ((first | refine Runs.cond_no rfl ?_ ?_ | refine Runs.cond_nyes rfl ?_ ?_); · first | omega | rfl | assumption | (simp only [List.length_map]; omega)) | refine Runs.ret (ends_ro hm rfl rfl ?_) | exact Runs.ret (ends_cellR hm rfl rfl rfl (Nat.le_of_ble_eq_true rfl) rfl rfl))
 | refine op_box rfl (tl hn rfl) ?_
 | refine op_storeF rfl rfl rfl rfl (Nat.le_of_ble_eq_true rfl) ?_
 | refine op_alloc (tl hn rfl) ?_
 | refine op_storeN rfl rfl rfl rfl (Nat.le_of_ble_eq_true rfl) ?_
 | ((first | refine RunsL.pe hn rfl rfl rfl ?_ | refine RunsD.pe rfl rfl ?_); first
 | refine ⟨_, pu_add rfl rfl (by omega), ?_⟩
 | refine ⟨_, pu_indexAddr_map rfl rfl (by omega) (by assumption), ?_⟩
 | refine ⟨_, pu_sub rfl rfl (by omega), ?_⟩
 | refine ⟨_, pu_pick_b rfl rfl rfl, ?_⟩
 | refine ⟨_, pu_mul rfl rfl (by omega), ?_⟩
 | refine ⟨_, pu_build rfl rfl rfl rfl rfl rfl, ?_⟩)
 | ((first | refine RunsL.guard_dec rfl rfl rfl ?_ ?_ | refine RunsL.guard_ndec rfl rfl rfl ?_ ?_ | refine RunsL.guard_nb rfl rfl rfl ?_ ?_ | refine RunsL.guard_b rfl rfl rfl ?_ ?_ | refine RunsD.guard_dec rfl rfl rfl ?_ ?_ | refine RunsD.guard_ndec rfl rfl rfl ?_ ?_ | refine RunsD.guard_nb rfl rfl rfl ?_ ?_ | refine RunsD.guard_b rfl rfl rfl ?_ ?_) <;> intro h <;> try (exfalso; first | omega | contradiction | (simp only [List.length_map] at h; omega))))
  all_goals (
    refine Runs.nilCell (e := 9) (sz := 1) 2 5 (by decide) rfl rfl ?_
    refine Runs.nilCell (e := 3) (sz := 1) 2 6 (by decide) rfl rfl ?_
    refine Runs.nilCell (e := 3) (sz := 1) 2 7 (by decide) rfl rfl ?_)
  all_goals first
    | exact Runs.ctls 30 rfl (Runs.ret (ends_rul (r := ⟨a ++ itoaS d.length, 10, 0, false, [u8i y], [], [], []⟩) (x := 4) (y := 5) (z := 6) (w := 7) hm rfl rfl rfl hi rfl rfl rfl rfl rfl rfl (by decide) (by decide) (ruleD10 ha hy)))
end Go.Proofs.Ytnecoghfhcimeaa
/- The draw of a rule: sequences and choices. -/
namespace Go.Proofs.Ytnecoghfhcimeaa
set_option linter.unusedSimpArgs false
set_option linter.unusedVariables false
open Go.RowKit
open AV (Mem Keeps)
set_option maxHeartbeats 8000000 in
theorem l4Make6_d (b : List UInt8) (hb : b.length ≤ 1048576) (d : Des) (hd : d.length ≤ 24) : Drw Try.prog 123 117 b [desR d, .int 6] (QRul (RuleD d 6)) := by
  have hlm : (d.map rulR).length = d.length := List.length_map ..
  have hF := spec_FormatInt (d.length : Int) (by constructor <;> omega)
  have hlen := itoa_len (d.length : Int) (by omega) (by omega)
  have hfs : (⟨(Lib.itoa (d.length : Int)).toArray⟩ : ByteArray).size ≤ 20 := by rw [ba_size]; exact hlen
  refine drw_enter Try.func117 rfl _ Try.ntmps117 (by simp) fun C g u i h hn hm hu hi => ?_
  repeat' (first
 | (refine op_drawS (l1Str_d b hb baseA (by decide) (by decide)) rfl hu hi rfl (LendsPL.ros [strsR baseA]) rfl (by first | rfl | repeat' (first | rfl | exact clns_ro _ | refine clnO_cons ?_ ?_)) (tl hn rfl) ?_; intro i h a hi ha; have hsz := baseA_size a ha)
 | (refine op_drawI (l1Below_d b hb _ (by omega)) rfl hu hi rfl (LendsPL.ros [.int _]) rfl (by first | rfl | repeat' (first | rfl | exact clns_ro _ | refine clnO_cons ?_ ?_)) (tl hn rfl) ?_; intro i h x hi hx; obtain ⟨hxa, hxb⟩ := hx.2 (by omega))
 | ((first | refine RunsL.pe hn rfl rfl rfl ?_ | refine RunsD.pe rfl rfl ?_); first
 | refine ⟨_, pu_len_seqN d.length rfl hlm, ?_⟩)
 | refine RunsL.step tabOk hn rfl ?_
 | refine RunsL.nil ?_
 | refine Runs.toRegion 30 rfl ?_
 | ((first | refine RunsL.pe hn rfl rfl rfl ?_ | refine RunsD.pe rfl rfl ?_); first
 | refine ⟨_, pu_callR hF rfl, ?_⟩
 | refine ⟨_, pu_cat rfl rfl (by omega), ?_⟩
 | refine ⟨_, pu_buildS rfl, ?_⟩)
 | (refine Runs.ctls 30 rfl ?_; first | refine Runs.cond_t rfl ?_ | refine Runs.cond_f rfl ?_ | ((first | refine Runs.cond_yes rfl ?_ ?_ | refine Runs.cond_nno rfl ?_ ?_); · first | omega | rfl | assumption | (simp only [List.length_map]; omega)) | ((first | refine Runs.cond_no rfl ?_ ?_ | refine Runs.cond_nyes rfl ?_ ?_); · first | omega | rfl | assumption | (simp only [List.length_map]; omega)) | refine Runs.ret (ends_ro hm rfl rfl ?_) | exact Runs.ret (ends_cellR hm rfl rfl rfl (Nat.le_of_ble_eq_true rfl) rfl rfl))
 | refine op_box rfl (tl hn rfl) ?_
 | refine op_storeF rfl rfl rfl rfl (Nat.le_of_ble_eq_true rfl) ?_
 | refine op_alloc (tl hn rfl) ?_
 | refine op_storeN rfl rfl rfl rfl (Nat.le_of_ble_eq_true rfl) ?_
 | ((first | refine RunsL.pe hn rfl rfl rfl ?_ | refine RunsD.pe rfl rfl ?_); first
 | refine ⟨_, pu_add rfl rfl (by omega), ?_⟩
 | refine ⟨_, pu_indexAddr_map rfl rfl (by omega) (by assumption), ?_⟩
 | refine ⟨_, pu_sub rfl rfl (by omega), ?_⟩
 | refine ⟨_, pu_pick_b rfl rfl rfl, ?_⟩
 | refine ⟨_, pu_mul rfl rfl (by omega), ?_⟩
 | refine ⟨_, pu_build rfl rfl rfl rfl rfl rfl, ?_⟩)
 | ((first | refine RunsL.guard_dec rfl rfl rfl ?_ ?_ | refine RunsL.guard_ndec rfl rfl rfl ?_ ?_ | refine RunsL.guard_nb rfl rfl rfl ?_ ?_ | refine RunsL.guard_b rfl rfl rfl ?_ ?_ | refine RunsD.guard_dec rfl rfl rfl ?_ ?_ | refine RunsD.guard_ndec rfl rfl rfl ?_ ?_ | refine RunsD.guard_nb rfl rfl rfl ?_ ?_ | refine RunsD.guard_b rfl rfl rfl ?_ ?_) <;> intro h <;> try (exfalso; first | omega | contradiction | (simp only [List.length_map] at h; omega))))
  obtain ⟨c, hc⟩ : ∃ c : Nat, 1 + x = c := ⟨(1 + x).toNat, by omega⟩
  rw [hc]
  refine Runs.nilCell (e := 9) (sz := 1) 3 5 (by decide) rfl rfl ?_
  refine Runs.nilCell (e := 3) (sz := 1) 3 7 (by decide) rfl rfl ?_
  refine Runs.loopI 30 rfl (fun m E z => ∃ (l : List ByteArray) (ks : List Int) (i h : Int), l.length + m = c ∧ ks.length = l.length ∧ (∀ (j : Nat) x, l[j]? = some x → ∃ a ∈ baseP, x = a ++ itoaS ((c : Int) - j)) ∧ (∀ z ∈ ks, InD d z) ∧ CurOk b i ∧ E = [(0, .pin 0 0 g), (6, .obj 2 0), (7, .int d.length), (8, .obj 3 0), (9, .int m)] ∧
    z = [curOb 123 u i h, ⟨38, 0, [.ro (rulsR d)]⟩, ⟨52, 0, [.str ⟨#[]⟩, .int 0, .int 0, .bool false, .nil, .nil, .nil, .nil]⟩, ⟨52, 0, [.str (a ++ itoaS d.length), .int 6, .int 0, .bool false, .nil, .own 4, .nil, .own 5]⟩, ⟨9, 1, (l.map RV.str).map .ro⟩, ⟨3, 1, (ks.map RV.int).map .ro⟩]) c [(0, .pin 0 0 g), (6, .obj 2 0), (7, .int d.length), (8, .obj 3 0), (9, .int c)] ⟨rfl, rfl, rfl, rfl, rfl, trivial⟩ ⟨[], [], i, h, by simp, rfl, by simp, by simp, hi, rfl, rfl⟩ fun m E z ⟨l, ks, i, h, hlc, hkl, hl, hks, hi, hE, hz⟩ ih => ?_
  subst hE; subst hz
  have hll : (l.map RV.str).length = l.length := List.length_map ..
  have hkk : (ks.map RV.int).length = ks.length := List.length_map ..
  have hF2 := spec_FormatInt (m : Int) (by constructor <;> omega)
  have hlen2 := itoa_len (m : Int) (by omega) (by omega)
  have hfs2 : (⟨(Lib.itoa (m : Int)).toArray⟩ : ByteArray).size ≤ 20 := by rw [ba_size]; exact hlen2
  by_cases hm0 : 0 < m
  · repeat' (first
 | refine Runs.toLate (id := 19) 30 [0, 1, 2, 3, 5] [4, 6, 7, 8, 9, 10, 11] mixed rfl rfl (by kernel_rfl) (by kernel_rfl) (by kernel_rfl) ?_
 | refine Runs.toLate (id := 20) 30 [0, 1, 2, 3] [4, 5, 6, 7, 8] mixed rfl rfl (by kernel_rfl) (by kernel_rfl) (by kernel_rfl) ?_
 | (refine RunsP.drawS (l1Str_d b hb baseP (by decide) (by decide)) rfl hu hi (fun _ => LendsPL.ros [strsR baseP]) rfl (by first | rfl | repeat' (first | rfl | exact clns_ro _ | refine clnO_cons ?_ ?_)) (tl hn rfl) ?_; intro i h q hi hq; have hsz2 := baseP_size q hq)
 | (refine RunsP.drawI (l1Below_d b hb (d.length : Int) (by omega)) rfl hu hi (fun _ => LendsPL.ros [.int (d.length : Int)]) rfl (by first | rfl | repeat' (first | rfl | exact clns_ro _ | refine clnO_cons ?_ ?_)) (tl hn rfl) ?_; intro i h y hi hy; have hyd : InD d y := ⟨fun e => hy.1 (by omega), fun e => hy.2 (by omega)⟩)
 | (refine RunsL.junk 3 5 rfl ?_; refine op_append (t := 86) (n := l.length) rfl rfl rfl rfl rfl rfl (by rw [hll, Nat.mul_one]) (FreeI.at_ ⟨by simp [curOb, AV.onlys, AV.only], by simp [AV.onlys, AV.only], by simp [AV.onlys, AV.only], by simp [AV.onlys, AV.only], onlys_ro _ _, onlys_ro _ _, trivial⟩) (by simp; omega) (by simp; omega) (tl hn rfl) ?_)
 | (refine RunsL.junk 3 7 rfl ?_; refine op_append (t := 94) (n := ks.length) rfl rfl rfl rfl rfl rfl (by rw [hkk, Nat.mul_one]) (FreeI.at_ ⟨by simp [curOb, AV.onlys, AV.only], by simp [AV.onlys, AV.only], by simp [AV.onlys, AV.only], by simp [AV.onlys, AV.only], onlys_ro _ _, onlys_ro _ _, trivial⟩) (by simp; omega) (by simp; omega) (tl hn rfl) ?_)
 | refine RunsH.pur (fun _ _ => pu_auto tabOk rfl) rfl (tl hn rfl) rfl ?_
 | refine RunsH.pur (fun _ _ => pu_callR hF2 rfl) rfl (tl hn rfl) rfl ?_
 | refine RunsH.pur (fun _ _ => pu_cat rfl rfl (by omega)) rfl (tl hn rfl) rfl ?_
 | refine RunsH.pur (fun _ _ => pu_build rfl rfl rfl rfl rfl rfl) rfl (tl hn rfl) rfl ?_
 | refine RunsH.pur (fun _ _ => pu_add rfl rfl (by omega)) rfl (tl hn rfl) rfl ?_
 | refine RunsH.pur (fun _ _ => pu_sub rfl rfl (by omega)) rfl (tl hn rfl) rfl ?_
 | refine RunsH.pur (fun _ _ => pu_build rfl rfl rfl rfl rfl rfl) rfl (tl hn rfl) rfl ?_
 | refine RunsH.nil ?_
 | refine RunsP.pur (pu_auto tabOk rfl) rfl rfl (tl hn rfl) (by first | rfl | repeat' (first | rfl | exact clns_ro _ | refine clnO_cons ?_ ?_)) ?_
 | refine RunsP.pur (pu_callR hF2 rfl) rfl rfl (tl hn rfl) (by first | rfl | repeat' (first | rfl | exact clns_ro _ | refine clnO_cons ?_ ?_)) ?_
 | refine RunsP.pur (pu_cat rfl rfl (by omega)) rfl rfl (tl hn rfl) (by first | rfl | repeat' (first | rfl | exact clns_ro _ | refine clnO_cons ?_ ?_)) ?_
 | refine RunsP.pur (pu_build rfl rfl rfl rfl rfl rfl) rfl rfl (tl hn rfl) (by first | rfl | repeat' (first | rfl | exact clns_ro _ | refine clnO_cons ?_ ?_)) ?_
 | refine RunsP.pur (pu_add rfl rfl (by omega)) rfl rfl (tl hn rfl) (by first | rfl | repeat' (first | rfl | exact clns_ro _ | refine clnO_cons ?_ ?_)) ?_
 | refine RunsP.pur (pu_sub rfl rfl (by omega)) rfl rfl (tl hn rfl) (by first | rfl | repeat' (first | rfl | exact clns_ro _ | refine clnO_cons ?_ ?_)) ?_
 | refine RunsP.pur (pu_build rfl rfl rfl rfl rfl rfl) rfl rfl (tl hn rfl) (by first | rfl | repeat' (first | rfl | exact clns_ro _ | refine clnO_cons ?_ ?_)) ?_
 | refine RunsL.step tabOk hn rfl ?_
 | refine RunsL.nil ?_
 | refine Runs.toRegion 30 rfl ?_
 | refine RunsP.done 9 rfl (Nat.le_of_ble_eq_true rfl) (by kernel_rfl) (by kernel_rfl) ?_
 | refine RunsP.done 6 rfl (Nat.le_of_ble_eq_true rfl) (by kernel_rfl) (by kernel_rfl) ?_
 | ((first | refine RunsL.pe hn rfl rfl rfl ?_ | refine RunsD.pe rfl rfl ?_); first
 | refine ⟨_, pu_callR hF2 rfl, ?_⟩
 | refine ⟨_, pu_cat rfl rfl (by omega), ?_⟩
 | refine ⟨_, pu_build rfl rfl rfl rfl rfl rfl, ?_⟩)
 | (refine Runs.ctls 30 rfl ?_; first | refine Runs.cond_t rfl ?_ | refine Runs.cond_f rfl ?_ | ((first | refine Runs.cond_yes rfl ?_ ?_ | refine Runs.cond_nno rfl ?_ ?_); · first | omega | rfl | assumption | (simp only [List.length_map]; omega)) | ((first | refine Runs.cond_no rfl ?_ ?_ | refine Runs.cond_nyes rfl ?_ ?_); · first | omega | rfl | assumption | (simp only [List.length_map]; omega)) | refine Runs.ret (ends_ro hm rfl rfl ?_) | exact Runs.ret (ends_cellR hm rfl rfl rfl (Nat.le_of_ble_eq_true rfl) rfl rfl))
 | refine op_box rfl (tl hn rfl) ?_
 | refine op_storeF rfl rfl rfl rfl (Nat.le_of_ble_eq_true rfl) ?_
 | refine op_alloc (tl hn rfl) ?_
 | refine op_storeN rfl rfl rfl rfl (Nat.le_of_ble_eq_true rfl) ?_
 | ((first | refine RunsL.pe hn rfl rfl rfl ?_ | refine RunsD.pe rfl rfl ?_); first
 | refine ⟨_, pu_add rfl rfl (by omega), ?_⟩
 | refine ⟨_, pu_indexAddr_map rfl rfl (by omega) (by assumption), ?_⟩
 | refine ⟨_, pu_sub rfl rfl (by omega), ?_⟩
 | refine ⟨_, pu_pick_b rfl rfl rfl, ?_⟩
 | refine ⟨_, pu_mul rfl rfl (by omega), ?_⟩
 | refine ⟨_, pu_build rfl rfl rfl rfl rfl rfl, ?_⟩)
 | ((first | refine RunsL.guard_dec rfl rfl rfl ?_ ?_ | refine RunsL.guard_ndec rfl rfl rfl ?_ ?_ | refine RunsL.guard_nb rfl rfl rfl ?_ ?_ | refine RunsL.guard_b rfl rfl rfl ?_ ?_ | refine RunsD.guard_dec rfl rfl rfl ?_ ?_ | refine RunsD.guard_ndec rfl rfl rfl ?_ ?_ | refine RunsD.guard_nb rfl rfl rfl ?_ ?_ | refine RunsD.guard_b rfl rfl rfl ?_ ?_) <;> intro h <;> try (exfalso; first | omega | contradiction | (simp only [List.length_map] at h; omega))))
    refine ih (m - 1) _ _ _ (by omega) ⟨l ++ [q ++ ⟨(Lib.itoa (m : Int)).toArray⟩], ks ++ [y], i, h, by simp; omega, by simp [hkl], fun j z hz => ?_, fun z hz => ?_, hi, rfl, ?_⟩ ⟨rfl, rfl, rfl, rfl, ?_, trivial⟩
    · rw [List.getElem?_append] at hz
      split at hz
      · exact hl j z hz
      · rename_i hj
        have hj' : j - l.length = 0 := by
          have := (List.getElem?_eq_some_iff.1 hz).1
          simp at this; omega
        rw [hj'] at hz
        simp at hz
        subst hz
        exact ⟨q, hq, by unfold itoaS; congr 3; congr 1; omega⟩
    · rcases List.mem_append.1 hz with h1 | h1
      · exact hks z h1
      · simp at h1; subst h1; exact hyd
    · simp
    · show AV.int _ = AV.int _
      congr 1; omega
  · have em : m = 0 := by omega
    repeat' (first
 | refine RunsL.step tabOk hn rfl ?_
 | refine RunsL.nil ?_
 | refine Runs.toRegion 30 rfl ?_
 | (refine Runs.ctls 30 rfl ?_; first | refine Runs.cond_t rfl ?_ | refine Runs.cond_f rfl ?_ | ((first | refine Runs.cond_yes rfl ?_ ?_ | refine Runs.cond_nno rfl ?_ ?_); · first | omega | rfl | assumption | (simp only [List.length_map]; omega)) | ((first | refine Runs.cond_no rfl ?_ ?_ | refine Runs.cond_nyes rfl ?_ ?_); · first | omega | rfl | assumption | (simp only [List.length_map]; omega)) | refine Runs.ret (ends_ro hm rfl rfl ?_) | exact Runs.ret (ends_cellR hm rfl rfl rfl (Nat.le_of_ble_eq_true rfl) rfl rfl))
 | refine op_box rfl (tl hn rfl) ?_
 | refine op_storeF rfl rfl rfl rfl (Nat.le_of_ble_eq_true rfl) ?_
 | refine op_alloc (tl hn rfl) ?_
 | refine op_storeN rfl rfl rfl rfl (Nat.le_of_ble_eq_true rfl) ?_
 | ((first | refine RunsL.pe hn rfl rfl rfl ?_ | refine RunsD.pe rfl rfl ?_); first
 | refine ⟨_, pu_add rfl rfl (by omega), ?_⟩
 | refine ⟨_, pu_indexAddr_map rfl rfl (by omega) (by assumption), ?_⟩
 | refine ⟨_, pu_sub rfl rfl (by omega), ?_⟩
 | refine ⟨_, pu_pick_b rfl rfl rfl, ?_⟩
 | refine ⟨_, pu_mul rfl rfl (by omega), ?_⟩
 | refine ⟨_, pu_build rfl rfl rfl rfl rfl rfl, ?_⟩)
 | ((first | refine RunsL.guard_dec rfl rfl rfl ?_ ?_ | refine RunsL.guard_ndec rfl rfl rfl ?_ ?_ | refine RunsL.guard_nb rfl rfl rfl ?_ ?_ | refine RunsL.guard_b rfl rfl rfl ?_ ?_ | refine RunsD.guard_dec rfl rfl rfl ?_ ?_ | refine RunsD.guard_ndec rfl rfl rfl ?_ ?_ | refine RunsD.guard_nb rfl rfl rfl ?_ ?_ | refine RunsD.guard_b rfl rfl rfl ?_ ?_) <;> intro h <;> try (exfalso; first | omega | contradiction | (simp only [List.length_map] at h; omega))))
    refine Runs.nilCell (e := 5) (sz := 1) 2 4 (by decide) rfl rfl ?_
    refine Runs.nilCell (e := 3) (sz := 1) 2 6 (by decide) rfl rfl ?_
    exact Runs.ctls 30 rfl (Runs.ret (ends_rul (r := ⟨a ++ itoaS d.length, 6, 0, false, [], l, [], ks⟩) (x := 6) (y := 4) (z := 7) (w := 5) hm rfl rfl rfl hi rfl rfl rfl rfl rfl rfl (by decide) (by decide) (ruleD6 ha (by omega) (by rw [show (l.length : Int) = c by omega]; exact hl) hkl hks)))
set_option maxHeartbeats 8000000 in
theorem l4Make7_d (b : List UInt8) (hb : b.length ≤ 1048576) (d : Des) (hd : d.length ≤ 24) (r0 : Rul) (h0 : d[0]? = some r0) (hk0 : r0.kind = 1) : Drw Try.prog 123 117 b [desR d, .int 7] (QRul (RuleD d 7)) := by
  have hlm : (d.map rulR).length = d.length := List.length_map ..
  have hF := spec_FormatInt (d.length : Int) (by constructor <;> omega)
  have hlen := itoa_len (d.length : Int) (by omega) (by omega)
  have hfs : (⟨(Lib.itoa (d.length : Int)).toArray⟩ : ByteArray).size ≤ 20 := by rw [ba_size]; exact hlen
  refine drw_enter Try.func117 rfl _ Try.ntmps117 (by simp) fun C g u i h hn hm hu hi => ?_
  repeat' (first
 | (refine op_drawS (l1Str_d b hb baseA (by decide) (by decide)) rfl hu hi rfl (LendsPL.ros [strsR baseA]) rfl (by first | rfl | repeat' (first | rfl | exact clns_ro _ | refine clnO_cons ?_ ?_)) (tl hn rfl) ?_; intro i h a hi ha; have hsz := baseA_size a ha)
 | (refine op_drawI (l4Integer_d b hb d hd r0 h0 hk0) rfl hu hi rfl (LendsPL.ros [desR d]) rfl (by first | rfl | repeat' (first | rfl | exact clns_ro _ | refine clnO_cons ?_ ?_)) (tl hn rfl) ?_; intro i h x0 hi hx0)
 | refine op_build (t := 101) rfl rfl rfl rfl rfl (tl hn rfl) ?_
 | (refine op_drawI (l1Below_d b hb _ (by omega)) rfl hu hi rfl (LendsPL.ros [.int _]) rfl (by first | rfl | repeat' (first | rfl | exact clns_ro _ | refine clnO_cons ?_ ?_)) (tl hn rfl) ?_; intro i h x hi hx; obtain ⟨hxa, hxb⟩ := hx.2 (by omega))
 | ((first | refine RunsL.pe hn rfl rfl rfl ?_ | refine RunsD.pe rfl rfl ?_); first
 | refine ⟨_, pu_len_seqN d.length rfl hlm, ?_⟩)
 | refine RunsL.step tabOk hn rfl ?_
 | refine RunsL.nil ?_
 | refine Runs.toRegion 30 rfl ?_
 | ((first | refine RunsL.pe hn rfl rfl rfl ?_ | refine RunsD.pe rfl rfl ?_); first
 | refine ⟨_, pu_callR hF rfl, ?_⟩
 | refine ⟨_, pu_cat rfl rfl (by omega), ?_⟩
 | refine ⟨_, pu_buildS rfl, ?_⟩)
 | (refine Runs.ctls 30 rfl ?_; first | refine Runs.cond_t rfl ?_ | refine Runs.cond_f rfl ?_ | ((first | refine Runs.cond_yes rfl ?_ ?_ | refine Runs.cond_nno rfl ?_ ?_); · first | omega | rfl | assumption | (simp only [List.length_map]; omega)) | ((first | refine Runs.cond_no rfl ?_ ?_ | refine Runs.cond_nyes rfl ?_ ?_); · first | omega | rfl | assumption | (simp only [List.length_map]; omega)) | refine Runs.ret (ends_ro hm rfl rfl ?_) | exact Runs.ret (ends_cellR hm rfl rfl rfl (Nat.le_of_ble_eq_true rfl) rfl rfl))
 | refine op_box rfl (tl hn rfl) ?_
 | refine op_storeF rfl rfl rfl rfl (Nat.le_of_ble_eq_true rfl) ?_
 | refine op_alloc (tl hn rfl) ?_
 | refine op_storeN rfl rfl rfl rfl (Nat.le_of_ble_eq_true rfl) ?_
 | ((first | refine RunsL.pe hn rfl rfl rfl ?_ | refine RunsD.pe rfl rfl ?_); first
 | refine ⟨_, pu_add rfl rfl (by omega), ?_⟩
 | refine ⟨_, pu_indexAddr_map rfl rfl (by omega) (by assumption), ?_⟩
 | refine ⟨_, pu_sub rfl rfl (by omega), ?_⟩
 | refine ⟨_, pu_pick_b rfl rfl rfl, ?_⟩
 | refine ⟨_, pu_mul rfl rfl (by omega), ?_⟩
 | refine ⟨_, pu_build rfl rfl rfl rfl rfl rfl, ?_⟩)
 | ((first | refine RunsL.guard_dec rfl rfl rfl ?_ ?_ | refine RunsL.guard_ndec rfl rfl rfl ?_ ?_ | refine RunsL.guard_nb rfl rfl rfl ?_ ?_ | refine RunsL.guard_b rfl rfl rfl ?_ ?_ | refine RunsD.guard_dec rfl rfl rfl ?_ ?_ | refine RunsD.guard_ndec rfl rfl rfl ?_ ?_ | refine RunsD.guard_nb rfl rfl rfl ?_ ?_ | refine RunsD.guard_b rfl rfl rfl ?_ ?_) <;> intro h <;> try (exfalso; first | omega | contradiction | (simp only [List.length_map] at h; omega))))
  obtain ⟨c, hc⟩ : ∃ c : Nat, 1 + x = c := ⟨(1 + x).toNat, by omega⟩
  rw [hc]
  refine Runs.nilCell (e := 3) (sz := 1) 3 6 (by decide) rfl rfl ?_
  refine Runs.loopI 30 rfl (fun m E z => ∃ (ts ks : List Int) (i h : Int), ts.length + m = c ∧ ks.length = ts.length ∧ (∀ (j : Nat) z, ts[j]? = some z → 4 * (j : Int) ≤ z ∧ z ≤ 4 * j + 3) ∧ (∀ z ∈ ks, InD d z) ∧ CurOk b i ∧ E = [(0, .pin 0 0 g), (6, .obj 2 0), (7, .int d.length), (8, .obj 3 0), (10, .int m)] ∧
    z = [curOb 123 u i h, ⟨38, 0, [.ro (rulsR d)]⟩, ⟨52, 0, [.str ⟨#[]⟩, .int 0, .int 0, .bool false, .nil, .nil, .nil, .nil]⟩, ⟨52, 0, [.str (a ++ itoaS d.length), .int 7, .int 0, .bool false, .nil, .nil, .own 5, .own 4]⟩, ⟨3, 1, ((x0 :: ks).map RV.int).map .ro⟩, ⟨3, 1, (ts.map RV.int).map .ro⟩]) c [(0, .pin 0 0 g), (6, .obj 2 0), (7, .int d.length), (8, .obj 3 0), (10, .int c)] ⟨rfl, rfl, rfl, rfl, rfl, trivial⟩ ⟨[], [], i, h, by simp, rfl, by simp, by simp, hi, rfl, rfl⟩ fun m E z ⟨ts, ks, i, h, hlc, hkl, ht, hks, hi, hE, hz⟩ ih => ?_
  subst hE; subst hz
  have htt : (ts.map RV.int).length = ts.length := List.length_map ..
  have hta : ((ts.map RV.int).map AV.ro).length = ts.length := by simp
  have hkk : ((x0 :: ks).map RV.int).length = ks.length + 1 := by simp
  by_cases hm0 : 0 < m
  · repeat' (first
 | refine Runs.toLate (id := 26) 30 [0, 1, 2, 3, 4, 5, 6] [7, 8, 9, 10, 11, 12] mixed rfl rfl (by kernel_rfl) (by kernel_rfl) (by kernel_rfl) ?_
 | refine Runs.toLate (id := 27) 30 [0, 1, 2, 3] [4, 5, 6, 7, 8] mixed rfl rfl (by kernel_rfl) (by kernel_rfl) (by kernel_rfl) ?_
 | (refine RunsP.drawI (t := 117) (l1Below_d b hb 4 (by omega)) rfl hu hi (fun _ => LendsPL.ros [.int 4]) rfl (by first | rfl | repeat' (first | rfl | exact clns_ro _ | refine clnO_cons ?_ ?_)) (tl hn rfl) ?_; intro i h q hi hq; obtain ⟨hqa, hqb⟩ := hq.2 (by omega))
 | (refine RunsP.drawI (t := 126) (l1Below_d b hb (d.length : Int) (by omega)) rfl hu hi (fun _ => LendsPL.ros [.int (d.length : Int)]) rfl (by first | rfl | repeat' (first | rfl | exact clns_ro _ | refine clnO_cons ?_ ?_)) (tl hn rfl) ?_; intro i h y hi hy; have hyd : InD d y := ⟨fun e => hy.1 (by omega), fun e => hy.2 (by omega)⟩)
 | refine RunsH.pur (fun _ _ => pu_auto tabOk rfl) rfl (tl hn rfl) rfl ?_
 | refine RunsH.pur (fun _ _ => pu_len_own (n := ts.length) rfl rfl (by rw [hta, Nat.mul_one])) rfl (tl hn rfl) rfl ?_
 | refine RunsH.pur (fun _ _ => pu_mul rfl rfl (by omega)) rfl (tl hn rfl) rfl ?_
 | refine RunsH.pur (fun _ _ => pu_add rfl rfl (by omega)) rfl (tl hn rfl) rfl ?_
 | refine RunsH.pur (fun _ _ => pu_build rfl rfl rfl rfl rfl rfl) rfl (tl hn rfl) rfl ?_
 | refine RunsH.pur (fun _ _ => pu_add rfl rfl (by omega)) rfl (tl hn rfl) rfl ?_
 | refine RunsH.pur (fun _ _ => pu_sub rfl rfl (by omega)) rfl (tl hn rfl) rfl ?_
 | refine RunsH.pur (fun _ _ => pu_mul rfl rfl (by omega)) rfl (tl hn rfl) rfl ?_
 | refine RunsH.pur (fun _ _ => pu_build rfl rfl rfl rfl rfl rfl) rfl (tl hn rfl) rfl ?_
 | refine RunsH.nil ?_
 | refine RunsP.pur (pu_auto tabOk rfl) rfl rfl (tl hn rfl) (by first | rfl | repeat' (first | rfl | exact clns_ro _ | refine clnO_cons ?_ ?_)) ?_
 | refine RunsP.pur (pu_len_own (n := ts.length) rfl rfl (by rw [hta, Nat.mul_one])) rfl rfl (tl hn rfl) (by first | rfl | repeat' (first | rfl | exact clns_ro _ | refine clnO_cons ?_ ?_)) ?_
 | refine RunsP.pur (pu_mul rfl rfl (by omega)) rfl rfl (tl hn rfl) (by first | rfl | repeat' (first | rfl | exact clns_ro _ | refine clnO_cons ?_ ?_)) ?_
 | refine RunsP.pur (pu_add rfl rfl (by omega)) rfl rfl (tl hn rfl) (by first | rfl | repeat' (first | rfl | exact clns_ro _ | refine clnO_cons ?_ ?_)) ?_
 | refine RunsP.pur (pu_build rfl rfl rfl rfl rfl rfl) rfl rfl (tl hn rfl) (by first | rfl | repeat' (first | rfl | exact clns_ro _ | refine clnO_cons ?_ ?_)) ?_
 | refine RunsP.pur (pu_add rfl rfl (by omega)) rfl rfl (tl hn rfl) (by first | rfl | repeat' (first | rfl | exact clns_ro _ | refine clnO_cons ?_ ?_)) ?_
 | refine RunsP.pur (pu_sub rfl rfl (by omega)) rfl rfl (tl hn rfl) (by first | rfl | repeat' (first | rfl | exact clns_ro _ | refine clnO_cons ?_ ?_)) ?_
 | refine RunsP.pur (pu_mul rfl rfl (by omega)) rfl rfl (tl hn rfl) (by first | rfl | repeat' (first | rfl | exact clns_ro _ | refine clnO_cons ?_ ?_)) ?_
 | refine RunsP.pur (pu_build rfl rfl rfl rfl rfl rfl) rfl rfl (tl hn rfl) (by first | rfl | repeat' (first | rfl | exact clns_ro _ | refine clnO_cons ?_ ?_)) ?_
 | refine RunsL.step tabOk hn rfl ?_
 | refine RunsL.nil ?_
 | refine Runs.toRegion 30 rfl ?_
 | refine RunsP.done 10 rfl (Nat.le_of_ble_eq_true rfl) (by kernel_rfl) (by kernel_rfl) ?_
 | refine RunsP.done 6 rfl (Nat.le_of_ble_eq_true rfl) (by kernel_rfl) (by kernel_rfl) ?_
 | (refine RunsL.junk 3 6 rfl ?_; refine op_append (t := 120) (n := ts.length) rfl rfl rfl rfl rfl rfl (by rw [htt, Nat.mul_one]) (FreeI.at_ ⟨by simp [curOb, AV.onlys, AV.only], by simp [AV.onlys, AV.only], by simp [AV.onlys, AV.only], by simp [AV.onlys, AV.only], onlys_ro _ _, onlys_ro _ _, trivial⟩) (by simp; omega) (by simp; omega) (tl hn rfl) ?_)
 | (refine RunsL.junk 3 7 rfl ?_; refine op_append (t := 128) (n := ks.length + 1) rfl rfl rfl rfl rfl rfl (by rw [hkk, Nat.mul_one]) (FreeI.at_ ⟨by simp [curOb, AV.onlys, AV.only], by simp [AV.onlys, AV.only], by simp [AV.onlys, AV.only], by simp [AV.onlys, AV.only], onlys_ro _ _, onlys_ro _ _, trivial⟩) (by simp; omega) (by simp; omega) (tl hn rfl) ?_)
 | ((first | refine RunsL.pe hn rfl rfl rfl ?_ | refine RunsD.pe rfl rfl ?_); first
 | refine ⟨_, pu_len_own (n := ts.length) rfl rfl (by rw [hta, Nat.mul_one]), ?_⟩
 | refine ⟨_, pu_mul rfl rfl (by omega), ?_⟩
 | refine ⟨_, pu_add rfl rfl (by omega), ?_⟩
 | refine ⟨_, pu_build rfl rfl rfl rfl rfl rfl, ?_⟩)
 | (refine Runs.ctls 30 rfl ?_; first | refine Runs.cond_t rfl ?_ | refine Runs.cond_f rfl ?_ | ((first | refine Runs.cond_yes rfl ?_ ?_ | refine Runs.cond_nno rfl ?_ ?_); · first | omega | rfl | assumption | (simp only [List.length_map]; omega)) | ((first | refine Runs.cond_no rfl ?_ ?_ | refine Runs.cond_nyes rfl ?_ ?_); · first | omega | rfl | assumption | (simp only [List.length_map]; omega)) | refine Runs.ret (ends_ro hm rfl rfl ?_) | exact Runs.ret (ends_cellR hm rfl rfl rfl (Nat.le_of_ble_eq_true rfl) rfl rfl))
 | refine op_box rfl (tl hn rfl) ?_
 | refine op_storeF rfl rfl rfl rfl (Nat.le_of_ble_eq_true rfl) ?_
 | refine op_alloc (tl hn rfl) ?_
 | refine op_storeN rfl rfl rfl rfl (Nat.le_of_ble_eq_true rfl) ?_
 | ((first | refine RunsL.pe hn rfl rfl rfl ?_ | refine RunsD.pe rfl rfl ?_); first
 | refine ⟨_, pu_add rfl rfl (by omega), ?_⟩
 | refine ⟨_, pu_indexAddr_map rfl rfl (by omega) (by assumption), ?_⟩
 | refine ⟨_, pu_sub rfl rfl (by omega), ?_⟩
 | refine ⟨_, pu_pick_b rfl rfl rfl, ?_⟩
 | refine ⟨_, pu_mul rfl rfl (by omega), ?_⟩
 | refine ⟨_, pu_build rfl rfl rfl rfl rfl rfl, ?_⟩)
 | ((first | refine RunsL.guard_dec rfl rfl rfl ?_ ?_ | refine RunsL.guard_ndec rfl rfl rfl ?_ ?_ | refine RunsL.guard_nb rfl rfl rfl ?_ ?_ | refine RunsL.guard_b rfl rfl rfl ?_ ?_ | refine RunsD.guard_dec rfl rfl rfl ?_ ?_ | refine RunsD.guard_ndec rfl rfl rfl ?_ ?_ | refine RunsD.guard_nb rfl rfl rfl ?_ ?_ | refine RunsD.guard_b rfl rfl rfl ?_ ?_) <;> intro h <;> try (exfalso; first | omega | contradiction | (simp only [List.length_map] at h; omega))))
    refine ih (m - 1) _ _ _ (by omega) ⟨ts ++ [4 * (ts.length : Int) + q], ks ++ [y], i, h, by simp; omega, by simp [hkl], fun j z hz => ?_, fun z hz => ?_, hi, rfl, ?_⟩ ⟨rfl, rfl, rfl, rfl, ?_, trivial⟩
    · rw [List.getElem?_append] at hz
      split at hz
      · exact ht j z hz
      · rename_i hj
        have hj' : j - ts.length = 0 := by
          have := (List.getElem?_eq_some_iff.1 hz).1
          simp at this; omega
        rw [hj'] at hz
        simp at hz
        subst hz
        omega
    · rcases List.mem_append.1 hz with h1 | h1
      · exact hks z h1
      · simp at h1; subst h1; exact hyd
    · simp
    · show AV.int _ = AV.int _
      congr 1; omega
  · have em : m = 0 := by omega
    repeat' (first
 | refine RunsL.step tabOk hn rfl ?_
 | refine RunsL.nil ?_
 | refine Runs.toRegion 30 rfl ?_
 | (refine Runs.ctls 30 rfl ?_; first | refine Runs.cond_t rfl ?_ | refine Runs.cond_f rfl ?_ | ((first | refine Runs.cond_yes rfl ?_ ?_ | refine Runs.cond_nno rfl ?_ ?_); · first | omega | rfl | assumption | (simp only [List.length_map]; omega)) | ((first | refine Runs.cond_no rfl ?_ ?_ | refine Runs.cond_nyes rfl ?_ ?_); · first | omega | rfl | assumption | (simp only [List.length_map]; omega)) | refine Runs.ret (ends_ro hm rfl rfl ?_) | exact Runs.ret (ends_cellR hm rfl rfl rfl (Nat.le_of_ble_eq_true rfl) rfl rfl))
 | refine op_box rfl (tl hn rfl) ?_
 | refine op_storeF rfl rfl rfl rfl (Nat.le_of_ble_eq_true rfl) ?_
 | refine op_alloc (tl hn rfl) ?_
 | refine op_storeN rfl rfl rfl rfl (Nat.le_of_ble_eq_true rfl) ?_
 | ((first | refine RunsL.pe hn rfl rfl rfl ?_ | refine RunsD.pe rfl rfl ?_); first
 | refine ⟨_, pu_add rfl rfl (by omega), ?_⟩
 | refine ⟨_, pu_indexAddr_map rfl rfl (by omega) (by assumption), ?_⟩
 | refine ⟨_, pu_sub rfl rfl (by omega), ?_⟩
 | refine ⟨_, pu_pick_b rfl rfl rfl, ?_⟩
 | refine ⟨_, pu_mul rfl rfl (by omega), ?_⟩
 | refine ⟨_, pu_build rfl rfl rfl rfl rfl rfl, ?_⟩)
 | ((first | refine RunsL.guard_dec rfl rfl rfl ?_ ?_ | refine RunsL.guard_ndec rfl rfl rfl ?_ ?_ | refine RunsL.guard_nb rfl rfl rfl ?_ ?_ | refine RunsL.guard_b rfl rfl rfl ?_ ?_ | refine RunsD.guard_dec rfl rfl rfl ?_ ?_ | refine RunsD.guard_ndec rfl rfl rfl ?_ ?_ | refine RunsD.guard_nb rfl rfl rfl ?_ ?_ | refine RunsD.guard_b rfl rfl rfl ?_ ?_) <;> intro h <;> try (exfalso; first | omega | contradiction | (simp only [List.length_map] at h; omega))))
    refine Runs.nilCell (e := 5) (sz := 1) 2 4 (by decide) rfl rfl ?_
    refine Runs.nilCell (e := 9) (sz := 1) 2 5 (by decide) rfl rfl ?_
    exact Runs.ctls 30 rfl (Runs.ret (ends_rul (r := ⟨a ++ itoaS d.length, 7, 0, false, [], [], ts, x0 :: ks⟩) (x := 6) (y := 7) (z := 5) (w := 4) hm rfl rfl rfl hi rfl rfl rfl rfl rfl rfl (by decide) (by decide) (ruleD7 ha (by omega) ht hx0 hkl hks)))
end Go.Proofs.Ytnecoghfhcimeaa
/- The draw of a description. -/
namespace Go.Proofs.Ytnecoghfhcimeaa
set_option linter.unusedSimpArgs false
set_option linter.unusedVariables false
open Go.RowKit
open AV (Mem Keeps)
structure DrawD (d : Des) : Prop where
  pos : 1 ≤ d.length
  most : d.length ≤ 6
  first : ∃ r0, d[0]? = some r0 ∧ r0.kind = 1
  rule : ∀ (j : Nat) r, d[j]? = some r → ∃ k, 1 ≤ k ∧ k ≤ 10 ∧ RuleD (d.take j) k r
theorem l4Make_d (b : List UInt8) (hb : b.length ≤ 1048576) (d : Des) (hd : d.length ≤ 24) (k : Int) (hk : 1 ≤ k ∧ k ≤ 10) (hi : k = 1 ∨ ∃ r0, d[0]? = some r0 ∧ r0.kind = 1) : Drw Try.prog 123 117 b [desR d, .int k] (QRul (RuleD d k)) := by
  by_cases h1 : k = 1
  · subst h1; exact l4Make1_d b hb d hd
  obtain ⟨r0, h0, hk0⟩ := hi.resolve_left h1
  have : k = 2 ∨ k = 3 ∨ k = 4 ∨ k = 5 ∨ k = 6 ∨ k = 7 ∨ k = 8 ∨ k = 9 ∨ k = 10 := by omega
  rcases this with rfl | rfl | rfl | rfl | rfl | rfl | rfl | rfl | rfl
  · exact l4Make2_d b hb d hd
  · exact l4Make3_d b hb d hd
  · exact l4Make4_d b hb d hd r0 h0 hk0
  · exact l4Make5_d b hb d hd r0 h0 hk0
  · exact l4Make6_d b hb d hd
  · exact l4Make7_d b hb d hd r0 h0 hk0
  · exact l4Make8_d b hb d hd
  · exact l4Make9_d b hb d hd
  · exact l4Make10_d b hb d hd
theorem DrawD.app {d : Des} {k : Int} {r : Rul} (h : DrawD d) (hl : d.length < 6) (hk : 1 ≤ k ∧ k ≤ 10) (hr : RuleD d k r) : DrawD (d ++ [r]) := by
  obtain ⟨r0, e0, k0⟩ := h.first
  refine ⟨by simp, by simp; omega, ⟨r0, ?_, k0⟩, fun j x hx => ?_⟩
  · rw [List.getElem?_append_left (by have := h.pos; omega)]; exact e0
  · rcases Nat.lt_or_ge j d.length with hj | hj
    · rw [List.getElem?_append_left hj] at hx
      rw [List.take_append_of_le_length (by omega)]
      exact h.rule j x hx
    · have hjl := (List.getElem?_eq_some_iff.1 hx).1
      simp only [List.length_append, List.length_singleton] at hjl
      have ej : j = d.length := by omega
      subst ej
      simp at hx; subst hx
      rw [List.take_left']
      · exact ⟨k, hk.1, hk.2, hr⟩
      · rfl
theorem DrawD.one {r : Rul} (hr : RuleD [] 1 r) : DrawD [r] := by
  refine ⟨by simp, by simp, ⟨r, rfl, hr.hkind⟩, fun j x hx => ?_⟩
  cases j with
  | zero => simp at hx; subst hx; exact ⟨1, by decide, by decide, hr⟩
  | succ j => simp at hx
set_option maxRecDepth 100000 in
instance tb_des : TB Try.prog 38 [(0, 1)] [.slice none 0 0] := ⟨_, _, _, rfl, rfl, rfl, rfl, by kernel_rfl, by decide⟩
def desRR (d : Des) : RR := .agg [.row 52 8 (d.map rulR).flatten]
def QDes (p : Des → Prop) (rr : RR) : Prop := ∃ d, rr = desRR d ∧ p d
theorem qdes_ok {p : Des → Prop} : ∀ rr, QDes p rr → ∃ r, Seals rr r ∧ ∃ d, r = desR d ∧ p d := by
  rintro _ ⟨d, rfl, hd⟩
  refine ⟨desR d, ?_, d, rfl, hd⟩
  unfold desRR desR rulsR
  simp only [Seals, SealsL]
  exact ⟨_, rfl, _, _, rfl, ⟨_, rfl, rfl, fun x hx => by obtain ⟨r, _, rfl⟩ := List.mem_map.1 hx; rfl⟩, rfl⟩
theorem ruls_len (d : Des) : (d.map rulR).flatten.length = d.length * 8 := by rw [flatten_len (sz := 8) fun x hx => by obtain ⟨r, _, rfl⟩ := List.mem_map.1 hx; rfl, List.length_map]
set_option maxHeartbeats 8000000 in
theorem l4Description_d (b : List UInt8) (hb : b.length ≤ 1048576) : Drw Try.prog 123 65 b [] (QDes DrawD) := by
  refine drw_enter Try.func65 rfl _ Try.ntmps65 (by simp) fun C g u i h hn hm hu hi => ?_
  have rl : ∀ d : Des, ∀ x ∈ d.map rulR, x.length = 8 := fun d x hx => by obtain ⟨r, _, rfl⟩ := List.mem_map.1 hx; rfl
  repeat' (first
 | refine Runs.nilCell (e := 52) (sz := 8) 2 0 (by decide) rfl rfl ?_
 | refine Runs.toLate (id := 2) 30 [0, 1, 2, 3] [4, 5, 6, 7, 8] mixed rfl rfl (by kernel_rfl) (by kernel_rfl) (by kernel_rfl) ?_
 | (refine RunsP.drawF (t := 10) (l4Make_d b hb [] (by simp) 1 (by omega) (.inl rfl)) qrul_ok rfl hu hi (fun _ => .cons (LendsP.agg (.cons (LendsP.own (i := 3) (o := ⟨52, 8, _⟩) (els := List.map rulR []) (by decide) rfl rfl (rl [])) .nil)) (.cons .ro .nil)) rfl (by first | rfl | repeat' (first | rfl | exact clns_ro _ | refine clnO_cons ?_ ?_)) (tl hn rfl) ?_; rintro i h _ hi ⟨r, rfl, hr⟩)
 | (refine op_drawI (l1Below_d b hb _ (by omega)) rfl hu hi rfl (LendsPL.ros [.int _]) rfl (by first | rfl | repeat' (first | rfl | exact clns_ro _ | refine clnO_cons ?_ ?_)) (tl hn rfl) ?_; intro i h x hi hx; obtain ⟨hxa, hxb⟩ := hx.2 (by omega))
 | refine RunsH.pur (fun _ _ => pu_auto tabOk rfl) rfl (tl hn rfl) rfl ?_
 | refine RunsH.pur (fun _ _ => pu_buildS rfl) rfl (tl hn rfl) rfl ?_
 | refine RunsH.pur (fun _ _ => pu_build rfl rfl rfl rfl rfl rfl) rfl (tl hn rfl) rfl ?_
 | refine RunsH.pur (fun _ _ => pu_add rfl rfl (by omega)) rfl (tl hn rfl) rfl ?_
 | refine RunsH.pur (fun _ _ => pu_sub rfl rfl (by omega)) rfl (tl hn rfl) rfl ?_
 | refine RunsH.pur (fun _ _ => pu_build rfl rfl rfl rfl rfl rfl) rfl (tl hn rfl) rfl ?_
 | refine RunsH.nil ?_
 | refine RunsP.pur (pu_auto tabOk rfl) rfl rfl (tl hn rfl) (by first | rfl | repeat' (first | rfl | exact clns_ro _ | refine clnO_cons ?_ ?_)) ?_
 | refine RunsP.pur (pu_buildS rfl) rfl rfl (tl hn rfl) (by first | rfl | repeat' (first | rfl | exact clns_ro _ | refine clnO_cons ?_ ?_)) ?_
 | refine RunsP.pur (pu_build rfl rfl rfl rfl rfl rfl) rfl rfl (tl hn rfl) (by first | rfl | repeat' (first | rfl | exact clns_ro _ | refine clnO_cons ?_ ?_)) ?_
 | refine RunsP.pur (pu_add rfl rfl (by omega)) rfl rfl (tl hn rfl) (by first | rfl | repeat' (first | rfl | exact clns_ro _ | refine clnO_cons ?_ ?_)) ?_
 | refine RunsP.pur (pu_sub rfl rfl (by omega)) rfl rfl (tl hn rfl) (by first | rfl | repeat' (first | rfl | exact clns_ro _ | refine clnO_cons ?_ ?_)) ?_
 | refine RunsP.pur (pu_build rfl rfl rfl rfl rfl rfl) rfl rfl (tl hn rfl) (by first | rfl | repeat' (first | rfl | exact clns_ro _ | refine clnO_cons ?_ ?_)) ?_
 | refine RunsL.step tabOk hn rfl ?_
 | refine RunsL.nil ?_
 | refine Runs.toRegion 30 rfl ?_
 | refine RunsP.done 6 rfl (Nat.le_of_ble_eq_true rfl) (by kernel_rfl) (by kernel_rfl) ?_
 | (refine RunsL.junk 2 0 rfl ?_; refine op_append (t := 12) (n := 0) (rs := []) rfl rfl rfl rfl rfl rfl rfl (FreeI.at_ ⟨by simp [curOb, AV.onlys, AV.only], by simp [AV.onlys, AV.only], ⟨trivial, trivial⟩, by simp [AV.onlys], trivial⟩) (by simp) (by simp) (tl hn rfl) ?_)
 | ((first | refine RunsL.pe hn rfl rfl rfl ?_ | refine RunsD.pe rfl rfl ?_); first
 | refine ⟨_, pu_buildS rfl, ?_⟩
 | refine ⟨_, pu_build rfl rfl rfl rfl rfl rfl, ?_⟩)
 | (refine Runs.ctls 30 rfl ?_; first | ((first | refine Runs.cond_yes rfl ?_ ?_ | refine Runs.cond_nno rfl ?_ ?_); · first | omega | rfl | assumption | (simp only [List.length_map]; omega)) | ((first | refine Runs.cond_no rfl ?_ ?_ | refine Runs.cond_nyes rfl ?_ ?_); · first | omega | rfl | assumption | (simp only [List.length_map]; omega)) | refine Runs.ret (ends_ro hm rfl rfl ?_) | exact Runs.ret (ends_cellR hm rfl rfl rfl (Nat.le_of_ble_eq_true rfl) rfl rfl))
 | refine op_storeF rfl rfl rfl rfl (Nat.le_of_ble_eq_true rfl) ?_
 | refine op_alloc (tl hn rfl) ?_
 | refine op_storeN rfl rfl rfl rfl (Nat.le_of_ble_eq_true rfl) ?_
 | ((first | refine RunsL.pe hn rfl rfl rfl ?_ | refine RunsD.pe rfl rfl ?_); first
 | refine ⟨_, pu_add rfl rfl (by omega), ?_⟩
 | refine ⟨_, pu_indexAddr_map rfl rfl (by omega) (by assumption), ?_⟩
 | refine ⟨_, pu_sub rfl rfl (by omega), ?_⟩
 | refine ⟨_, pu_pick_b rfl rfl rfl, ?_⟩
 | refine ⟨_, pu_mul rfl rfl (by omega), ?_⟩
 | refine ⟨_, pu_build rfl rfl rfl rfl rfl rfl, ?_⟩))
  obtain ⟨c, hc⟩ : ∃ c : Nat, x = c := ⟨x.toNat, by omega⟩
  subst hc
  have hD0 := DrawD.one hr
  refine Runs.loopI 30 rfl (fun m E z => ∃ (d : Des) (i h : Int), d.length + m ≤ 6 ∧ DrawD d ∧ CurOk b i ∧ E = [(0, .pin 0 0 g), (2, .obj 1 0), (3, .obj 2 0), (4, .int m)] ∧
    z = [curOb 123 u i h, ⟨38, 0, [.nil]⟩, ⟨38, 0, [.own 3]⟩, ⟨52, 8, (d.map rulR).flatten.map .ro⟩]) c [(0, .pin 0 0 g), (2, .obj 1 0), (3, .obj 2 0), (4, .int c)] ⟨rfl, rfl, rfl, rfl, trivial⟩ ⟨[r], i, h, by simp; omega, hD0, hi, rfl, rfl⟩ fun m E z ⟨d, i, h, hlc, hD, hi, hE, hz⟩ ih => ?_
  subst hE; subst hz
  have hfl := ruls_len d
  by_cases hm0 : 0 < m
  · repeat' (first
 | refine Runs.toLate (id := 6) 30 [0, 1, 2, 3, 4] [5, 6, 7, 8, 9, 10, 11] mixed rfl rfl (by kernel_rfl) (by kernel_rfl) (by kernel_rfl) ?_
 | (refine RunsP.drawI (t := 25) (l1Below_d b hb 10 (by omega)) rfl hu hi (fun _ => LendsPL.ros [.int 10]) rfl (by first | rfl | repeat' (first | rfl | exact clns_ro _ | refine clnO_cons ?_ ?_)) (tl hn rfl) ?_; intro i h q hi hq; obtain ⟨hqa, hqb⟩ := hq.2 (by omega))
 | (refine RunsP.drawF (t := 27) (l4Make_d b hb d (by omega) (1 + q) (by omega) (.inr hD.first)) qrul_ok rfl hu hi (fun _ => .cons (LendsP.agg (.cons (LendsP.own (i := 3) (o := ⟨52, 8, _⟩) (els := List.map rulR d) (by decide) rfl rfl (rl d)) .nil)) (.cons .ro .nil)) rfl (by first | rfl | repeat' (first | rfl | exact clns_ro _ | refine clnO_cons ?_ ?_)) (tl hn rfl) ?_; rintro i h _ hi ⟨r, rfl, hr⟩)
 | refine RunsH.pur (fun _ _ => pu_auto tabOk rfl) rfl (tl hn rfl) rfl ?_
 | refine RunsH.pur (fun _ _ => pu_add rfl rfl (by omega)) rfl (tl hn rfl) rfl ?_
 | refine RunsH.pur (fun _ _ => pu_build rfl rfl rfl rfl rfl rfl) rfl (tl hn rfl) rfl ?_
 | refine RunsH.pur (fun _ _ => pu_add rfl rfl (by omega)) rfl (tl hn rfl) rfl ?_
 | refine RunsH.pur (fun _ _ => pu_sub rfl rfl (by omega)) rfl (tl hn rfl) rfl ?_
 | refine RunsH.pur (fun _ _ => pu_build rfl rfl rfl rfl rfl rfl) rfl (tl hn rfl) rfl ?_
 | refine RunsH.nil ?_
 | refine RunsP.pur (pu_auto tabOk rfl) rfl rfl (tl hn rfl) (by first | rfl | repeat' (first | rfl | exact clns_ro _ | refine clnO_cons ?_ ?_)) ?_
 | refine RunsP.pur (pu_add rfl rfl (by omega)) rfl rfl (tl hn rfl) (by first | rfl | repeat' (first | rfl | exact clns_ro _ | refine clnO_cons ?_ ?_)) ?_
 | refine RunsP.pur (pu_build rfl rfl rfl rfl rfl rfl) rfl rfl (tl hn rfl) (by first | rfl | repeat' (first | rfl | exact clns_ro _ | refine clnO_cons ?_ ?_)) ?_
 | refine RunsP.pur (pu_add rfl rfl (by omega)) rfl rfl (tl hn rfl) (by first | rfl | repeat' (first | rfl | exact clns_ro _ | refine clnO_cons ?_ ?_)) ?_
 | refine RunsP.pur (pu_sub rfl rfl (by omega)) rfl rfl (tl hn rfl) (by first | rfl | repeat' (first | rfl | exact clns_ro _ | refine clnO_cons ?_ ?_)) ?_
 | refine RunsP.pur (pu_build rfl rfl rfl rfl rfl rfl) rfl rfl (tl hn rfl) (by first | rfl | repeat' (first | rfl | exact clns_ro _ | refine clnO_cons ?_ ?_)) ?_
 | refine RunsL.step tabOk hn rfl ?_
 | refine RunsL.nil ?_
 | refine Runs.toRegion 30 rfl ?_
 | refine RunsP.done 9 rfl (Nat.le_of_ble_eq_true rfl) (by kernel_rfl) (by kernel_rfl) ?_
 | (refine RunsL.junk 2 0 rfl ?_; refine op_append (t := 29) (n := d.length) rfl rfl rfl rfl rfl rfl (by rw [hfl]) (FreeI.at_ ⟨by simp [curOb, AV.onlys, AV.only], by simp [AV.onlys, AV.only], by simp [AV.onlys, AV.only], onlys_ro _ _, trivial⟩) (by simp; omega) (by simp; omega) (tl hn rfl) ?_)
 | ((first | refine RunsL.pe hn rfl rfl rfl ?_ | refine RunsD.pe rfl rfl ?_); first
 | refine ⟨_, pu_add rfl rfl (by omega), ?_⟩
 | refine ⟨_, pu_build rfl rfl rfl rfl rfl rfl, ?_⟩)
 | (refine Runs.ctls 30 rfl ?_; first | ((first | refine Runs.cond_yes rfl ?_ ?_ | refine Runs.cond_nno rfl ?_ ?_); · first | omega | rfl | assumption | (simp only [List.length_map]; omega)) | ((first | refine Runs.cond_no rfl ?_ ?_ | refine Runs.cond_nyes rfl ?_ ?_); · first | omega | rfl | assumption | (simp only [List.length_map]; omega)) | refine Runs.ret (ends_ro hm rfl rfl ?_) | exact Runs.ret (ends_cellR hm rfl rfl rfl (Nat.le_of_ble_eq_true rfl) rfl rfl))
 | refine op_storeF rfl rfl rfl rfl (Nat.le_of_ble_eq_true rfl) ?_
 | refine op_alloc (tl hn rfl) ?_
 | refine op_storeN rfl rfl rfl rfl (Nat.le_of_ble_eq_true rfl) ?_
 | ((first | refine RunsL.pe hn rfl rfl rfl ?_ | refine RunsD.pe rfl rfl ?_); first
 | refine ⟨_, pu_add rfl rfl (by omega), ?_⟩
 | refine ⟨_, pu_indexAddr_map rfl rfl (by omega) (by assumption), ?_⟩
 | refine ⟨_, pu_sub rfl rfl (by omega), ?_⟩
 | refine ⟨_, pu_pick_b rfl rfl rfl, ?_⟩
 | refine ⟨_, pu_mul rfl rfl (by omega), ?_⟩
 | refine ⟨_, pu_build rfl rfl rfl rfl rfl rfl, ?_⟩))
    refine ih (m - 1) _ _ _ (by omega) ⟨d ++ [r], i, h, by simp; omega, hD.app (by omega) (by omega) hr, hi, rfl, ?_⟩ ⟨rfl, rfl, rfl, ?_, trivial⟩
    · simp; rfl
    · show AV.int _ = AV.int _
      congr 1; omega
  · repeat' (first
 | refine RunsL.step tabOk hn rfl ?_
 | refine RunsL.nil ?_
 | refine Runs.toRegion 30 rfl ?_
 | (refine Runs.ctls 30 rfl ?_; first | ((first | refine Runs.cond_yes rfl ?_ ?_ | refine Runs.cond_nno rfl ?_ ?_); · first | omega | rfl | assumption | (simp only [List.length_map]; omega)) | ((first | refine Runs.cond_no rfl ?_ ?_ | refine Runs.cond_nyes rfl ?_ ?_); · first | omega | rfl | assumption | (simp only [List.length_map]; omega)) | refine Runs.ret (ends_ro hm rfl rfl ?_) | exact Runs.ret (ends_cellR hm rfl rfl rfl (Nat.le_of_ble_eq_true rfl) rfl rfl))
 | refine op_storeF rfl rfl rfl rfl (Nat.le_of_ble_eq_true rfl) ?_
 | refine op_alloc (tl hn rfl) ?_
 | refine op_storeN rfl rfl rfl rfl (Nat.le_of_ble_eq_true rfl) ?_
 | ((first | refine RunsL.pe hn rfl rfl rfl ?_ | refine RunsD.pe rfl rfl ?_); first
 | refine ⟨_, pu_add rfl rfl (by omega), ?_⟩
 | refine ⟨_, pu_indexAddr_map rfl rfl (by omega) (by assumption), ?_⟩
 | refine ⟨_, pu_sub rfl rfl (by omega), ?_⟩
 | refine ⟨_, pu_pick_b rfl rfl rfl, ?_⟩
 | refine ⟨_, pu_mul rfl rfl (by omega), ?_⟩
 | refine ⟨_, pu_build rfl rfl rfl rfl rfl rfl, ?_⟩))
    exact Runs.ctls 30 rfl (Runs.ret (endsD1 hm rfl rfl rfl hi (.agg [.own 3]) (by
      simp only [ResV]
      exact ⟨1, 0, _, rfl, rfl, .inr ⟨1, by infer_instance, Nat.le_refl _, rfl⟩⟩) (desRR d) [3] (by
      simp only [desRR, Harv, Harvs]
      exact ⟨_, rfl, _, _, [3], [], rfl, rfl, ⟨3, rfl, rfl, rfl⟩, rfl, rfl⟩) (by decide) (by decide) ⟨d, rfl, hD⟩))
end Go.Proofs.Ytnecoghfhcimeaa
/- What is drawn is valid: plain laws; the draw of a description as a call. -/
namespace Go.Proofs.Ytnecoghfhcimeaa
set_option linter.unusedSimpArgs false
set_option linter.unusedVariables false
open Go.RowKit
theorem itoaS_one {n : Nat} (h : n < 10) : itoaS (n : Int) = ⟨#[UInt8.ofNat (48 + n)]⟩ := by
  unfold itoaS Lib.itoa
  rw [if_neg (by omega), Int.toNat_natCast, Lib.decDigits_one h]
theorem ba_inv {s : ByteArray} {k : Nat} {c : UInt8} (h : s[k]? = some c) : s.data.toList[k]? = some c := by
  rw [Array.getElem?_toList]
  have hk : k < s.size := by
    rcases Nat.lt_or_ge k s.size with h' | h'
    · exact h'
    · rw [getElem?_neg s k (by omega)] at h; cases h
  rw [getElem?_pos s k hk] at h
  injection h with h
  rw [Array.getElem?_eq_getElem (show k < s.data.size from hk)]
  exact congrArg some h
theorem cat_data (a : ByteArray) (x : UInt8) : (a ++ (⟨#[x]⟩ : ByteArray)).data.toList = a.data.toList ++ [x] := by simp
theorem ncat_size (a : ByteArray) (x : UInt8) : (a ++ (⟨#[x]⟩ : ByteArray)).size = a.size + 1 := by rw [ByteArray.size_append]; rfl
theorem ba_len (s : ByteArray) : s.data.toList.length = s.size := by rw [Array.length_toList]; rfl
def Low (a : ByteArray) : Prop := 1 ≤ a.size ∧ a.size ≤ 4 ∧ ∀ x ∈ a.data.toList, 97 ≤ x.toNat ∧ x.toNat ≤ 122
theorem baseA_low : ∀ a ∈ baseA, Low a := by
  intro x hx
  simp only [baseA, List.mem_cons, List.not_mem_nil, or_false] at hx
  rcases hx with rfl | rfl | rfl | rfl | rfl <;> exact ⟨by decide, by decide, by decide⟩
theorem baseP_low : ∀ a ∈ baseP, Low a := by
  intro x hx
  simp only [baseP, List.mem_cons, List.not_mem_nil, or_false] at hx
  rcases hx with rfl | rfl | rfl <;> exact ⟨by decide, by decide, by decide⟩
theorem nm_cat {a : ByteArray} (h : Low a) {n : Nat} (hn : n < 10) : IsNm (a ++ itoaS (n : Int)) := by
  rw [itoaS_one hn]
  refine ⟨by rw [ncat_size]; omega, by rw [ncat_size]; have := h.2.1; omega, fun i c hc => ?_⟩
  have h1 := ba_inv hc
  rw [cat_data] at h1
  have hal := ba_len a
  rcases Nat.lt_or_ge i a.size with hi | hi
  · rw [List.getElem?_append_left (by omega)] at h1
    have := h.2.2 c (List.mem_of_getElem? h1)
    exact .inl this
  · have hil := (List.getElem?_eq_some_iff.1 h1).1
    simp only [List.length_append, List.length_singleton] at hil
    have ei : i = a.data.toList.length := by omega
    subst ei
    rw [List.getElem?_append_right (Nat.le_refl _), Nat.sub_self] at h1
    have h1' : UInt8.ofNat (48 + n) = c := by simpa only [List.getElem?_cons_zero, Option.some.injEq] using h1
    subst h1'
    have := h.1
    refine .inr ⟨?_, ?_, by omega⟩ <;> (rw [UInt8.toNat_ofNat']; omega)
theorem cat_inj {a a' : ByteArray} {n n' : Nat} (hn : n < 10) (hn' : n' < 10) (h : a ++ itoaS (n : Int) = a' ++ itoaS (n' : Int)) : n = n' := by
  rw [itoaS_one hn, itoaS_one hn'] at h
  have h1 := congrArg (fun s : ByteArray => s.data.toList.getLast?) h
  simp only [cat_data, List.getLast?_append, List.getLast?_singleton, Option.some_or, Option.some.injEq] at h1
  have h2 := congrArg UInt8.toNat h1
  rw [UInt8.toNat_ofNat', UInt8.toNat_ofNat'] at h2
  omega
theorem ncat_le {a : ByteArray} (h : Low a) {n : Nat} (hn : n < 10) : (a ++ itoaS (n : Int)).size ≤ 5 := by
  rw [itoaS_one hn, ncat_size]; have := h.2.1; omega
theorem IsInt.up {d : Des} {j : Nat} {x : Int} (h : IsInt (d.take j) x) : IsInt d x ∧ x < j := by
  obtain ⟨h1, h2, r, h3, h4⟩ := h
  rw [List.length_take] at h2
  have hj : x.toNat < j := by omega
  rw [List.getElem?_take_of_lt hj] at h3
  exact ⟨⟨h1, by omega, r, h3, h4⟩, by omega⟩
structure IsInt' (d : Des) (x : Int) : Prop where
  int : IsInt d x
  lim : 255 ≤ lim d x
theorem DrawD.int {d : Des} (h : DrawD d) {x : Int} (hx : IsInt d x) : 255 ≤ lim d x := by
  obtain ⟨h1, h2, r, h3, h4⟩ := hx
  obtain ⟨k, k1, k2, hr⟩ := h.rule _ r h3
  have ek : k = 1 := by rw [← hr.hkind]; exact h4
  have hs := hr.hsize.1 ek
  rw [lim_yes h3 ⟨h1, h4, hs.1, by omega⟩]
  have := @pow8_le r.size
  omega
section
variable {d : Des} (h : DrawD d) {j : Nat} {r : Rul} (hj : d[j]? = some r)
include h hj
theorem DrawD.kinds : ∃ k, 1 ≤ k ∧ k ≤ 10 ∧ RuleD (d.take j) k r ∧ r.kind = k ∧ (d.take j).length = j ∧ j < d.length := by
  obtain ⟨k, k1, k2, hr⟩ := h.rule j r hj
  have hjl := (List.getElem?_eq_some_iff.1 hj).1
  exact ⟨k, k1, k2, hr, hr.hkind, by rw [List.length_take]; omega, hjl⟩
theorem DrawD.kid : ∀ z ∈ r.kids, 0 ≤ z ∧ z < j := by
  obtain ⟨k, k1, k2, hr, hk, hl, hjl⟩ := h.kinds hj
  have hInt : ∀ x, IsInt (d.take j) x → 0 ≤ x ∧ x < j := fun x hx => ⟨hx.1, hx.up.2⟩
  have hpos : 2 ≤ k → 0 < j := fun h2 => by
    rcases Nat.eq_zero_or_pos j with e | e
    · subst e
      obtain ⟨r0, e0, k0⟩ := h.first
      rw [e0] at hj; injection hj with hj; subst hj
      omega
    · exact e
  have hIn : 2 ≤ k → ∀ x, InD (d.take j) x → 0 ≤ x ∧ x < j := fun h2 x hx => by
    have := hx.2 (by rw [hl]; exact hpos h2)
    rw [hl] at this; exact this
  intro z hz
  obtain ⟨g4, g5, g6, g7, g8, g1⟩ := hr.hkids
  have hc : k = 1 ∨ k = 2 ∨ k = 3 ∨ k = 4 ∨ k = 5 ∨ k = 6 ∨ k = 7 ∨ k = 8 ∨ k = 9 ∨ k = 10 := by omega
  rcases hc with e | e | e | e | e | e | e | e | e | e
  · rw [g1 (.inl e)] at hz; simp at hz
  · rw [g1 (.inr (.inl e))] at hz; simp at hz
  · rw [g1 (.inr (.inr (.inl e)))] at hz; simp at hz
  · obtain ⟨x, h1, e1⟩ := g4 e
    rw [e1] at hz; simp at hz; subst hz; exact hInt _ h1
  · obtain ⟨x, y, h1, h2, e1⟩ := g5 e
    rw [e1] at hz; simp at hz
    rcases hz with rfl | rfl
    · exact hInt _ h1
    · exact hIn (by omega) _ h2
  · exact hIn (by omega) _ ((g6 e).2 z hz)
  · obtain ⟨x, l, h1, _, h2, e1⟩ := g7 e
    rw [e1] at hz
    rcases List.mem_cons.1 hz with rfl | hz
    · exact hInt _ h1
    · exact hIn (by omega) _ (h2 z hz)
  · obtain ⟨y, h2, e1⟩ := g8 (.inl e)
    rw [e1] at hz; simp at hz; subst hz; exact hIn (by omega) _ h2
  · obtain ⟨y, h2, e1⟩ := g8 (.inr e)
    rw [e1] at hz; simp at hz; subst hz; exact hIn (by omega) _ h2
  · rw [g1 (.inr (.inr (.inr e)))] at hz; simp at hz
theorem DrawD.name : ∃ a, Low a ∧ r.name = a ++ itoaS (j : Int) := by
  obtain ⟨k, k1, k2, hr, hk, hl, hjl⟩ := h.kinds hj
  obtain ⟨a, ha, e⟩ := hr.hname
  rw [hl] at e
  exact ⟨a, baseA_low a ha, e⟩
theorem DrawD.kindOk : KindOk d r := by
  obtain ⟨k, k1, k2, hr, hk, hl, hjl⟩ := h.kinds hj
  have hlit : r.little = false ∨ r.kind = 1 := by
    cases e : r.little
    · exact .inl rfl
    · exact .inr (hk.trans (hr.hlittle e).1)
  have hbytes : k ≠ 2 → k ≠ 10 → r.bytes.length = 0 := fun a b => by rw [hr.hbytes.2.2 a b]; rfl
  have hnames : k ≠ 6 → r.names.length = 0 := fun a => by rw [hr.hnames.2 a]; rfl
  have htags : k ≠ 7 → r.tags.length = 0 := fun a => by rw [hr.htags.2 a]; rfl
  have hsize : k ≠ 1 → k ≠ 3 → r.size = 0 := hr.hsize.2.2
  obtain ⟨g4, g5, g6, g7, g8, g1⟩ := hr.hkids
  have hc : k = 1 ∨ k = 2 ∨ k = 3 ∨ k = 4 ∨ k = 5 ∨ k = 6 ∨ k = 7 ∨ k = 8 ∨ k = 9 ∨ k = 10 := by omega
  rcases hc with e | e | e | e | e | e | e | e | e | e
  · refine .inl ⟨by omega, ⟨⟨.inl rfl, .inr (hbytes (by omega) (by omega)), .inr (hnames (by omega)), .inr (htags (by omega)), .inr ?_⟩, hlit⟩, ?_, ?_⟩
    · rw [g1 (.inl e)]; rfl
    · have := hr.hsize.1 e; unfold InR; omega
    · cases e' : r.little
      · exact .inl rfl
      · exact .inr (hr.hlittle e').2
  · refine .inr (.inl ⟨by omega, ⟨⟨.inr (hsize (by omega) (by omega)), .inl rfl, .inr (hnames (by omega)), .inr (htags (by omega)), .inr ?_⟩, hlit⟩, ?_⟩)
    · rw [g1 (.inr (.inl e))]; rfl
    · have := hr.hbytes.1 e; unfold InR; omega
  · refine .inr (.inr (.inl ⟨by omega, ⟨⟨.inl rfl, .inr (hbytes (by omega) (by omega)), .inr (hnames (by omega)), .inr (htags (by omega)), .inr ?_⟩, hlit⟩, ?_⟩))
    · rw [g1 (.inr (.inr (.inl e)))]; rfl
    · have := hr.hsize.2.1 e; unfold InR; omega
  · obtain ⟨x, h1, e1⟩ := g4 e
    have := h.int h1.up.1
    refine .inr (.inr (.inr (.inl ⟨by omega, ⟨⟨.inr (hsize (by omega) (by omega)), .inr (hbytes (by omega) (by omega)), .inr (hnames (by omega)), .inr (htags (by omega)), .inr ?_⟩, hlit⟩, ?_⟩)))
    · rw [e1]; rfl
    · rw [e1]; show 0 < lim d x; omega
  · obtain ⟨x, y, h1, h2, e1⟩ := g5 e
    have := h.int h1.up.1
    refine .inr (.inr (.inr (.inr (.inl ⟨by omega, ⟨⟨.inr (hsize (by omega) (by omega)), .inr (hbytes (by omega) (by omega)), .inr (hnames (by omega)), .inr (htags (by omega)), .inr ?_⟩, hlit⟩, ?_⟩))))
    · rw [e1]; rfl
    · rw [e1]; show 0 < lim d x; omega
  · obtain ⟨n1, n2, n3⟩ := hr.hnames.1 e
    refine .inr (.inr (.inr (.inr (.inr (.inl ⟨by omega, ⟨⟨.inr (hsize (by omega) (by omega)), .inr (hbytes (by omega) (by omega)), .inl rfl, .inr (htags (by omega)), .inr ?_⟩, hlit⟩, n1, by omega, fun i x hx => ?_⟩)))))
    · rw [(g6 e).1]
    · have hil := (List.getElem?_eq_some_iff.1 hx).1
      obtain ⟨a, ha, rfl⟩ := n3 i x hx
      have e1 : ((r.names.length : Int) - i) = ((r.names.length - i : Nat) : Int) := by omega
      rw [e1]
      refine ⟨nm_cat (baseP_low a ha) (by omega), fun hm => ?_⟩
      obtain ⟨m, hm', hm⟩ := List.mem_take_iff_getElem.1 hm
      obtain ⟨a', ha', e2⟩ := n3 m _ (List.getElem?_eq_getElem (by omega))
      rw [hm, show ((r.names.length : Int) - m) = ((r.names.length - m : Nat) : Int) by omega] at e2
      have := cat_inj (by omega) (by omega) e2
      omega
  · obtain ⟨t1, t2, t3⟩ := hr.htags.1 e
    obtain ⟨x, l, h1, h2, h3, e1⟩ := g7 e
    have hlim := h.int h1.up.1
    refine .inr (.inr (.inr (.inr (.inr (.inr (.inl ⟨by omega, ⟨⟨.inr (hsize (by omega) (by omega)), .inr (hbytes (by omega) (by omega)), .inr (hnames (by omega)), .inl rfl, .inl (by decide)⟩, hlit⟩, ?_, t1, by omega, fun i z hz => ?_⟩))))))
    · rw [e1, List.length_cons, h2]
    · have hil := (List.getElem?_eq_some_iff.1 hz).1
      have := t3 i z hz
      refine ⟨by omega, ?_, fun y hi hy => ?_⟩
      · rw [e1]; show z ≤ lim d x; omega
      · have := t3 (i - 1) y hy
        omega
  · obtain ⟨y, h2, e1⟩ := g8 (.inl e)
    refine .inr (.inr (.inr (.inr (.inr (.inr (.inr (.inl ⟨.inl (by omega), ⟨⟨.inr (hsize (by omega) (by omega)), .inr (hbytes (by omega) (by omega)), .inr (hnames (by omega)), .inr (htags (by omega)), .inr ?_⟩, hlit⟩⟩)))))))
    rw [e1]; rfl
  · obtain ⟨y, h2, e1⟩ := g8 (.inr e)
    refine .inr (.inr (.inr (.inr (.inr (.inr (.inr (.inl ⟨.inr (by omega), ⟨⟨.inr (hsize (by omega) (by omega)), .inr (hbytes (by omega) (by omega)), .inr (hnames (by omega)), .inr (htags (by omega)), .inr ?_⟩, hlit⟩⟩)))))))
    rw [e1]; rfl
  · obtain ⟨x, hx, eb⟩ := hr.hbytes.2.1 e
    refine .inr (.inr (.inr (.inr (.inr (.inr (.inr (.inr ⟨by omega, ⟨⟨.inr (hsize (by omega) (by omega)), .inl rfl, .inr (hnames (by omega)), .inr (htags (by omega)), .inr ?_⟩, hlit⟩, ?_, ?_⟩)))))))
    · rw [g1 (.inr (.inr (.inr e)))]; rfl
    · rw [eb]; rfl
    · rw [eb]
      simp only [List.mem_cons, List.not_mem_nil, or_false] at hx
      rcases hx with rfl | rfl | rfl | rfl <;> decide
end
theorem DrawD.good {d : Des} (h : DrawD d) : Good' d := by
  refine ⟨h.pos, by have := h.most; omega, fun j hj => ?_⟩
  obtain ⟨r, hr⟩ : ∃ r, d[j]? = some r := ⟨_, List.getElem?_eq_getElem hj⟩
  have hm := h.most
  refine (ruleAt_iff (by omega) (by simpa using hr)).2 ?_
  rw [Int.toNat_natCast]
  obtain ⟨a, ha, en⟩ := h.name hr
  refine ⟨fun k x hk hx e => ?_, fun k z hz => h.kid hr z (List.mem_of_getElem? hz), by rw [en]; exact nm_cat ha (by omega), h.kindOk hr⟩
  obtain ⟨a', ha', en'⟩ := h.name hx
  rw [en, en'] at e
  have := cat_inj (by omega) (by omega) e
  omega
theorem sum_le_mul {α : Type} (f : α → Nat) (c : Nat) : ∀ l : List α, (∀ x ∈ l, f x ≤ c) → (l.map f).sum ≤ l.length * c
  | [], _ => by simp
  | x :: l, h => by
    have h1 := h x (by simp)
    have h2 := sum_le_mul f c l fun y hy => h y (by simp [hy])
    rw [List.map_cons, List.sum_cons, List.length_cons, Nat.succ_mul]; omega
section
variable {d : Des} (h : DrawD d) {j : Nat} {r : Rul} (hj : d[j]? = some r)
include h hj
theorem DrawD.lens : r.name.size ≤ 5 ∧ r.bytes.length ≤ 3 ∧ r.names.length ≤ 3 ∧ (∀ s ∈ r.names, s.size ≤ 5) ∧ r.tags.length ≤ 3 ∧ r.kids.length ≤ 4 ∧ (∀ z ∈ r.tags, 0 ≤ z ∧ z ≤ 12) ∧ 0 ≤ r.size ∧ r.size ≤ 4 := by
  obtain ⟨k, k1, k2, hr, hk, hl, hjl⟩ := h.kinds hj
  have hm := h.most
  obtain ⟨a, ha, en⟩ := h.name hj
  have hnm : r.names.length ≤ 3 ∧ ∀ s ∈ r.names, s.size ≤ 5 := by
    by_cases e : k = 6
    · obtain ⟨n1, n2, n3⟩ := hr.hnames.1 e
      refine ⟨n2, fun s hs => ?_⟩
      obtain ⟨i, hi⟩ := List.mem_iff_getElem?.1 hs
      have hil := (List.getElem?_eq_some_iff.1 hi).1
      obtain ⟨b, hb, rfl⟩ := n3 i s hi
      rw [show ((r.names.length : Int) - i) = ((r.names.length - i : Nat) : Int) by omega]
      exact ncat_le (baseP_low b hb) (by omega)
    · rw [hr.hnames.2 e]; simp
  have htg : r.tags.length ≤ 3 ∧ ∀ z ∈ r.tags, 0 ≤ z ∧ z ≤ 12 := by
    by_cases e : k = 7
    · obtain ⟨n1, n2, n3⟩ := hr.htags.1 e
      refine ⟨n2, fun s hs => ?_⟩
      obtain ⟨i, hi⟩ := List.mem_iff_getElem?.1 hs
      have hil := (List.getElem?_eq_some_iff.1 hi).1
      have := n3 i s hi
      omega
    · rw [hr.htags.2 e]; simp
  have hbs : r.bytes.length ≤ 3 := by
    by_cases e : k = 2
    · exact (hr.hbytes.1 e).2
    · by_cases e' : k = 10
      · obtain ⟨x, _, eb⟩ := hr.hbytes.2.1 e'
        rw [eb]; simp
      · rw [hr.hbytes.2.2 e e']; simp
  have hkd : r.kids.length ≤ 4 := by
    obtain ⟨g4, g5, g6, g7, g8, g1⟩ := hr.hkids
    have hc : k = 1 ∨ k = 2 ∨ k = 3 ∨ k = 4 ∨ k = 5 ∨ k = 6 ∨ k = 7 ∨ k = 8 ∨ k = 9 ∨ k = 10 := by omega
    rcases hc with e | e | e | e | e | e | e | e | e | e
    · rw [g1 (.inl e)]; simp
    · rw [g1 (.inr (.inl e))]; simp
    · rw [g1 (.inr (.inr (.inl e)))]; simp
    · obtain ⟨x, _, e1⟩ := g4 e; rw [e1]; simp
    · obtain ⟨x, y, _, _, e1⟩ := g5 e; rw [e1]; simp
    · rw [(g6 e).1]; omega
    · obtain ⟨x, l, _, h2, _, e1⟩ := g7 e; rw [e1, List.length_cons, h2]; omega
    · obtain ⟨y, _, e1⟩ := g8 (.inl e); rw [e1]; simp
    · obtain ⟨y, _, e1⟩ := g8 (.inr e); rw [e1]; simp
    · rw [g1 (.inr (.inr (.inr e)))]; simp
  have hsz : 0 ≤ r.size ∧ r.size ≤ 4 := by
    by_cases e : k = 1
    · have := hr.hsize.1 e; omega
    · by_cases e' : k = 3
      · have := hr.hsize.2.1 e'; omega
      · have := hr.hsize.2.2 e e'; omega
  exact ⟨by rw [en]; exact ncat_le ha (by omega), hbs, hnm.1, hnm.2, htg.1, hkd, htg.2, hsz.1, hsz.2⟩
theorem DrawD.ruleOk : r.Ok := by
  obtain ⟨l1, l2, l3, l4, l5, l6, l7, l8, l9⟩ := h.lens hj
  obtain ⟨k, k1, k2, hr, hk, hl, hjl⟩ := h.kinds hj
  have hm := h.most
  have hkd := h.kid hj
  have mx : maxLen = 4611686018427387904 ∨ 10 ≤ maxLen := .inr (by decide)
  refine ⟨by unfold I64; omega, by unfold I64; omega, fun z hz => by have := l7 z hz; unfold I64; omega, fun z hz => by have := hkd z hz; unfold I64; omega, ?_⟩
  have hx : 10 ≤ maxLen := by decide
  exact ⟨by omega, by omega, by omega, fun s hs => by have := l4 s hs; omega, by omega, by omega, trivial⟩
theorem DrawD.ruleTotal : r.total ≤ 40 := by
  obtain ⟨l1, l2, l3, l4, l5, l6, l7, l8, l9⟩ := h.lens hj
  have := sum_le_mul ByteArray.size 5 r.names l4
  unfold Rul.total
  omega
end
theorem DrawD.desOk {d : Des} (h : DrawD d) : DesOk d :=
  ⟨fun r hr => by
    obtain ⟨j, hj⟩ := List.mem_iff_getElem?.1 hr
    exact h.ruleOk hj, by have := h.most; have hx : 10 ≤ maxLen := by decide
                          omega⟩
theorem DrawD.total {d : Des} (h : DrawD d) : dtotal d ≤ 1000 := by
  have := sum_le_mul Rul.total 40 d fun r hr => by
    obtain ⟨j, hj⟩ := List.mem_iff_getElem?.1 hr
    exact h.ruleTotal hj
  have := h.most
  unfold dtotal
  omega
end Go.Proofs.Ytnecoghfhcimeaa
/- Values of the format, which are trees, over values: the laws' helpers on them, opened arguments, counting, comparing. -/
namespace Go.Proofs.Ytnecoghfhcimeaa
set_option linter.unusedSimpArgs false
set_option linter.unusedVariables false
open Go.RowKit
inductive Tre where
  | mk (number : Int) (bytes : List UInt8) (items : List Tre)
namespace Tre
def number : Tre → Int | .mk n _ _ => n
def bytes : Tre → List UInt8 | .mk _ b _ => b
def items : Tre → List Tre | .mk _ _ l => l
mutual
def cells : Tre → List RV
  | .mk n b l => [.int n, bytesR b, .seq 3 (cellsL l)]
def cellsL : List Tre → List (List RV)
  | [] => []
  | v :: vs => cells v :: cellsL vs
def total : Tre → Nat
  | .mk _ b l => b.length + l.length + totalL l
def totalL : List Tre → Nat
  | [] => 0
  | v :: vs => total v + totalL vs
def count : Tre → Nat
  | .mk _ _ l => 1 + countL l
def countL : List Tre → Nat
  | [] => 0
  | v :: vs => count v + countL vs
def weight : Tre → Nat
  | .mk _ b l => b.length + weightL l
def weightL : List Tre → Nat
  | [] => 0
  | v :: vs => weight v + weightL vs
def Ok : Tre → Prop
  | .mk n b l => I64 n ∧ b.length ≤ maxLen ∧ l.length ≤ maxLen ∧ OkL l
def OkL : List Tre → Prop
  | [] => True
  | v :: vs => Ok v ∧ OkL vs
end
theorem cellsL_eq : ∀ l, cellsL l = l.map cells
  | [] => rfl
  | v :: vs => by rw [cellsL, cellsL_eq vs]; rfl
theorem totalL_eq : ∀ l, totalL l = (l.map total).sum
  | [] => rfl
  | v :: vs => by rw [totalL, totalL_eq vs]; rfl
theorem countL_eq : ∀ l, countL l = (l.map count).sum
  | [] => rfl
  | v :: vs => by rw [countL, countL_eq vs]; rfl
theorem weightL_eq : ∀ l, weightL l = (l.map weight).sum
  | [] => rfl
  | v :: vs => by rw [weightL, weightL_eq vs]; rfl
theorem OkL_iff : ∀ {l}, OkL l ↔ ∀ x ∈ l, Ok x
  | [] => by simp [OkL]
  | v :: vs => by simp [OkL, OkL_iff (l := vs)]
theorem cells_eq (v : Tre) : v.cells = [.int v.number, bytesR v.bytes, .seq 3 (v.items.map cells)] := by
  cases v; rw [cells, cellsL_eq]; rfl
theorem total_eq (v : Tre) : v.total = v.bytes.length + v.items.length + (v.items.map total).sum := by
  cases v; rw [total, totalL_eq]; rfl
theorem count_eq (v : Tre) : v.count = 1 + (v.items.map count).sum := by
  cases v; rw [count, countL_eq]; rfl
theorem weight_eq (v : Tre) : v.weight = v.bytes.length + (v.items.map weight).sum := by
  cases v; rw [weight, weightL_eq]; rfl
theorem Ok.out {v : Tre} (h : v.Ok) : I64 v.number ∧ v.bytes.length ≤ maxLen ∧ v.items.length ≤ maxLen ∧ ∀ x ∈ v.items, x.Ok := by
  cases v; rw [Ok, OkL_iff] at h; exact h
theorem cells_len (v : Tre) : v.cells.length = 3 := by rw [cells_eq]; rfl
mutual
theorem ind {P : Tre → Prop} (h : ∀ v, (∀ x ∈ v.items, P x) → P v) : ∀ v, P v
  | .mk n b l => h _ (indL h l)
theorem indL {P : Tre → Prop} (h : ∀ v, (∀ x ∈ v.items, P x) → P v) : ∀ l : List Tre, ∀ x ∈ l, P x
  | [], x, hx => by cases hx
  | v :: vs, x, hx => by
    rcases List.mem_cons.1 hx with e | e
    · rw [e]; exact ind h v
    · exact indL h vs x e
end
mutual
theorem count_le : ∀ v : Tre, v.count ≤ 1 + v.total
  | .mk n b l => by have := countL_le l; simp only [count, total]; omega
theorem countL_le : ∀ l : List Tre, countL l ≤ l.length + totalL l
  | [] => by simp [countL]
  | v :: vs => by have := count_le v; have := countL_le vs; simp only [countL, totalL, List.length_cons]; omega
end
mutual
theorem weight_le : ∀ v : Tre, v.weight ≤ v.total
  | .mk n b l => by have := weightL_le l; simp only [weight, total]; omega
theorem weightL_le : ∀ l : List Tre, weightL l ≤ totalL l
  | [] => by simp [weightL]
  | v :: vs => by have := weight_le v; have := weightL_le vs; simp only [weightL, totalL]; omega
end
end Tre
def tresR (l : List Tre) : RV := .seq 3 (l.map Tre.cells)
def treR (v : Tre) : RV := .agg [.int v.number, bytesR v.bytes, tresR v.items]
theorem treC (v : Tre) : RV.agg v.cells = treR v := by rw [Tre.cells_eq]; rfl
noncomputable instance : DecidableEq Tre := fun a b => Classical.propDecidable _
theorem tre_eq (a b : Tre) : a = b ↔ a.number = b.number ∧ a.bytes = b.bytes ∧ a.items = b.items := by
  cases a; cases b; simp [Tre.number, Tre.bytes, Tre.items]
end Go.Proofs.Ytnecoghfhcimeaa
/- The rule of an item of a value: both sides. -/
namespace Go.Proofs.Ytnecoghfhcimeaa
set_option linter.unusedSimpArgs false
set_option linter.unusedVariables false
open Go.RowKit
def tagIx : List Int → Int → Nat
  | [], _ => 0
  | t :: ts, n => if t = n then 0 else tagIx ts n + 1
theorem tagIx_hit {n : Int} : ∀ {l : List Int} {j : Nat}, l[j]? = some n → (∀ (k : Nat) t, k < j → l[k]? = some t → t ≠ n) → tagIx l n = j
  | [], j, h, _ => by simp at h
  | t :: ts, 0, h, _ => by
    simp at h
    rw [tagIx, if_pos h]
  | t :: ts, j + 1, h, hn => by
    rw [tagIx, if_neg (hn 0 t (by omega) (by simp)), tagIx_hit (l := ts) (j := j) (by simpa using h) fun k u hk hu => hn (k + 1) u (by omega) (by simpa using hu)]
theorem tagIx_none {n : Int} : ∀ {l : List Int}, (∀ (k : Nat) t, l[k]? = some t → t ≠ n) → tagIx l n = l.length
  | [], _ => rfl
  | t :: ts, hn => by
    rw [tagIx, if_neg (hn 0 t (by simp)), tagIx_none (l := ts) fun k u hu => hn (k + 1) u (by simpa using hu)]
    rfl
theorem tagIx_at {n : Int} : ∀ {l : List Int}, tagIx l n < l.length → l[tagIx l n]? = some n
  | [], h => by simp [tagIx] at h
  | t :: ts, h => by
    rw [tagIx] at h ⊢
    by_cases e : t = n
    · rw [if_pos e, e]; simp
    · rw [if_neg e] at h ⊢
      rw [List.length_cons] at h
      simpa using tagIx_at (n := n) (l := ts) (by omega)
def itemR (r : Rul) (n i : Int) : Int :=
  if r.kind = 5 then (r.kids[1]?).getD (-1)
  else if r.kind = 6 then (r.kids[i.toNat]?).getD (-1)
  else if r.kind = 7 then (r.kids[tagIx r.tags n + 1]?).getD (-1)
  else if r.kind = 8 ∨ r.kind = 9 then (r.kids[0]?).getD (-1)
  else -1
theorem item_fields {d : Des} {x : Rul} (hk : KindOk d x) : (x.kind = 5 → x.kids.length = 2) ∧ (x.kind = 7 → TagsOk d x) ∧ (x.kind = 8 ∨ x.kind = 9 → x.kids.length = 1) ∧ (x.kind = 4 → x.kids.length = 1) := by
  unfold KindOk at hk
  refine ⟨fun e => ?_, fun e => ?_, fun e => ?_, fun e => ?_⟩
  · rcases hk with hk | hk | hk | hk | hk | hk | hk | hk | hk
    all_goals first | omega | (have := hk.2.1.kids (by omega); omega)
  · rcases hk with hk | hk | hk | hk | hk | hk | hk | hk | hk
    all_goals first | omega | exact hk.2.2
  · rcases hk with hk | hk | hk | hk | hk | hk | hk | hk | hk
    all_goals first | omega | (have := hk.2.kids (by omega); omega)
  · rcases hk with hk | hk | hk | hk | hk | hk | hk | hk | hk
    all_goals first | omega | (have := hk.2.1.kids (by omega); omega)
theorem kind_at {d : Des} (hG : Good' d) {r : Nat} {x : Rul} (h : d[r]? = some x) : KindOk d x := by
  have hi := (List.getElem?_eq_some_iff.1 h).1
  obtain ⟨_, x', h1, h2⟩ := hG.2.2 r hi
  rw [show ((r : Nat) : Int).toNat = r by rfl, h] at h1; injection h1 with h1; subst h1
  exact h2.2.2.2
theorem kids_at {d : Des} (hG : Good' d) {r : Nat} {x : Rul} (h : d[r]? = some x) {k : Nat} {z : Int} (hz : x.kids[k]? = some z) : 0 ≤ z ∧ z < r := by
  have hi := (List.getElem?_eq_some_iff.1 h).1
  obtain ⟨_, x', h1, h2⟩ := hG.2.2 r hi
  rw [show ((r : Nat) : Int).toNat = r by rfl, h] at h1; injection h1 with h1; subst h1
  simpa using h2.2.1 k z hz
theorem itemR_lt {d : Des} (hG : Good' d) {r : Nat} {x : Rul} (h : d[r]? = some x) (n i : Int) : itemR x n i = -1 ∨ (0 ≤ itemR x n i ∧ itemR x n i < r) := by
  have key : ∀ k : Nat, (x.kids[k]?).getD (-1) = -1 ∨ (0 ≤ (x.kids[k]?).getD (-1) ∧ (x.kids[k]?).getD (-1) < r) := fun k => by
    cases hz : x.kids[k]? with
    | none => exact .inl rfl
    | some z => exact .inr (kids_at hG h hz)
  unfold itemR
  split
  · exact key _
  split
  · exact key _
  split
  · exact key _
  split
  · exact key _
  · exact .inl rfl
theorem getD_some {l : List Int} {k : Nat} {c : Int} (h : l[k]? = some c) : (l[k]?).getD (-1) = c := by rw [h]; rfl
theorem getD_none {l : List Int} {k : Nat} (h : l.length ≤ k) : (l[k]?).getD (-1) = -1 := by rw [List.getElem?_eq_none h]; rfl
section
variable {P : Program} {C : Ctx} {env : Env} {σ : List Ob} {t : Nat} {ty : TypeId} {pos : String} {after : Array Edge} {gd : Option (Nat × Bool)}
theorem pu_nilCheck {x : Operand} {cs : List RV} (hx : ev env x = .ro (.rp cs)) : Pur P C ⟨some t, .nilCheck x, ty, pos, after, gd⟩ env σ (.ro (.rp cs)) :=
  Pur.of (fun a m hG hσ hH => by
    have h := hH x (by simp [Op.operands, Call.operands])
    rw [hx] at h
    have h' := h
    simp only [AV.rel, RV.rel] at h
    obtain ⟨b, o, e, hb, hok, hc⟩ := h
    exact ⟨a.eval x, by simp [execOp, e], h'⟩)
end
set_option maxHeartbeats 4000000 in
theorem childRule_ac {d : Des} (hl : d.length ≤ maxLen) {r : Nat} {x : Rul} (hx : d[(r : Int).toNat]? = some x) (hk : KindOk d x) (n : Int) (b t : RV) (i : Int) (h0 : 0 ≤ i) : ACv Try.prog 70 [desR d, .int (r : Int), .rp [.int n, b, t], .int i] (.int (itemR x n i)) := by
  obtain ⟨f5, f7, f8, _⟩ := item_fields hk
  have hlm : (d.map rulR).length = d.length := List.length_map ..
  have hlk : (x.kids.map fun z => [RV.int z]).length = x.kids.length := List.length_map ..
  have hlt' : (x.tags.map fun z => [RV.int z]).length = x.tags.length := List.length_map ..
  have hr : r < d.length := (List.getElem?_eq_some_iff.1 hx).1
  unfold maxLen at hl
  refine ac_enter Try.func70 rfl _ Try.ntmps70 (by simp) fun C hn hm => ?_
  by_cases k5 : x.kind = 5
  · have hc : x.kids[(1 : Int).toNat]? = some _ := List.getElem?_eq_getElem (by have := f5 k5; simp; omega)
    repeat' (first
 | refine RunsL.step tabOk hn rfl ?_
 | refine RunsL.nil ?_
 | refine Runs.toRegion 30 rfl ?_
 | (refine RunsL.pe hn rfl rfl rfl ?_; first
 | refine ⟨_, pu_nilCheck rfl, ?_⟩)
 | (refine Runs.ctls 30 rfl ?_; first | refine Runs.cond_t rfl ?_ | ((first | refine Runs.cond_yes rfl ?_ ?_ | refine Runs.cond_nno rfl ?_ ?_); · first | omega | rfl | assumption | (simp only [List.length_map]; omega)) | ((first | refine Runs.cond_no rfl ?_ ?_ | refine Runs.cond_nyes rfl ?_ ?_); · first | omega | rfl | assumption | (simp only [List.length_map]; omega)) | refine Runs.ret (ends_ro hm rfl rfl ?_) | exact Runs.ret (ends_cellR hm rfl rfl rfl (Nat.le_of_ble_eq_true rfl) rfl rfl))
 | refine op_box rfl (tl hn rfl) ?_
 | (refine RunsL.pe hn rfl rfl rfl ?_; first
 | refine ⟨_, pu_add rfl rfl (by omega), ?_⟩
 | refine ⟨_, pu_indexAddr_map rfl rfl (by omega) (by assumption), ?_⟩
        ))
    exact rr_int (by unfold itemR; rw [if_pos k5]; exact (getD_some hc).symm)
  by_cases k6 : x.kind = 6
  · by_cases hi : i < x.kids.length
    · have hc : x.kids[i.toNat]? = some _ := List.getElem?_eq_getElem (by omega)
      repeat' (first
 | refine RunsL.step tabOk hn rfl ?_
 | refine RunsL.nil ?_
 | refine Runs.toRegion 30 rfl ?_
 | (refine RunsL.pe hn rfl rfl rfl ?_; first
 | refine ⟨_, pu_nilCheck rfl, ?_⟩)
 | (refine Runs.ctls 30 rfl ?_; first | refine Runs.cond_t rfl ?_ | ((first | refine Runs.cond_yes rfl ?_ ?_ | refine Runs.cond_nno rfl ?_ ?_); · first | omega | rfl | assumption | (simp only [List.length_map]; omega)) | ((first | refine Runs.cond_no rfl ?_ ?_ | refine Runs.cond_nyes rfl ?_ ?_); · first | omega | rfl | assumption | (simp only [List.length_map]; omega)) | refine Runs.ret (ends_ro hm rfl rfl ?_) | exact Runs.ret (ends_cellR hm rfl rfl rfl (Nat.le_of_ble_eq_true rfl) rfl rfl))
 | refine op_box rfl (tl hn rfl) ?_
 | (refine RunsL.pe hn rfl rfl rfl ?_; first
 | refine ⟨_, pu_add rfl rfl (by omega), ?_⟩
 | refine ⟨_, pu_indexAddr_map rfl rfl (by omega) (by assumption), ?_⟩
          ))
      exact rr_int (by unfold itemR; rw [if_neg k5, if_pos k6]; exact (getD_some hc).symm)
    · repeat' (first
 | refine RunsL.step tabOk hn rfl ?_
 | refine RunsL.nil ?_
 | refine Runs.toRegion 30 rfl ?_
 | (refine RunsL.pe hn rfl rfl rfl ?_; first
 | refine ⟨_, pu_nilCheck rfl, ?_⟩)
 | (refine Runs.ctls 30 rfl ?_; first | refine Runs.cond_t rfl ?_ | ((first | refine Runs.cond_yes rfl ?_ ?_ | refine Runs.cond_nno rfl ?_ ?_); · first | omega | rfl | assumption | (simp only [List.length_map]; omega)) | ((first | refine Runs.cond_no rfl ?_ ?_ | refine Runs.cond_nyes rfl ?_ ?_); · first | omega | rfl | assumption | (simp only [List.length_map]; omega)) | refine Runs.ret (ends_ro hm rfl rfl ?_) | exact Runs.ret (ends_cellR hm rfl rfl rfl (Nat.le_of_ble_eq_true rfl) rfl rfl))
 | refine op_box rfl (tl hn rfl) ?_
 | (refine RunsL.pe hn rfl rfl rfl ?_; first
 | refine ⟨_, pu_add rfl rfl (by omega), ?_⟩
 | refine ⟨_, pu_indexAddr_map rfl rfl (by omega) (by assumption), ?_⟩
        ))
      exact rr_int (by unfold itemR; rw [if_neg k5, if_pos k6]; exact (getD_none (by omega)).symm)
  by_cases k7 : x.kind = 7
  · obtain ⟨hkl, ht1, ht8, _⟩ := f7 k7
    repeat' (first
 | refine RunsL.step tabOk hn rfl ?_
 | refine RunsL.nil ?_
 | refine Runs.toRegion 30 rfl ?_
 | (refine RunsL.pe hn rfl rfl rfl ?_; first
 | refine ⟨_, pu_nilCheck rfl, ?_⟩)
 | (refine Runs.ctls 30 rfl ?_; first | refine Runs.cond_t rfl ?_ | ((first | refine Runs.cond_yes rfl ?_ ?_ | refine Runs.cond_nno rfl ?_ ?_); · first | omega | rfl | assumption | (simp only [List.length_map]; omega)) | ((first | refine Runs.cond_no rfl ?_ ?_ | refine Runs.cond_nyes rfl ?_ ?_); · first | omega | rfl | assumption | (simp only [List.length_map]; omega)) | refine Runs.ret (ends_ro hm rfl rfl ?_) | exact Runs.ret (ends_cellR hm rfl rfl rfl (Nat.le_of_ble_eq_true rfl) rfl rfl))
 | refine op_box rfl (tl hn rfl) ?_
 | (refine RunsL.pe hn rfl rfl rfl ?_; first
 | refine ⟨_, pu_add rfl rfl (by omega), ?_⟩
 | refine ⟨_, pu_indexAddr_map rfl rfl (by omega) (by assumption), ?_⟩
        ))
    refine Runs.loopN 30 rfl (fun j => [(2, .ro (.rp [.int n, b, t])), (9, .ro (.rp (rulR x))), (49, .ro (intsR x.tags)), (50, .int (x.tags.length : Int)), (51, .int (j : Int))]) (fun _ => [⟨38, 0, [.ro (rulsR d)]⟩]) (fun j => ∀ (k : Nat) t, k < j → x.tags[k]? = some t → t ≠ n) x.tags.length 0 (Nat.zero_le _) (fun k t h => absurd h (by omega)) ⟨rfl, rfl, rfl, by simp [look], rfl, trivial⟩ rfl fun j hj hQ next => ?_
    by_cases hlt : j < x.tags.length
    · obtain ⟨t, ht⟩ : ∃ t, x.tags[(j : Int).toNat]? = some t := ⟨_, List.getElem?_eq_getElem hlt⟩
      have ht' : x.tags[j]? = some t := ht
      have hc : x.kids[((j : Int) + 1).toNat]? = some _ := List.getElem?_eq_getElem (by omega)
      by_cases he : t = n
      · subst he
        repeat' (first
 | refine RunsL.step tabOk hn rfl ?_
 | refine RunsL.nil ?_
 | refine Runs.toRegion 30 rfl ?_
 | (refine RunsL.pe hn rfl rfl rfl ?_; first
 | refine ⟨_, pu_nilCheck rfl, ?_⟩)
 | (refine Runs.ctls 30 rfl ?_; first | refine Runs.cond_t rfl ?_ | ((first | refine Runs.cond_yes rfl ?_ ?_ | refine Runs.cond_nno rfl ?_ ?_); · first | omega | rfl | assumption | (simp only [List.length_map]; omega)) | ((first | refine Runs.cond_no rfl ?_ ?_ | refine Runs.cond_nyes rfl ?_ ?_); · first | omega | rfl | assumption | (simp only [List.length_map]; omega)) | refine Runs.ret (ends_ro hm rfl rfl ?_) | exact Runs.ret (ends_cellR hm rfl rfl rfl (Nat.le_of_ble_eq_true rfl) rfl rfl))
 | refine op_box rfl (tl hn rfl) ?_
 | (refine RunsL.pe hn rfl rfl rfl ?_; first
 | refine ⟨_, pu_add rfl rfl (by omega), ?_⟩
 | refine ⟨_, pu_indexAddr_map rfl rfl (by omega) (by assumption), ?_⟩
            ))
        exact rr_int (by unfold itemR; rw [if_neg k5, if_neg k6, if_pos k7, tagIx_hit ht' hQ]; exact (getD_some hc).symm)
      · repeat' (first
 | refine RunsL.step tabOk hn rfl ?_
 | refine RunsL.nil ?_
 | refine Runs.toRegion 30 rfl ?_
 | (refine RunsL.pe hn rfl rfl rfl ?_; first
 | refine ⟨_, pu_nilCheck rfl, ?_⟩)
 | (refine Runs.ctls 30 rfl ?_; first | refine Runs.cond_t rfl ?_ | ((first | refine Runs.cond_yes rfl ?_ ?_ | refine Runs.cond_nno rfl ?_ ?_); · first | omega | rfl | assumption | (simp only [List.length_map]; omega)) | ((first | refine Runs.cond_no rfl ?_ ?_ | refine Runs.cond_nyes rfl ?_ ?_); · first | omega | rfl | assumption | (simp only [List.length_map]; omega)) | refine Runs.ret (ends_ro hm rfl rfl ?_) | exact Runs.ret (ends_cellR hm rfl rfl rfl (Nat.le_of_ble_eq_true rfl) rfl rfl))
 | refine op_box rfl (tl hn rfl) ?_
 | (refine RunsL.pe hn rfl rfl rfl ?_; first
 | refine ⟨_, pu_add rfl rfl (by omega), ?_⟩
 | refine ⟨_, pu_indexAddr_map rfl rfl (by omega) (by assumption), ?_⟩
          ))
        refine next _ _ ⟨rfl, rfl, rfl, rfl, rfl, trivial⟩ hlt (fun k t2 hk hk' => ?_) rfl
        by_cases e : k = j
        · subst e; rw [ht'] at hk'; injection hk' with hk'; rw [← hk']; exact he
        · exact hQ k t2 (by omega) hk'
    · repeat' (first
 | refine RunsL.step tabOk hn rfl ?_
 | refine RunsL.nil ?_
 | refine Runs.toRegion 30 rfl ?_
 | (refine RunsL.pe hn rfl rfl rfl ?_; first
 | refine ⟨_, pu_nilCheck rfl, ?_⟩)
 | (refine Runs.ctls 30 rfl ?_; first | refine Runs.cond_t rfl ?_ | ((first | refine Runs.cond_yes rfl ?_ ?_ | refine Runs.cond_nno rfl ?_ ?_); · first | omega | rfl | assumption | (simp only [List.length_map]; omega)) | ((first | refine Runs.cond_no rfl ?_ ?_ | refine Runs.cond_nyes rfl ?_ ?_); · first | omega | rfl | assumption | (simp only [List.length_map]; omega)) | refine Runs.ret (ends_ro hm rfl rfl ?_) | exact Runs.ret (ends_cellR hm rfl rfl rfl (Nat.le_of_ble_eq_true rfl) rfl rfl))
 | refine op_box rfl (tl hn rfl) ?_
 | (refine RunsL.pe hn rfl rfl rfl ?_; first
 | refine ⟨_, pu_add rfl rfl (by omega), ?_⟩
 | refine ⟨_, pu_indexAddr_map rfl rfl (by omega) (by assumption), ?_⟩
        ))
      exact rr_int (by unfold itemR; rw [if_neg k5, if_neg k6, if_pos k7, tagIx_none fun k t h => hQ k t (by have := (List.getElem?_eq_some_iff.1 h).1; omega) h]; exact (getD_none (by omega)).symm)
  by_cases k8 : x.kind = 8 ∨ x.kind = 9
  · have hc : x.kids[(0 : Int).toNat]? = some _ := List.getElem?_eq_getElem (by have := f8 k8; simp; omega)
    rcases k8 with k8 | k8
    all_goals
      repeat' (first
 | refine RunsL.step tabOk hn rfl ?_
 | refine RunsL.nil ?_
 | refine Runs.toRegion 30 rfl ?_
 | (refine RunsL.pe hn rfl rfl rfl ?_; first
 | refine ⟨_, pu_nilCheck rfl, ?_⟩)
 | (refine Runs.ctls 30 rfl ?_; first | refine Runs.cond_t rfl ?_ | ((first | refine Runs.cond_yes rfl ?_ ?_ | refine Runs.cond_nno rfl ?_ ?_); · first | omega | rfl | assumption | (simp only [List.length_map]; omega)) | ((first | refine Runs.cond_no rfl ?_ ?_ | refine Runs.cond_nyes rfl ?_ ?_); · first | omega | rfl | assumption | (simp only [List.length_map]; omega)) | refine Runs.ret (ends_ro hm rfl rfl ?_) | exact Runs.ret (ends_cellR hm rfl rfl rfl (Nat.le_of_ble_eq_true rfl) rfl rfl))
 | refine op_box rfl (tl hn rfl) ?_
 | (refine RunsL.pe hn rfl rfl rfl ?_; first
 | refine ⟨_, pu_add rfl rfl (by omega), ?_⟩
 | refine ⟨_, pu_indexAddr_map rfl rfl (by omega) (by assumption), ?_⟩
          ))
      exact rr_int (by unfold itemR; rw [if_neg k5, if_neg k6, if_neg k7, if_pos (by omega)]; exact (getD_some hc).symm)
  · repeat' (first
 | refine RunsL.step tabOk hn rfl ?_
 | refine RunsL.nil ?_
 | refine Runs.toRegion 30 rfl ?_
 | (refine RunsL.pe hn rfl rfl rfl ?_; first
 | refine ⟨_, pu_nilCheck rfl, ?_⟩)
 | (refine Runs.ctls 30 rfl ?_; first | refine Runs.cond_t rfl ?_ | ((first | refine Runs.cond_yes rfl ?_ ?_ | refine Runs.cond_nno rfl ?_ ?_); · first | omega | rfl | assumption | (simp only [List.length_map]; omega)) | ((first | refine Runs.cond_no rfl ?_ ?_ | refine Runs.cond_nyes rfl ?_ ?_); · first | omega | rfl | assumption | (simp only [List.length_map]; omega)) | refine Runs.ret (ends_ro hm rfl rfl ?_) | exact Runs.ret (ends_cellR hm rfl rfl rfl (Nat.le_of_ble_eq_true rfl) rfl rfl))
 | refine op_box rfl (tl hn rfl) ?_
 | (refine RunsL.pe hn rfl rfl rfl ?_; first
 | refine ⟨_, pu_add rfl rfl (by omega), ?_⟩
 | refine ⟨_, pu_indexAddr_map rfl rfl (by omega) (by assumption), ?_⟩
      ))
    exact rr_int (by unfold itemR; rw [if_neg k5, if_neg k6, if_neg k7, if_neg k8])
noncomputable def itemF (d : Des) (r : Int) (v : Tre) (i : Int) : Int := open Classical in if Kn d r ∧ 0 ≤ i ∧ i < v.items.length then (match d[r.toNat]? with | some x => itemR x v.number i | none => -1) else -1
theorem itemF_yes {d : Des} {r : Int} {v : Tre} {i : Int} {x : Rul} (h : Kn d r ∧ 0 ≤ i ∧ i < v.items.length) (hx : d[r.toNat]? = some x) : itemF d r v i = itemR x v.number i := by unfold itemF; rw [if_pos h, hx]
theorem itemF_no {d : Des} {r : Int} {v : Tre} {i : Int} (h : ¬ (Kn d r ∧ 0 ≤ i ∧ i < v.items.length)) : itemF d r v i = -1 := by unfold itemF; rw [if_neg h]
theorem kn_nat {d : Des} {r : Int} (h : Kn d r) : ∃ (n : Nat) (x : Rul), r = n ∧ n < d.length ∧ d[n]? = some x := by
  obtain ⟨_, h2⟩ := h
  unfold HasR at h2
  exact ⟨r.toNat, _, by omega, by omega, List.getElem?_eq_getElem (by omega)⟩
end Go.Proofs.Ytnecoghfhcimeaa
/- The verifier of one instruction. -/
namespace Go.Proofs.Ytnecoghfhcimeaa
set_option linter.unusedSimpArgs false
set_option linter.unusedVariables false
open Go.RowKit
end Go.Proofs.Ytnecoghfhcimeaa
/- The verifier of programs: places, loops, marks: both sides. -/
namespace Go.Proofs.Ytnecoghfhcimeaa
set_option linter.unusedSimpArgs false
set_option linter.unusedVariables false
open Go.RowKit
open AV (Mem Keeps)
def ACA (P : Program) (f : FuncId) (args : List AV) (R : RR → Prop) : Prop :=
  ∀ (w : World) (ok : Nat → Prop) (us : Array Value), (∀ b, w.heap.size ≤ b → ok b) → AV.rels ⟨w, fun _ => none, [], ok⟩ args us.toList →
    Calls P f us w fun e w' => ∃ u rr bs, e = .returned u ∧ R rr ∧ RR.rel w' (fun b => ok b ∧ b ∉ bs) rr u bs ∧ bs.Nodup ∧ (∀ b ∈ bs, w.heap.size ≤ b ∧ b < w'.heap.size) ∧ Below w.heap.size w w'
def startEnvQ : Nat → List AV → Env
  | _, [] => []
  | t, r :: rs => (t, r) :: startEnvQ (t + 1) rs
theorem startQ_look : ∀ (rs : List AV) (t k : Nat), look (startEnvQ t rs) k = if t ≤ k then (match rs[k - t]? with | some r => r | none => .junk) else .junk
  | [], t, k => by simp [startEnvQ, look]
  | r :: rs, t, k => by
    rw [startEnvQ, look_put, startQ_look rs (t + 1) k]
    by_cases h : t = k
    · subst h; simp
    · rw [if_neg h]
      by_cases h2 : t + 1 ≤ k
      · have e : k - t = (k - (t + 1)) + 1 := by omega
        rw [if_pos h2, if_pos (by omega : t ≤ k), e, List.getElem?_cons_succ]
      · rw [if_neg h2]
        split
        · omega
        · rfl
theorem aca_enter {P : Program} {f : FuncId} {fn : Func} {c : Code} {args : List AV} {R : RR → Prop} (hf : P.funcs[f]? = some fn) (hb : fn.body = some c) (n : Nat) (hn : fn.ntmps = n) (hl : args.length ≤ n)
    (h : ∀ C : Ctx, C.n = n → (∀ b, ¬ C.mu b) → Runs P C [.code c] (Ends P C fn R) ⟨startEnvQ 0 args, []⟩) : ACA P f args R := by
  intro w ok us h0 hu
  have hlen := AV.rels_len args _ hu
  refine calls_of_fin hf hb ?_
  have hs : Sim ⟨w, ok, fun _ => False, n⟩ ⟨startEnvQ 0 args, []⟩ { tmps := us ++ Array.replicate (fn.ntmps - us.size) undef, defers := [] } w := by
    refine ⟨rfl, by simp at hlen ⊢; omega, fun _ => none, ⟨rfl, fun i j g hi => by simp at hi, fun i o hi => by simp at hi, fun i g hi => by simp at hi, ⟨rfl, rfl, rfl, Nat.le_refl _, fun _ _ _ => rfl, h0⟩⟩, fun t => ?_⟩
    rw [startQ_look]
    simp only [Nat.zero_le, if_true, Nat.sub_zero]
    cases hr : args[t]? with
    | none => simp [AV.rel]
    | some r =>
      obtain ⟨u, e1, e2⟩ := AV.rels_at args _ hu t r hr
      have ht : t < us.size := by have := (List.getElem?_eq_some_iff.1 e1).1; simpa using this
      have : (us ++ Array.replicate (fn.ntmps - us.size) undef).getD t undef = u := by
        rw [Array.getD_eq_getD_getElem?, Array.getElem?_append_left ht]
        have : us[t]? = some u := by simpa using e1
        simp [this]
      simp only
      rw [this]
      exact e2
  have hr := (h ⟨w, ok, fun _ => False, n⟩ rfl (fun _ h => h)).run _ w hs
  intro b cs
  obtain ⟨a', w', todo, ⟨hd, v, hv, rr, bs, h1, h2, h3, h4, h5⟩, hst⟩ := hr b cs
  exact ⟨a', w', todo, ⟨hd, v, hv, v, rr, bs, rfl, h1, h2, h3, h4, h5⟩, hst⟩
def LendsA (C : Ctx) (σ : List Ob) (v v' : AV) : Prop := ∀ (m : Mem) (u : Value) (ok' : Nat → Prop), Good C m → m.σ = σ → (∀ b, m.ok b → ok' b) → (∀ (i g : Nat), i < σ.length → m.φ i = some g → ok' g) → AV.rel m v u → AV.rel ⟨m.w, fun _ => none, [], ok'⟩ v' u
inductive LendsAL (C : Ctx) (σ : List Ob) : List AV → List AV → Prop
  | nil : LendsAL C σ [] []
  | cons {v v' : AV} {vs vs' : List AV} : LendsA C σ v v' → LendsAL C σ vs vs' → LendsAL C σ (v :: vs) (v' :: vs')
section
variable {P : Program} {C : Ctx} {σ : List Ob}
theorem LendsA.of {v : AV} {r : RV} (h : Lends C σ v r) : LendsA C σ v (.ro r) := fun m u ok' hG hσ k1 k2 hu => by
  simp only [AV.rel]
  exact RV.rel_mono ⟨Nat.le_refl _, fun b _ hb => ⟨⟨hb, fun i hi => by simp at hi⟩, rfl⟩⟩ r u (h m u ok' hG hσ k1 k2 hu)
theorem LendsAL.rels {m : Mem} {ok' : Nat → Prop} (hG : Good C m) (hσ : m.σ = σ) (k1 : ∀ b, m.ok b → ok' b) (k2 : ∀ (i g : Nat), i < σ.length → m.φ i = some g → ok' g) {vs rs : List AV} (h : LendsAL C σ vs rs) : ∀ us, AV.rels m vs us → AV.rels ⟨m.w, fun _ => none, [], ok'⟩ rs us := by
  induction h with
  | nil => intro us hu; simpa [AV.rels] using hu
  | cons h1 _ ih =>
    intro us hu
    simp only [AV.rels] at hu ⊢
    obtain ⟨u, us', rfl, k3, k4⟩ := hu
    exact ⟨u, us', rfl, h1 m u ok' hG hσ k1 k2 k3, ih us' k4⟩
theorem LendsA.fn {f : Fn} {a b a' b' : List AV} (ha : LendsAL C σ a a') (hb : LendsAL C σ b b') : LendsA C σ (.fn f a b) (.fn f a' b') := fun m u ok' hG hσ k1 k2 hu => by
  simp only [AV.rel] at hu ⊢
  obtain ⟨us, vs, e, h1, h2⟩ := hu
  exact ⟨us, vs, e, ha.rels hG hσ k1 k2 _ h1, hb.rels hG hσ k1 k2 _ h2⟩
variable {env : Env} {t : Nat} {ty : TypeId} {pos : String} {after : Array Edge} {gd : Option (Nat × Bool)}
theorem pu_callA {f : FuncId} {fn : Func} {xs : Array Operand} {ats : Array TypeId} {args : List AV} {v : Value} [hfn : FN P f fn] (hf : ACA P f args fun rr => rr = .ro (.c v)) (ha : LendsAL C σ (xs.toList.map (ev env)) args) :
    Pur P C ⟨some t, .call { callee := .value (.func f), args := xs, argTypes := ats }, ty, pos, after, gd⟩ env σ (.ro (.c v)) := by
  refine ⟨fun a m hG hσ hH K Q hK => ?_⟩
  have hr := LendsAL.rels (ok' := fun _ => True) hG hσ (fun _ _ => trivial) (fun _ _ _ _ => trivial) ha _ (rels_eval (a := a) (m := m) xs.toList fun x hx => hH x (by simp [Op.operands, Call.operands]; exact .inr (by simpa using hx)))
  unfold Oper.wp
  rw [execOp_call_go, run_call hfn]
  simp only [Oper.upon]
  refine (hf m.w (fun _ => True) _ (fun _ _ => trivial) (by simpa using hr)).mono ?_
  rintro e w' ⟨u, rr, bs, rfl, rfl, h1, _, _, h4⟩
  simp only [RR.rel, RV.rel] at h1
  refine hK u w' h4 ?_
  simp only [AV.rel, RV.rel]
  exact h1.1
end
def opA (p : Prg) (i : Int) : Int := if 0 ≤ i then (match p.code[i.toNat]? with | some x => x.op | none => 0) else 0
def aA (p : Prg) (i : Int) : Int := if 0 ≤ i then (match p.code[i.toNat]? with | some x => x.a | none => 0) else 0
def LoopAt (p : Prg) (k : Int) : Prop := opA p k = 7 ∧ opA p (k - 1) = 6 ∧ opA p (k + 1) = 9 ∧ opA p (k + 2) = 8 ∧ aA p (k + 2) = k ∧ aA p k = k + 3
def MarkAt (p : Prg) (k : Int) : Prop := opA p k = 14 ∧ opA p (k + 1) = 9 ∧ opA p (k + 2) = 15
noncomputable instance (p : Prg) (k : Int) : Decidable (LoopAt p k) := Classical.propDecidable _
noncomputable instance (p : Prg) (k : Int) : Decidable (MarkAt p k) := Classical.propDecidable _
end Go.Proofs.Ytnecoghfhcimeaa
/- The lesser of two: both sides. -/
namespace Go.Proofs.Ytnecoghfhcimeaa
set_option linter.unusedSimpArgs false
set_option linter.unusedVariables false
open Go.RowKit
def mn (a b : Int) : Int := if b < a then b else a
theorem spec_Min (a b : Int) : ACv Try.prog 118 [.int a, .int b] (.int (mn a b)) := by
  unfold mn
  refine ac_enter Try.func118 rfl _ Try.ntmps118 (by simp) fun C hn hm => ?_
  by_cases h : b < a
  · rw [if_pos h]
    repeat' (first
 | refine RunsL.step tabOk hn rfl ?_
 | refine RunsL.nil ?_
 | refine Runs.toRegion 30 rfl ?_
 | (refine Runs.ctls 30 rfl ?_; first | ((first | refine Runs.cond_yes rfl ?_ ?_ | refine Runs.cond_nno rfl ?_ ?_); · first | omega | rfl | assumption | (simp only [List.length_map]; omega)) | ((first | refine Runs.cond_no rfl ?_ ?_ | refine Runs.cond_nyes rfl ?_ ?_); · first | omega | rfl | assumption | (simp only [List.length_map]; omega)) | refine Runs.ret (ends_ro hm rfl rfl ?_) | exact Runs.ret (ends_cellR hm rfl rfl rfl (Nat.le_of_ble_eq_true rfl) rfl rfl))
      )
    exact rr_int rfl
  · rw [if_neg h]
    repeat' (first
 | refine RunsL.step tabOk hn rfl ?_
 | refine RunsL.nil ?_
 | refine Runs.toRegion 30 rfl ?_
 | (refine Runs.ctls 30 rfl ?_; first | ((first | refine Runs.cond_yes rfl ?_ ?_ | refine Runs.cond_nno rfl ?_ ?_); · first | omega | rfl | assumption | (simp only [List.length_map]; omega)) | ((first | refine Runs.cond_no rfl ?_ ?_ | refine Runs.cond_nyes rfl ?_ ?_); · first | omega | rfl | assumption | (simp only [List.length_map]; omega)) | refine Runs.ret (ends_ro hm rfl rfl ?_) | exact Runs.ret (ends_cellR hm rfl rfl rfl (Nat.le_of_ble_eq_true rfl) rfl rfl))
      )
    exact rr_int rfl
theorem min1_ac (a b : Int) : ACv Try.prog 179 [.int a, .int b] (.bool (decide (a < b))) := by
  refine ac_enter Try.func179 rfl _ Try.ntmps179 (by simp) fun C hn hm => ?_
  repeat' (first
 | refine RunsL.step tabOk hn rfl ?_
 | refine RunsL.nil ?_
 | refine Runs.toRegion 30 rfl ?_
 | (refine Runs.ctls 30 rfl ?_; first | ((first | refine Runs.cond_yes rfl ?_ ?_ | refine Runs.cond_nno rfl ?_ ?_); · first | omega | rfl | assumption | (simp only [List.length_map]; omega)) | ((first | refine Runs.cond_no rfl ?_ ?_ | refine Runs.cond_nyes rfl ?_ ?_); · first | omega | rfl | assumption | (simp only [List.length_map]; omega)) | refine Runs.ret (ends_ro hm rfl rfl ?_) | exact Runs.ret (ends_cellR hm rfl rfl rfl (Nat.le_of_ble_eq_true rfl) rfl rfl))
    )
  exact rr_bool rfl
theorem pickMin_ac (a b : Int) : ACA Try.prog 166 [.fn (.func 179) [] [], .ro (.int a), .ro (intsR [b])] (fun rr => rr = .ro (.int (mn a b))) := by
  unfold mn
  have h1 := min1_ac b a
  refine aca_enter Try.func166 rfl _ Try.ntmps166 (by simp) fun C hn hm => ?_
  repeat' (first
 | refine RunsL.step tabOk hn rfl ?_
 | refine RunsL.nil ?_
 | refine Runs.toRegion 30 rfl ?_
 | (refine Runs.ctls 30 rfl ?_; first | refine Runs.cond_t rfl ?_ | refine Runs.cond_f rfl ?_ | ((first | refine Runs.cond_yes rfl ?_ ?_ | refine Runs.cond_nno rfl ?_ ?_); · first | omega | rfl | assumption | (simp only [List.length_map]; omega)) | ((first | refine Runs.cond_no rfl ?_ ?_ | refine Runs.cond_nyes rfl ?_ ?_); · first | omega | rfl | assumption | (simp only [List.length_map]; omega)) | refine Runs.ret (ends_ro hm rfl rfl ?_) | exact Runs.ret (ends_cellR hm rfl rfl rfl (Nat.le_of_ble_eq_true rfl) rfl rfl))
 | (refine RunsL.pe hn rfl rfl rfl ?_; first
 | refine ⟨_, pu_add rfl rfl (by omega), ?_⟩
 | refine ⟨_, pu_indexAddr_map rfl rfl (by omega) (by assumption), ?_⟩
      ))
  refine Runs.loopN 30 rfl (fun j => [(9, .ro (intsR [b])), (10, .int 1), (0, .fn (.func 179) [] []), (1, .int (if j = 0 then a else if b < a then b else a)), (11, .int (j : Int))]) (fun _ => []) (fun _ => True) 1 0 (Nat.zero_le _) trivial ⟨rfl, rfl, rfl, rfl, rfl, trivial⟩ rfl fun j hj _ next => ?_
  by_cases hlt : j < 1
  · obtain rfl : j = 0 := by omega
    have hz : [b][((0 : Nat) : Int).toNat]? = some b := rfl
    by_cases h : b < a
    · repeat' (first
 | refine RunsL.step tabOk hn rfl ?_
 | refine RunsL.nil ?_
 | refine Runs.toRegion 30 rfl ?_
 | (refine RunsL.pe hn rfl rfl rfl ?_; first
 | refine ⟨_, pu_callF rfl h1 (.cons .ro (.cons .ro .nil)), ?_⟩)
 | (refine Runs.ctls 30 rfl ?_; first | refine Runs.cond_t rfl ?_ | refine Runs.cond_f rfl ?_ | ((first | refine Runs.cond_yes rfl ?_ ?_ | refine Runs.cond_nno rfl ?_ ?_); · first | omega | rfl | assumption | (simp only [List.length_map]; omega)) | ((first | refine Runs.cond_no rfl ?_ ?_ | refine Runs.cond_nyes rfl ?_ ?_); · first | omega | rfl | assumption | (simp only [List.length_map]; omega)) | refine Runs.ret (ends_ro hm rfl rfl ?_) | exact Runs.ret (ends_cellR hm rfl rfl rfl (Nat.le_of_ble_eq_true rfl) rfl rfl))
 | (refine RunsL.pe hn rfl rfl rfl ?_; first
 | refine ⟨_, pu_add rfl rfl (by omega), ?_⟩
 | refine ⟨_, pu_indexAddr_map rfl rfl (by omega) (by assumption), ?_⟩
        ))
      exact next _ _ ⟨rfl, rfl, rfl, by simp only [look]; exact av_int (by simp [h]), rfl, trivial⟩ hlt trivial rfl
    · repeat' (first
 | refine RunsL.step tabOk hn rfl ?_
 | refine RunsL.nil ?_
 | refine Runs.toRegion 30 rfl ?_
 | (refine RunsL.pe hn rfl rfl rfl ?_; first
 | refine ⟨_, pu_callF rfl h1 (.cons .ro (.cons .ro .nil)), ?_⟩)
 | (refine Runs.ctls 30 rfl ?_; first | refine Runs.cond_t rfl ?_ | refine Runs.cond_f rfl ?_ | ((first | refine Runs.cond_yes rfl ?_ ?_ | refine Runs.cond_nno rfl ?_ ?_); · first | omega | rfl | assumption | (simp only [List.length_map]; omega)) | ((first | refine Runs.cond_no rfl ?_ ?_ | refine Runs.cond_nyes rfl ?_ ?_); · first | omega | rfl | assumption | (simp only [List.length_map]; omega)) | refine Runs.ret (ends_ro hm rfl rfl ?_) | exact Runs.ret (ends_cellR hm rfl rfl rfl (Nat.le_of_ble_eq_true rfl) rfl rfl))
 | (refine RunsL.pe hn rfl rfl rfl ?_; first
 | refine ⟨_, pu_add rfl rfl (by omega), ?_⟩
 | refine ⟨_, pu_indexAddr_map rfl rfl (by omega) (by assumption), ?_⟩
        ))
      exact next _ _ ⟨rfl, rfl, rfl, by simp only [look]; exact av_int (by simp [h]), rfl, trivial⟩ hlt trivial rfl
  · obtain rfl : j = 1 := by omega
    repeat' (first
 | refine RunsL.step tabOk hn rfl ?_
 | refine RunsL.nil ?_
 | refine Runs.toRegion 30 rfl ?_
 | (refine Runs.ctls 30 rfl ?_; first | refine Runs.cond_t rfl ?_ | refine Runs.cond_f rfl ?_ | ((first | refine Runs.cond_yes rfl ?_ ?_ | refine Runs.cond_nno rfl ?_ ?_); · first | omega | rfl | assumption | (simp only [List.length_map]; omega)) | ((first | refine Runs.cond_no rfl ?_ ?_ | refine Runs.cond_nyes rfl ?_ ?_); · first | omega | rfl | assumption | (simp only [List.length_map]; omega)) | refine Runs.ret (ends_ro hm rfl rfl ?_) | exact Runs.ret (ends_cellR hm rfl rfl rfl (Nat.le_of_ble_eq_true rfl) rfl rfl))
 | (refine RunsL.pe hn rfl rfl rfl ?_; first
 | refine ⟨_, pu_add rfl rfl (by omega), ?_⟩
 | refine ⟨_, pu_indexAddr_map rfl rfl (by omega) (by assumption), ?_⟩
        ))
    exact rr_int rfl
theorem impl_Min (a b : Int) : ACv Try.prog 159 [.int a, .int b] (.int (mn a b)) := by
  have hp := pickMin_ac a b
  refine ac_enter Try.func159 rfl _ Try.ntmps159 (by simp) fun C hn hm => ?_
  repeat' (first
 | refine RunsL.step tabOk hn rfl ?_
 | refine RunsL.nil ?_
 | refine Runs.toRegion 30 rfl ?_
 | (refine RunsL.pe hn rfl rfl rfl ?_; first
 | refine ⟨_, pu_callA hp (.cons (LendsA.fn .nil .nil) (.cons (LendsA.of Lends.ro) (.cons (LendsA.of Lends.ro) .nil))), ?_⟩)
 | (refine Runs.ctls 30 rfl ?_; first | ((first | refine Runs.cond_yes rfl ?_ ?_ | refine Runs.cond_nno rfl ?_ ?_); · first | omega | rfl | assumption | (simp only [List.length_map]; omega)) | ((first | refine Runs.cond_no rfl ?_ ?_ | refine Runs.cond_nyes rfl ?_ ?_); · first | omega | rfl | assumption | (simp only [List.length_map]; omega)) | refine Runs.ret (ends_ro hm rfl rfl ?_) | exact Runs.ret (ends_cellR hm rfl rfl rfl (Nat.le_of_ble_eq_true rfl) rfl rfl))
 | (refine RunsL.pe hn rfl rfl rfl ?_; first
 | refine ⟨_, pu_build rfl rfl rfl rfl rfl rfl, ?_⟩))
  exact rr_int rfl
end Go.Proofs.Ytnecoghfhcimeaa
/- Which values a rule has: both sides. -/
namespace Go.Proofs.Ytnecoghfhcimeaa
set_option linter.unusedSimpArgs false
set_option linter.unusedVariables false
open Go.RowKit
def OwnV (d : Des) (x : Rul) (v : Tre) : Prop :=
  if x.kind = 1 then (0 ≤ v.number ∧ v.number ≤ pow8 x.size - 1) ∧ v.bytes.length = 0 ∧ v.items.length = 0
  else if x.kind = 2 then v.number = 0 ∧ v.bytes.length = 0 ∧ v.items.length = 0
  else if x.kind = 3 then v.number = 0 ∧ (v.bytes.length : Int) = x.size ∧ v.items.length = 0
  else if x.kind = 4 then v.number = 0 ∧ (v.bytes.length : Int) ≤ mn 400 (lim d (x.kids.headD 0)) ∧ v.items.length = 0
  else if x.kind = 10 then v.number = 0 ∧ v.bytes.length ≤ 400 ∧ v.items.length = 0
  else if x.kind = 5 then v.number = 0 ∧ v.bytes.length = 0 ∧ (v.items.length : Int) ≤ mn 40 (lim d (x.kids.headD 0))
  else if x.kind = 6 then v.number = 0 ∧ v.bytes.length = 0 ∧ v.items.length = x.kids.length
  else if x.kind = 7 then v.bytes.length = 0 ∧ v.items.length = 1 ∧ 0 ≤ itemR x v.number 0
  else if x.kind = 8 then v.number = 0 ∧ v.bytes.length = 0 ∧ v.items.length ≤ 1
  else v.number = 0 ∧ v.bytes.length = 0 ∧ v.items.length = 1
noncomputable instance (d : Des) (x : Rul) (v : Tre) : Decidable (OwnV d x v) := Classical.propDecidable _
def FitV (d : Des) (x : Rul) (v : Tre) : Prop :=
  if x.kind = 7 then v.bytes.length = 0 ∧ v.items.length = 1 ∧ 0 ≤ v.number ∧ v.number ≤ lim d (x.kids.headD 0) else OwnV d x v
noncomputable instance (d : Des) (x : Rul) (v : Tre) : Decidable (FitV d x v) := Classical.propDecidable _
theorem itemR_choice {d : Des} {x : Rul} (ht : TagsOk d x) (k7 : x.kind = 7) {n i : Int} (h : 0 ≤ itemR x n i) : 0 ≤ n ∧ n ≤ lim d (x.kids.headD 0) := by
  unfold itemR at h
  rw [if_neg (by omega), if_neg (by omega), if_pos k7] at h
  by_cases hl : tagIx x.tags n < x.tags.length
  · have := ht.2.2.2 _ _ (tagIx_at hl)
    exact ⟨this.1, this.2.1⟩
  · rw [getD_none (by have := ht.1; omega)] at h
    omega
theorem own_fit {d : Des} {x : Rul} {v : Tre} (hk : KindOk d x) : OwnV d x v ↔ FitV d x v ∧ (x.kind = 7 → 0 ≤ itemR x v.number 0) := by
  by_cases k7 : x.kind = 7
  · have ht := (item_fields hk).2.1 k7
    unfold FitV OwnV
    simp only [k7, if_true, true_implies, show ¬ (7 : Int) = 1 by decide, show ¬ (7 : Int) = 2 by decide, show ¬ (7 : Int) = 3 by decide, show ¬ (7 : Int) = 4 by decide, show ¬ (7 : Int) = 5 by decide, show ¬ (7 : Int) = 6 by decide, show ¬ (7 : Int) = 10 by decide, if_false]
    exact ⟨fun h => ⟨⟨h.1, h.2.1, itemR_choice ht k7 h.2.2⟩, h.2.2⟩, fun h => ⟨h.1.1, h.1.2.1, h.2⟩⟩
  · unfold FitV
    rw [if_neg k7]
    exact ⟨fun h => ⟨h, fun e => absurd e k7⟩, fun h => h.1⟩
theorem own_item {d : Des} {x : Rul} {v : Tre} (hG : Good' d) {r : Nat} (hx : d[r]? = some x) (h : OwnV d x v) {i : Nat} (hi : i < v.items.length) : 0 ≤ itemR x v.number i ∧ itemR x v.number i < r := by
  have hk := kind_at hG hx
  have hf := item_fields hk
  suffices hs : itemR x v.number i ≠ -1 by
    rcases itemR_lt hG hx v.number i with e | e
    · exact absurd e hs
    · exact e
  have key : ∀ k : Nat, k < x.kids.length → (x.kids[k]?).getD (-1) ≠ -1 := fun k hkl => by
    have hz : x.kids[k]? = some _ := List.getElem?_eq_getElem hkl
    have := kids_at hG hx hz
    rw [getD_some hz]; omega
  unfold OwnV at h
  by_cases k5 : x.kind = 5
  · unfold itemR
    rw [if_pos k5]
    exact key 1 (by have := hf.1 k5; omega)
  by_cases k6 : x.kind = 6
  · simp only [k6, if_true, show ¬ (6 : Int) = 1 by decide, show ¬ (6 : Int) = 2 by decide, show ¬ (6 : Int) = 3 by decide, show ¬ (6 : Int) = 4 by decide, show ¬ (6 : Int) = 5 by decide, show ¬ (6 : Int) = 10 by decide, if_false] at h
    unfold itemR
    rw [if_neg k5, if_pos k6]
    exact key _ (by omega)
  by_cases k7 : x.kind = 7
  · simp only [k7, if_true, show ¬ (7 : Int) = 1 by decide, show ¬ (7 : Int) = 2 by decide, show ¬ (7 : Int) = 3 by decide, show ¬ (7 : Int) = 4 by decide, show ¬ (7 : Int) = 5 by decide, show ¬ (7 : Int) = 6 by decide, show ¬ (7 : Int) = 10 by decide, if_false] at h
    have h0 := h.2.2
    unfold itemR at h0 ⊢
    rw [if_neg k5, if_neg k6, if_pos k7] at h0 ⊢
    omega
  by_cases k8 : x.kind = 8 ∨ x.kind = 9
  · unfold itemR
    rw [if_neg k5, if_neg k6, if_neg k7, if_pos k8]
    exact key 0 (by have := hf.2.2.1 k8; omega)
  · exfalso
    have hkk : x.kind = 1 ∨ x.kind = 2 ∨ x.kind = 3 ∨ x.kind = 4 ∨ x.kind = 10 := by
      unfold KindOk at hk
      rcases hk with hk | hk | hk | hk | hk | hk | hk | hk | hk
      all_goals omega
    rcases hkk with e | e | e | e | e
    all_goals
      simp only [e, if_true, show ¬ (2 : Int) = 1 by decide, show ¬ (3 : Int) = 1 by decide, show ¬ (3 : Int) = 2 by decide, show ¬ (4 : Int) = 1 by decide, show ¬ (4 : Int) = 2 by decide, show ¬ (4 : Int) = 3 by decide, show ¬ (10 : Int) = 1 by decide, show ¬ (10 : Int) = 2 by decide, show ¬ (10 : Int) = 3 by decide, show ¬ (10 : Int) = 4 by decide, if_false] at h
      omega
inductive Vld (d : Des) : Nat → Tre → Prop
  | mk {r : Nat} {x : Rul} {v : Tre} (hx : d[r]? = some x) (ho : OwnV d x v) (hi : ∀ (i : Nat) y, v.items[i]? = some y → Vld d (itemR x v.number i).toNat y) : Vld d r v
theorem vld_iff {d : Des} {r : Nat} {x : Rul} {v : Tre} (hx : d[r]? = some x) : Vld d r v ↔ OwnV d x v ∧ ∀ (i : Nat) y, v.items[i]? = some y → Vld d (itemR x v.number i).toNat y := by
  refine ⟨fun h => ?_, fun h => .mk hx h.1 h.2⟩
  cases h with
  | mk hx' ho hi =>
    rw [hx] at hx'
    injection hx' with e
    subst e
    exact ⟨ho, hi⟩
noncomputable instance (d : Des) (r : Nat) (v : Tre) : Decidable (Vld d r v) := Classical.propDecidable _
end Go.Proofs.Ytnecoghfhcimeaa
/- Values with memory of their own, however deep: what a call makes, kept as plain values of a frame. Over any program. -/
namespace Go.Proofs.Ytnecoghfhcimeaa
set_option linter.unusedSimpArgs false
set_option linter.unusedVariables false
open Go.RowKit
open AV (Mem Keeps)
inductive OV where
  | c (v : Value)
  | row (e : TypeId) (sz : Nat) (cs : List OV)
  | agg (cs : List OV)
  | tup (vs : List OV)
namespace OV
mutual
def rel (w : World) : OV → Value → List Nat → Prop
  | .c v, u, bs => u = v ∧ bs = []
  | .row e sz cs, u, bs => ∃ n xs bs', cs.length = n * sz ∧ 0 < sz ∧ rels w cs xs bs' ∧ (∀ x ∈ xs, x.oneCell' = true) ∧ w.ownsRow 0 e sz u n xs ∧ bs = u.ownBlock.toList ++ bs'
  | .agg cs, u, bs => ∃ us : Array Value, u = .agg us ∧ rels w cs us.toList bs
  | .tup cs, u, bs => ∃ us : Array Value, u = .tuple us ∧ rels w cs us.toList bs
def rels (w : World) : List OV → List Value → List Nat → Prop
  | [], us, bs => us = [] ∧ bs = []
  | x :: xs, us, bs => ∃ u us' b bs', us = u :: us' ∧ bs = b ++ bs' ∧ rel w x u b ∧ rels w xs us' bs'
end
theorem ownsRow_keep {w w' : World} {e : TypeId} {sz n : Nat} {u : Value} {xs : List Value} (h : w.ownsRow 0 e sz u n xs) (hb : ∀ b ∈ u.ownBlock.toList, w'.heap[b]? = w.heap[b]?) : w'.ownsRow 0 e sz u n xs := by
  obtain ⟨h1, h2⟩ := h
  refine ⟨h1, ?_⟩
  rcases h2 with h2 | ⟨g, cap, cur, rfl, h3, h4, h5⟩
  · exact .inl h2
  · exact .inr ⟨g, cap, cur, rfl, h3, (hb g (by simp [Value.ownBlock])).trans h4, h5⟩
mutual
theorem rel_keep {w w' : World} : ∀ (o : OV) (u : Value) (bs : List Nat), rel w o u bs → (∀ b ∈ bs, w'.heap[b]? = w.heap[b]?) → rel w' o u bs
  | .c v, u, bs, h, _ => by simpa [rel] using h
  | .row e sz cs, u, bs, h, hb => by
    simp only [rel] at h ⊢
    obtain ⟨n, xs, bs', h1, h2, h3, h4, h5, rfl⟩ := h
    exact ⟨n, xs, bs', h1, h2, rels_keep cs xs bs' h3 fun b hm => hb b (List.mem_append.2 (.inr hm)), h4, ownsRow_keep h5 fun b hm => hb b (List.mem_append.2 (.inl hm)), rfl⟩
  | .agg cs, u, bs, h, hb => by
    simp only [rel] at h ⊢
    obtain ⟨us, e, h1⟩ := h
    exact ⟨us, e, rels_keep cs _ bs h1 hb⟩
  | .tup cs, u, bs, h, hb => by
    simp only [rel] at h ⊢
    obtain ⟨us, e, h1⟩ := h
    exact ⟨us, e, rels_keep cs _ bs h1 hb⟩
theorem rels_keep {w w' : World} : ∀ (os : List OV) (us : List Value) (bs : List Nat), rels w os us bs → (∀ b ∈ bs, w'.heap[b]? = w.heap[b]?) → rels w' os us bs
  | [], us, bs, h, _ => by simpa [rels] using h
  | x :: xs, us, bs, h, hb => by
    simp only [rels] at h ⊢
    obtain ⟨u, us', b, bs', e1, rfl, h1, h2⟩ := h
    exact ⟨u, us', b, bs', e1, rfl, rel_keep x u b h1 fun c hm => hb c (List.mem_append.2 (.inl hm)), rels_keep xs us' bs' h2 fun c hm => hb c (List.mem_append.2 (.inr hm))⟩
end
theorem rels_len {w : World} : ∀ (os : List OV) (us : List Value) (bs : List Nat), rels w os us bs → us.length = os.length
  | [], us, bs, h => by simp only [rels] at h; simp [h.1]
  | x :: xs, us, bs, h => by
    simp only [rels] at h
    obtain ⟨u, us', b, bs', rfl, _, _, h2⟩ := h
    simp [rels_len xs us' bs' h2]
theorem rels_c {w : World} : ∀ (vs : List Value), rels w (vs.map .c) vs []
  | [] => by simp [rels]
  | v :: vs => by simp only [List.map_cons, rels]; exact ⟨v, vs, [], [], rfl, rfl, by simp [rel], rels_c vs⟩
theorem rels_append {w : World} : ∀ (os os' : List OV) (us us' : List Value) (bs bs' : List Nat), rels w os us bs → rels w os' us' bs' → rels w (os ++ os') (us ++ us') (bs ++ bs')
  | [], os', us, us', bs, bs', h, h' => by simp only [rels] at h; obtain ⟨rfl, rfl⟩ := h; simpa using h'
  | x :: xs, os', us, us', bs, bs', h, h' => by
    simp only [rels] at h
    obtain ⟨u, ut, b, bt, rfl, rfl, h1, h2⟩ := h
    simp only [List.cons_append, rels]
    exact ⟨u, ut ++ us', b, bt ++ bs', rfl, by rw [List.append_assoc], h1, rels_append xs os' ut us' bt bs' h2 h'⟩
mutual
def Seal : OV → RV → Prop
  | .c v, r => r = .c v
  | .row _ sz cs, r => ∃ els, r = .seq sz els ∧ (∀ x ∈ els, x.length = sz) ∧ Seals cs els.flatten
  | .agg cs, r => ∃ rs, r = .agg rs ∧ Seals cs rs
  | .tup cs, r => ∃ rs, r = .tup rs ∧ Seals cs rs
def Seals : List OV → List RV → Prop
  | [], rs => rs = []
  | x :: xs, rs => ∃ r rs', rs = r :: rs' ∧ Seal x r ∧ Seals xs rs'
end
theorem seals_len : ∀ (os : List OV) (rs : List RV), Seals os rs → rs.length = os.length
  | [], rs, h => by simp only [Seals] at h; simp [h]
  | x :: xs, rs, h => by
    simp only [Seals] at h
    obtain ⟨r, rs', rfl, _, h2⟩ := h
    simp [seals_len xs rs' h2]
mutual
theorem seal_rel {w : World} {ok : Nat → Prop} : ∀ (o : OV) (r : RV) (u : Value) (bs : List Nat), Seal o r → rel w o u bs → (∀ b ∈ bs, ok b) → RV.rel w ok r u
  | .c v, r, u, bs, hs, h, _ => by
    simp only [Seal] at hs; subst hs
    simp only [rel] at h
    simpa only [RV.rel] using h.1
  | .row e sz cs, r, u, bs, hs, h, hb => by
    simp only [Seal] at hs
    obtain ⟨els, rfl, hl, hf⟩ := hs
    simp only [rel] at h
    obtain ⟨n, xs, bs', k1, k2, k3, k4, k5, rfl⟩ := h
    have hrs : RV.rels w ok els.flatten xs := seals_rel cs els.flatten xs bs' hf k3 fun b hm => hb b (List.mem_append.2 (.inr hm))
    have hn : n = els.length := by
      have h1 := flatten_len hl
      rw [seals_len cs _ hf, k1] at h1
      exact Nat.eq_of_mul_eq_mul_right k2 h1
    simp only [RV.rel]
    rcases k5.2 with ⟨rfl, h0⟩ | ⟨g, cap, cur, rfl, _, hh, c1, c2, c3, ht⟩
    · exact ⟨none, 0, 0, rfl, by omega, Nat.le_refl _, Nat.zero_le _, fun h => absurd h (by omega)⟩
    · refine ⟨some ⟨g, 0, none⟩, n, cap, rfl, hn, c1, c2, fun hn0 => ⟨g, 0, rfl, (Array.getElem?_eq_some_iff.1 hh).1, hb g (by simp [Value.ownBlock]), ?_⟩⟩
      refine RV.relE_of _ _ _ fun k el hk => ⟨hl el (List.mem_of_getElem? hk), RV.relAt_of _ _ fun j r hj => ?_⟩
      have hjl : j < sz := by have := (List.getElem?_eq_some_iff.1 hj).1; rwa [hl el (List.mem_of_getElem? hk)] at this
      have hfl := flatten_at hl k j el hk hjl
      rw [hj] at hfl
      obtain ⟨x, e1, e2⟩ := RV.rels_at _ xs hrs _ r hfl
      refine ⟨x, ?_, k4 x (List.mem_of_getElem? e1), e2⟩
      rw [cell_of_row w g _ cur _ _ hh, Nat.zero_add]
      rw [← ht, List.getElem?_take] at e1
      split at e1
      · simpa using e1
      · cases e1
  | .agg cs, r, u, bs, hs, h, hb => by
    simp only [Seal] at hs
    obtain ⟨rs, rfl, hf⟩ := hs
    simp only [rel] at h
    obtain ⟨us, rfl, h1⟩ := h
    simp only [RV.rel]
    exact ⟨us, rfl, seals_rel cs rs _ bs hf h1 hb⟩
  | .tup cs, r, u, bs, hs, h, hb => by
    simp only [Seal] at hs
    obtain ⟨rs, rfl, hf⟩ := hs
    simp only [rel] at h
    obtain ⟨us, rfl, h1⟩ := h
    simp only [RV.rel]
    exact ⟨us, rfl, seals_rel cs rs _ bs hf h1 hb⟩
theorem seals_rel {w : World} {ok : Nat → Prop} : ∀ (os : List OV) (rs : List RV) (us : List Value) (bs : List Nat), Seals os rs → rels w os us bs → (∀ b ∈ bs, ok b) → RV.rels w ok rs us
  | [], rs, us, bs, hs, h, _ => by
    simp only [Seals] at hs; subst hs
    simp only [rels] at h
    simp [RV.rels, h.1]
  | x :: xs, rs, us, bs, hs, h, hb => by
    simp only [Seals] at hs
    obtain ⟨r, rs', rfl, hs1, hs2⟩ := hs
    simp only [rels] at h
    obtain ⟨u, us', b, bs', rfl, rfl, h1, h2⟩ := h
    simp only [RV.rels]
    exact ⟨u, us', rfl, seal_rel x r u b hs1 h1 fun c hm => hb c (List.mem_append.2 (.inl hm)), seals_rel xs rs' us' bs' hs2 h2 fun c hm => hb c (List.mem_append.2 (.inr hm))⟩
end
end OV
def ACo (P : Program) (f : FuncId) (args : List RV) (ov : OV) : Prop :=
  ∀ (w : World) (us : Array Value), RV.rels w (fun _ => True) args us.toList →
    Calls P f us w fun e w' => ∃ u bs, e = .returned u ∧ OV.rel w' ov u bs ∧ bs.Nodup ∧ (∀ b ∈ bs, w.heap.size ≤ b ∧ b < w'.heap.size) ∧ Below w.heap.size w w'
structure Gh (C : Ctx) (ov : OV) (u : Value) (bs : List Nat) : Prop where
  rel : OV.rel C.w0 ov u bs
  fix : ∀ b ∈ bs, b < C.w0.heap.size ∧ ¬ C.mu b ∧ ¬ C.ok b
structure Nx (C C' : Ctx) (bs : List Nat) : Prop where
  n : C'.n = C.n
  os : C'.w0.os = C.w0.os
  tape : C'.w0.tape = C.w0.tape
  output : C'.w0.output = C.w0.output
  size : C.w0.heap.size ≤ C'.w0.heap.size
  block : ∀ b, b < C.w0.heap.size → ¬ C.mu b → b ∉ bs → C'.w0.heap[b]? = C.w0.heap[b]?
  mu : ∀ b, C'.mu b → C.mu b ∨ C.w0.heap.size ≤ b
  ok : ∀ b, C'.ok b → C.ok b
theorem Gh.next {C C' : Ctx} {ov : OV} {u : Value} {bs ds : List Nat} (h : Gh C ov u bs) (k : Nx C C' ds) (hd : ∀ b ∈ bs, b ∉ ds) : Gh C' ov u bs := by
  refine ⟨OV.rel_keep ov u bs h.rel fun b hb => k.block b (h.fix b hb).1 (h.fix b hb).2.1 (hd b hb), fun b hb => ⟨Nat.lt_of_lt_of_le (h.fix b hb).1 k.size, fun hm => ?_, fun ho => (h.fix b hb).2.2 (k.ok b ho)⟩⟩
  rcases k.mu b hm with h1 | h1
  · exact (h.fix b hb).2.1 h1
  · have := (h.fix b hb).1; omega
theorem Nx.trans {C C' C'' : Ctx} {bs ds : List Nat} (h : Nx C C' bs) (k : Nx C' C'' ds) : Nx C C'' (bs ++ ds) :=
  ⟨k.n.trans h.n, k.os.trans h.os, k.tape.trans h.tape, k.output.trans h.output, Nat.le_trans h.size k.size, fun b h1 h2 h3 => by
    rw [List.mem_append, not_or] at h3
    refine (k.block b (Nat.lt_of_lt_of_le h1 h.size) (fun hm => ?_) h3.2).trans (h.block b h1 h2 h3.1)
    rcases h.mu b hm with h4 | h4
    · exact h2 h4
    · omega, fun b hm => by
    rcases k.mu b hm with h4 | h4
    · exact h.mu b h4
    · exact .inr (Nat.le_trans h.size h4), fun b ho => h.ok b (k.ok b ho)⟩
theorem rel_constRV {w : World} {ok : Nat → Prop} (u : Value) : RV.rel w ok (constRV u) u := const_rel u
section
variable {P : Program} {C : Ctx} {ops : Array Oper} {rest : List Oper} {k : List Item} {R : Act → World → Prop} {env : Env} {σ : List Ob} {t : Nat} {ty : TypeId} {pos : String} {after : Array Edge} {gd : Option (Nat × Bool)}
def LendsT (C : Ctx) (σ : List Ob) (v : AV) (r : RV) : Prop := ∀ (m : Mem) (u : Value), Good C m → m.σ = σ → AV.rel m v u → RV.rel m.w (fun _ => True) r u
inductive LendsTL (C : Ctx) (σ : List Ob) : List AV → List RV → Prop
  | nil : LendsTL C σ [] []
  | cons {v : AV} {r : RV} {vs : List AV} {rs : List RV} : LendsT C σ v r → LendsTL C σ vs rs → LendsTL C σ (v :: vs) (r :: rs)
theorem LendsT.of {v : AV} {r : RV} (h : Lends C σ v r) : LendsT C σ v r := fun m u hG hσ hu => h m u (fun _ => True) hG hσ (fun _ _ => trivial) (fun _ _ _ _ => trivial) hu
theorem LendsT.ro {r : RV} : LendsT C σ (.ro r) r := LendsT.of Lends.ro
theorem LendsTL.rels {m : Mem} (hG : Good C m) (hσ : m.σ = σ) {vs : List AV} {rs : List RV} (h : LendsTL C σ vs rs) : ∀ us, AV.rels m vs us → RV.rels m.w (fun _ => True) rs us := by
  induction h with
  | nil => intro us hu; simpa [AV.rels, RV.rels] using hu
  | cons h1 _ ih =>
    intro us hu
    simp only [AV.rels] at hu
    obtain ⟨u, us', rfl, k3, k4⟩ := hu
    simp only [RV.rels]
    exact ⟨u, us', rfl, h1 m u hG hσ k3, ih us' k4⟩
end
end Go.Proofs.Ytnecoghfhcimeaa
/- Values with memory of their own: how a function that makes one is entered and left; plain values behind a row; steps on memory that is known by its block. Over any program. -/
namespace Go.Proofs.Ytnecoghfhcimeaa
set_option linter.unusedSimpArgs false
set_option linter.unusedVariables false
open Go.RowKit
open AV (Mem Keeps)
structure Sc (C0 C : Ctx) : Prop where
  below : Below C0.w0.heap.size C0.w0 C.w0
  mu : ∀ b, C.mu b → C0.w0.heap.size ≤ b
theorem Sc.start {C : Ctx} (hm : ∀ b, ¬ C.mu b) : Sc C C := ⟨Below.refl _ _, fun b h => absurd h (hm b)⟩
theorem Sc.next {C0 C C' : Ctx} {bs : List Nat} (h : Sc C0 C) (k : Nx C C' bs) (hb : ∀ b ∈ bs, C0.w0.heap.size ≤ b) : Sc C0 C' := by
  refine ⟨⟨k.os.trans h.below.os, k.tape.trans h.below.tape, k.output.trans h.below.output, Nat.le_trans h.below.size k.size, fun b hlt => ?_⟩, fun b hm => ?_⟩
  · refine (k.block b (Nat.lt_of_lt_of_le hlt h.below.size) (fun hm => ?_) fun hm => ?_).trans (h.below.block b hlt)
    · have := h.mu b hm; omega
    · have := hb b hm; omega
  · rcases k.mu b hm with h1 | h1
    · exact h.mu b h1
    · exact Nat.le_trans h.below.size h1
theorem Sc.end_ {C0 C : Ctx} {m : Mem} (h : Sc C0 C) (hG : Good C m) : Below C0.w0.heap.size C0.w0 m.w :=
  ⟨hG.frm.os.trans h.below.os, hG.frm.tape.trans h.below.tape, hG.frm.output.trans h.below.output, Nat.le_trans h.below.size hG.frm.size, fun b hlt => (hG.frm.block b (Nat.lt_of_lt_of_le hlt h.below.size) (fun hm => by have := h.mu b hm; omega)).trans (h.below.block b hlt)⟩
def EndsO (P : Program) (C0 : Ctx) (fn : Func) (ov : OV) (a : Act) (w : World) : Prop :=
  a.defers = [] ∧ ∃ v, (results fn a.tmps).run P w = .ok v w ∧ ∃ bs, OV.rel w ov v bs ∧ bs.Nodup ∧ (∀ b ∈ bs, C0.w0.heap.size ≤ b ∧ b < w.heap.size) ∧ Below C0.w0.heap.size C0.w0 w
theorem aco_enter {P : Program} {f : FuncId} {fn : Func} {c : Code} {args : List RV} {ov : OV} (hf : P.funcs[f]? = some fn) (hb : fn.body = some c) (n : Nat) (hn : fn.ntmps = n) (hl : args.length ≤ n)
    (h : ∀ C : Ctx, C.n = n → (∀ b, ¬ C.mu b) → Runs P C [.code c] (EndsO P C fn ov) ⟨startEnv 0 args, []⟩) : ACo P f args ov := by
  intro w us hu
  have hlen := RV.rels_len args _ hu
  refine calls_of_fin hf hb ?_
  have hs : Sim ⟨w, fun _ => True, fun _ => False, n⟩ ⟨startEnv 0 args, []⟩ { tmps := us ++ Array.replicate (fn.ntmps - us.size) undef, defers := [] } w := by
    refine ⟨rfl, by simp at hlen ⊢; omega, fun _ => none, ⟨rfl, fun i j g hi => by simp at hi, fun i o hi => by simp at hi, fun i g hi => by simp at hi, ⟨rfl, rfl, rfl, Nat.le_refl _, fun _ _ _ => rfl, fun _ _ => trivial⟩⟩, fun t => ?_⟩
    rw [start_look]
    simp only [Nat.zero_le, if_true, Nat.sub_zero]
    cases hr : args[t]? with
    | none => simp [AV.rel]
    | some r =>
      obtain ⟨u, e1, e2⟩ := RV.rels_at args _ hu t r hr
      have ht : t < us.size := by have := (List.getElem?_eq_some_iff.1 e1).1; simpa using this
      simp only [AV.rel]
      have : (us ++ Array.replicate (fn.ntmps - us.size) undef).getD t undef = u := by
        rw [Array.getD_eq_getD_getElem?, Array.getElem?_append_left ht]
        have : us[t]? = some u := by simpa using e1
        simp [this]
      rw [this]
      exact RV.rel_mono ⟨Nat.le_refl _, fun b _ hb => ⟨⟨hb, fun i hi => by simp at hi⟩, rfl⟩⟩ r u e2
  have hr := (h ⟨w, fun _ => True, fun _ => False, n⟩ rfl (fun _ h => h)).run _ w hs
  intro b cs
  obtain ⟨a', w', todo, ⟨hd, v, hv, bs, h1, h2, h3, h4⟩, hst⟩ := hr b cs
  exact ⟨a', w', todo, ⟨hd, v, hv, v, bs, rfl, h1, h2, h3, h4⟩, hst⟩
section
variable {P : Program} {C C0 : Ctx} {S : St} {fn : Func}
end
mutual
def RO : RR → OV → Prop
  | .ro r, o => ∃ v, r = .c v ∧ o = .c v
  | .row e sz cs, o => ∃ vs : List Value, cs = vs.map .c ∧ o = .row e sz (vs.map .c)
  | .agg rs, o => ∃ os, o = .agg os ∧ ROs rs os
  | .tup rs, o => ∃ os, o = .tup os ∧ ROs rs os
def ROs : List RR → List OV → Prop
  | [], os => os = []
  | x :: xs, os => ∃ o os', os = o :: os' ∧ RO x o ∧ ROs xs os'
end
mutual
theorem ro_rel {w : World} {ok : Nat → Prop} : ∀ (rr : RR) (o : OV) (u : Value) (bs : List Nat), RO rr o → rr.rel w ok u bs → OV.rel w o u bs
  | .ro r, o, u, bs, h, hr => by
    simp only [RO] at h
    obtain ⟨v, rfl, rfl⟩ := h
    simp only [RR.rel, RV.rel] at hr
    simp only [OV.rel]
    exact hr
  | .row e sz cs, o, u, bs, h, hr => by
    simp only [RO] at h
    obtain ⟨vs, rfl, rfl⟩ := h
    simp only [RR.rel] at hr
    obtain ⟨n, xs, k1, k2, k3, k4, k5, rfl⟩ := hr
    have e2 := agg_flat (m := ⟨w, fun _ => none, [], ok⟩) vs xs (RV.rels_mono ⟨Nat.le_refl _, fun b _ hb => ⟨⟨hb, fun i hi => by simp at hi⟩, rfl⟩⟩ _ _ k3)
    subst e2
    simp only [OV.rel]
    exact ⟨n, xs, [], by simpa using k1, k2, OV.rels_c xs, k4, k5, by simp⟩
  | .agg rs, o, u, bs, h, hr => by
    simp only [RO] at h
    obtain ⟨os, rfl, h⟩ := h
    simp only [RR.rel] at hr
    obtain ⟨us, rfl, hr⟩ := hr
    simp only [OV.rel]
    exact ⟨us, rfl, ros_rel rs os _ bs h hr⟩
  | .tup rs, o, u, bs, h, hr => by
    simp only [RO] at h
    obtain ⟨os, rfl, h⟩ := h
    simp only [RR.rel] at hr
    obtain ⟨us, rfl, hr⟩ := hr
    simp only [OV.rel]
    exact ⟨us, rfl, ros_rel rs os _ bs h hr⟩
theorem ros_rel {w : World} {ok : Nat → Prop} : ∀ (rs : List RR) (os : List OV) (us : List Value) (bs : List Nat), ROs rs os → RR.rels w ok rs us bs → OV.rels w os us bs
  | [], os, us, bs, h, hr => by
    simp only [ROs] at h; subst h
    simpa [RR.rels, OV.rels] using hr
  | x :: xs, os, us, bs, h, hr => by
    simp only [ROs] at h
    obtain ⟨o, os', rfl, h1, h2⟩ := h
    simp only [RR.rels] at hr
    obtain ⟨u, us', b, bs', rfl, rfl, k1, k2⟩ := hr
    simp only [OV.rels]
    exact ⟨u, us', b, bs', rfl, rfl, ro_rel x o u b h1 k1, ros_rel xs os' us' bs' h2 k2⟩
end
section
variable {P : Program} {C : Ctx} {env : Env} {σ : List Ob} {t : Nat} {ty : TypeId} {pos : String} {after : Array Edge} {gd : Option (Nat × Bool)}
end
theorem row_slice {w : World} {e : TypeId} {sz : Nat} {cs : List OV} {u : Value} {bs : List Nat} (h : OV.rel w (.row e sz cs) u bs) : ∃ A n c, u = .slice A n c := by
  simp only [OV.rel] at h
  obtain ⟨n, xs, bs', _, _, _, _, h5, _⟩ := h
  rcases h5.2 with ⟨rfl, _⟩ | ⟨g, cap, cur, rfl, _⟩
  · exact ⟨_, _, _, rfl⟩
  · exact ⟨_, _, _, rfl⟩
end Go.Proofs.Ytnecoghfhcimeaa
/- Descriptions that the laws' helpers make: all in memory of their own. -/
namespace Go.Proofs.Ytnecoghfhcimeaa
set_option linter.unusedSimpArgs false
set_option linter.unusedVariables false
open Go.RowKit
def bytesO (l : List UInt8) : OV := .row 5 1 ((l.map fun z => Value.int .u8 (z.toNat : Int)).map .c)
theorem nodup_two {a b : List Nat} (k : Nat) (h1 : a.Nodup) (h2 : b.Nodup) (h3 : ∀ x ∈ a, x < k) (h4 : ∀ x ∈ b, k ≤ x) : (a ++ b).Nodup := by
  rw [List.nodup_append]
  exact ⟨h1, h2, fun x hx y hy e => by have := h3 x hx; have := h4 y hy; omega⟩
end Go.Proofs.Ytnecoghfhcimeaa
/- Marks: functions that write into a value that they are handed. Steps on memory that is known by its block. Over any program. -/
namespace Go.Proofs.Ytnecoghfhcimeaa
set_option linter.unusedSimpArgs false
set_option linter.unusedVariables false
open Go.RowKit
open AV (Mem Keeps)
structure Bk (C : Ctx) (g : Nat) (us : Array Value) (e : TypeId) : Prop where
  cells : C.w0.heap[g]? = some (.cells us e (0, 0))
  mu : ¬ C.mu g
  ok : ¬ C.ok g
theorem Bk.lt {C : Ctx} {g : Nat} {us : Array Value} {e : TypeId} (h : Bk C g us e) : g < C.w0.heap.size := (Array.getElem?_eq_some_iff.1 h.cells).1
theorem Bk.now {C : Ctx} {m : Mem} {g : Nat} {us : Array Value} {e : TypeId} (h : Bk C g us e) (hG : Good C m) : m.w.heap[g]? = some (.cells us e (0, 0)) := (hG.frm.block g h.lt h.mu).trans h.cells
theorem Bk.next {C C' : Ctx} {g : Nat} {us : Array Value} {e : TypeId} {ds : List Nat} (h : Bk C g us e) (k : Nx C C' ds) (hd : g ∉ ds) : Bk C' g us e :=
  ⟨(k.block g h.lt h.mu hd).trans h.cells, fun hm => (k.mu g hm).elim h.mu fun h1 => by have := h.lt; omega, fun ho => h.ok (k.ok g ho)⟩
section
variable {P : Program} {C : Ctx} {ops : Array Oper} {rest : List Oper} {k : List Item} {R : Act → World → Prop} {env : Env} {σ : List Ob} {t : Nat} {ty : TypeId} {pos : String} {after : Array Edge} {gd : Option (Nat × Bool)}
end
structure Up (w w' : World) (bs : List Nat) : Prop where
  os : w'.os = w.os
  tape : w'.tape = w.tape
  output : w'.output = w.output
  size : w.heap.size ≤ w'.heap.size
  block : ∀ b, b < w.heap.size → b ∉ bs → w'.heap[b]? = w.heap[b]?
def MK (P : Program) (f : FuncId) (ov : OV) (k k' : Int) (ov' : OV) : Prop :=
  ∀ (w : World) (u : Value) (bs : List Nat), OV.rel w ov u bs → bs.Nodup → (∀ b ∈ bs, b < w.heap.size) →
    Calls P f #[u, .int .i64 k] w fun e w' => e = .returned (.int .i64 k') ∧ OV.rel w' ov' u bs ∧ Up w w' bs
def MX (P : Program) (f : FuncId) (ov : OV) (k k' : Int) : Prop :=
  ∀ (w : World) (u : Value) (bs : List Nat), OV.rel w ov u bs → bs.Nodup → (∀ b ∈ bs, b < w.heap.size) →
    Calls P f #[u, .int .i64 k] w fun e w' => e = .returned (.int .i64 k') ∧ Up w w' bs
theorem MK.mx {P : Program} {f : FuncId} {ov ov' : OV} {k k' : Int} (h : MK P f ov k k' ov') : MX P f ov k k' := fun w u bs h1 h2 h3 => (h w u bs h1 h2 h3).mono fun _ _ h => ⟨h.1, h.2.2⟩
theorem Nx.sub {C C' : Ctx} {bs ds : List Nat} (h : Nx C C' bs) (hs : ∀ b ∈ bs, b ∈ ds) : Nx C C' ds :=
  ⟨h.n, h.os, h.tape, h.output, h.size, fun b h1 h2 h3 => h.block b h1 h2 fun hm => h3 (hs b hm), h.mu, h.ok⟩
theorem Nx.refl (C : Ctx) (bs : List Nat) : Nx C C bs := ⟨rfl, rfl, rfl, rfl, Nat.le_refl _, fun _ _ _ _ => rfl, fun _ h => .inl h, fun _ h => h⟩
theorem Nx.up {C C' : Ctx} {bs : List Nat} (h : Nx C C' bs) (hm : ∀ b, ¬ C.mu b) {m : Mem} (hG : Good C' m) : Up C.w0 m.w bs :=
  ⟨hG.frm.os.trans h.os, hG.frm.tape.trans h.tape, hG.frm.output.trans h.output, Nat.le_trans h.size hG.frm.size, fun b hb hn => (hG.frm.block b (Nat.lt_of_lt_of_le hb h.size) fun hmu => (h.mu b hmu).elim (hm b) fun h1 => by omega).trans (h.block b hb (hm b) hn)⟩
section
variable {P : Program} {C C0 : Ctx} {S : St} {fn : Func}
end
section
variable {P : Program} {C : Ctx} {ops : Array Oper} {rest : List Oper} {k : List Item} {R : Act → World → Prop} {env : Env} {σ : List Ob} {t : Nat} {ty : TypeId} {pos : String} {after : Array Edge} {gd : Option (Nat × Bool)}
end
end Go.Proofs.Ytnecoghfhcimeaa
/- Marks on flat rows: written, and found again. -/
namespace Go.Proofs.Ytnecoghfhcimeaa
set_option linter.unusedSimpArgs false
set_option linter.unusedVariables false
open Go.RowKit
open AV (Mem Keeps)
def seqI (k : Int) (n : Nat) : List Int := (List.range n).map fun (i : Nat) => k + (i : Int)
end Go.Proofs.Ytnecoghfhcimeaa
/- Marks on rows of bytes. -/
namespace Go.Proofs.Ytnecoghfhcimeaa
set_option linter.unusedSimpArgs false
set_option linter.unusedVariables false
open Go.RowKit
open AV (Mem Keeps)
def seqB (k : Int) (n : Nat) : List UInt8 := (seqI k n).map fun z => UInt8.ofNat (IntKind.u8.wrap z).toNat
end Go.Proofs.Ytnecoghfhcimeaa
/- Marks on rows of texts. -/
namespace Go.Proofs.Ytnecoghfhcimeaa
set_option linter.unusedSimpArgs false
set_option linter.unusedVariables false
open Go.RowKit
open AV (Mem Keeps)
end Go.Proofs.Ytnecoghfhcimeaa
/- Marks: calls that write into values of the frame's. Over any program. -/
namespace Go.Proofs.Ytnecoghfhcimeaa
set_option linter.unusedSimpArgs false
set_option linter.unusedVariables false
open Go.RowKit
open AV (Mem Keeps)
section
variable {P : Program} {C : Ctx} {ops : Array Oper} {rest : List Oper} {k : List Item} {R : Act → World → Prop} {env : Env} {σ : List Ob} {t : Nat} {ty : TypeId} {pos : String} {after : Array Edge}
end
theorem Gh.rels {C : Ctx} {os : List OV} {us : List Value} {bs : List Nat} (h : Gh C (.agg os) (.agg us.toArray) bs) : OV.rels C.w0 os us bs := by
  have := h.rel
  simp only [OV.rel] at this
  obtain ⟨vs, e, h1⟩ := this
  injection e with e
  subst e
  simpa using h1
end Go.Proofs.Ytnecoghfhcimeaa
/- Marks on descriptions. -/
namespace Go.Proofs.Ytnecoghfhcimeaa
set_option linter.unusedSimpArgs false
set_option linter.unusedVariables false
open Go.RowKit
open AV (Mem Keeps)
end Go.Proofs.Ytnecoghfhcimeaa
/- Marks: what the laws want. -/
namespace Go.Proofs.Ytnecoghfhcimeaa
set_option linter.unusedSimpArgs false
set_option linter.unusedVariables false
open Go.RowKit
open AV (Mem Keeps)
theorem seals_cs : ∀ vs : List Value, OV.Seals (vs.map .c) (vs.map .c)
  | [] => by simp [OV.Seals]
  | v :: vs => by simp only [List.map_cons, OV.Seals]; exact ⟨_, _, rfl, by simp [OV.Seal], seals_cs vs⟩
theorem seal_row1 (e : TypeId) (vs : List Value) : OV.Seal (.row e 1 (vs.map .c)) (.seq 1 (vs.map fun v => [.c v])) := by
  simp only [OV.Seal]
  refine ⟨_, rfl, by simp, ?_⟩
  have : (vs.map fun v => [RV.c v]).flatten = vs.map .c := by
    induction vs with
    | nil => rfl
    | cons v vs ih => simp [ih]
  rw [this]
  exact seals_cs vs
theorem seals_app : ∀ {os os' : List OV} {rs rs' : List RV}, OV.Seals os rs → OV.Seals os' rs' → OV.Seals (os ++ os') (rs ++ rs')
  | [], os', rs, rs', h, h' => by simp only [OV.Seals] at h; subst h; simpa using h'
  | x :: os, os', rs, rs', h, h' => by
    simp only [OV.Seals] at h
    obtain ⟨r, rt, rfl, h1, h2⟩ := h
    simp only [List.cons_append, OV.Seals]
    exact ⟨r, rt ++ rs', rfl, h1, seals_app h2 h'⟩
theorem seal_bytes (l : List UInt8) : OV.Seal (bytesO l) (bytesR l) := by
  have h := seal_row1 5 (l.map fun z => Value.int .u8 (z.toNat : Int))
  rw [show ((l.map fun z => Value.int .u8 (z.toNat : Int)).map fun v => [RV.c v]) = l.map fun z => [RV.u8 z] by rw [List.map_map]; rfl] at h
  exact h
end Go.Proofs.Ytnecoghfhcimeaa
/- Values of the format in memory of their own: as the laws' helpers make them; read as data. -/
namespace Go.Proofs.Ytnecoghfhcimeaa
set_option linter.unusedSimpArgs false
set_option linter.unusedVariables false
open Go.RowKit
open AV (Mem Keeps)
mutual
def treOs : Tre → List OV
  | .mk n b l => [.c (.int .i64 n), bytesO b, .row 29 3 (tresOs l)]
def tresOs : List Tre → List OV
  | [] => []
  | v :: vs => treOs v ++ tresOs vs
end
theorem tresOs_eq : ∀ l, tresOs l = l.flatMap treOs
  | [] => by rw [tresOs]; rfl
  | v :: vs => by rw [tresOs, tresOs_eq vs, List.flatMap_cons]
def treO (v : Tre) : OV := .agg (treOs v)
def tresO (l : List Tre) : OV := .row 29 3 (l.flatMap treOs)
theorem treOs_eq (v : Tre) : treOs v = [.c (.int .i64 v.number), bytesO v.bytes, tresO v.items] := by
  cases v; rw [treOs, tresOs_eq]; rfl
theorem treOs_len (v : Tre) : (treOs v).length = 3 := by rw [treOs_eq]; rfl
theorem tresO_len (l : List Tre) : (l.flatMap treOs).length = l.length * 3 := by
  induction l with
  | nil => rfl
  | cons x l ih => rw [List.flatMap_cons, List.length_append, ih, List.length_cons, treOs_len]; omega
theorem tre_open {w : World} {v : Tre} {us : List Value} {bs : List Nat} (h : OV.rels w (treOs v) us bs) : ∃ A1 n1 c1 A2 n2 c2 d1 d2, us = [.int .i64 v.number, .slice A1 n1 c1, .slice A2 n2 c2] ∧ bs = d1 ++ d2 ∧
    OV.rel w (bytesO v.bytes) (.slice A1 n1 c1) d1 ∧ OV.rel w (tresO v.items) (.slice A2 n2 c2) d2 := by
  rw [treOs_eq] at h
  simp only [OV.rels] at h
  obtain ⟨v0, _, b0, _, rfl, rfl, h0, v1, _, b1, _, rfl, rfl, h1, v2, _, b2, _, rfl, rfl, h2, rfl, rfl⟩ := h
  have h1' := h1
  have h2' := h2
  unfold bytesO at h1'
  unfold tresO at h2'
  obtain ⟨A1, n1, c1, rfl⟩ := row_slice h1'
  obtain ⟨A2, n2, c2, rfl⟩ := row_slice h2'
  simp only [OV.rel] at h0
  refine ⟨A1, n1, c1, A2, n2, c2, b1, b2, by rw [h0.1], by rw [h0.2]; simp, h1, h2⟩
theorem seals_tre : ∀ v : Tre, OV.Seals (treOs v) v.cells := by
  refine Tre.ind fun v ih => ?_
  rw [treOs_eq, Tre.cells_eq]
  simp only [OV.Seals]
  refine ⟨_, _, rfl, by simp [OV.Seal], _, _, rfl, seal_bytes _, _, _, rfl, ?_, rfl⟩
  simp only [tresO, OV.Seal]
  refine ⟨_, rfl, by simp [Tre.cells_len], ?_⟩
  generalize v.items = l at ih
  induction l with
  | nil => simp [OV.Seals]
  | cons x l ihl =>
    rw [List.flatMap_cons, List.map_cons, List.flatten_cons]
    exact seals_app (ih x (by simp)) (ihl fun y hy => ih y (by simp [hy]))
theorem seal_tre (v : Tre) : OV.Seal (treO v) (treR v) := by
  simp only [treO, OV.Seal]
  exact ⟨v.cells, (treC v).symm, seals_tre v⟩
theorem tre_val {w : World} {v : Tre} {u : Value} {bs : List Nat} (h : OV.rel w (treO v) u bs) : ∃ A1 n1 c1 A2 n2 c2, u = .agg #[.int .i64 v.number, .slice A1 n1 c1, .slice A2 n2 c2] := by
  simp only [treO, OV.rel] at h
  obtain ⟨us, rfl, h⟩ := h
  obtain ⟨us⟩ := us
  obtain ⟨A1, n1, c1, A2, n2, c2, _, _, e, _⟩ := tre_open h
  simp only at e
  subst e
  exact ⟨A1, n1, c1, A2, n2, c2, rfl⟩
end Go.Proofs.Ytnecoghfhcimeaa
/- Regions that draw their order, without calls: walked once for each order. Over any program. -/
namespace Go.Proofs.Ytnecoghfhcimeaa
set_option linter.unusedSimpArgs false
set_option linter.unusedVariables false
open Go.RowKit
open AV (Mem Keeps)
structure Nv (s : Sem Next) : Prop where
  val : ∀ (P : Program) (w : World) (x : Next) (w' : World), s.run P w = .ok x w' → (∃ v, x = .value v) ∨ x = .skip
theorem Nv.of {s : Sem Value} : Nv (do Pure.pure (.value (← s)) : Sem Next) := ⟨fun P w x w' e => by
  rw [Sem.run_bind] at e
  cases hs : s.run P w with
  | ok a w1 => rw [hs] at e; simp only [Result.andThen_ok, Sem.run_pure] at e; injection e with e; exact .inl ⟨a, e.symm⟩
  | halt q w1 => rw [hs] at e; cases e⟩
def sel (l : List Oper) : List Nat → List Oper
  | [] => []
  | i :: is => match l[i]? with
    | some o => o :: sel l is
    | none => sel l is
section
variable {P : Program} {C : Ctx} {k : List Item} {R : Act → World → Prop} {env : Env} {σ : List Ob}
def AllOrd (P : Program) (C : Ctx) (l : List Oper) (k : List Item) (R : Act → World → Prop) (S : St) : List (List Nat) → Prop
  | [] => True
  | π :: L => RunsL P C l.toArray (sel l π) k R S ∧ AllOrd P C l k R S L
theorem AllOrd.at_ {l : List Oper} {S : St} : ∀ {L : List (List Nat)}, AllOrd P C l k R S L → ∀ π ∈ L, RunsL P C l.toArray (sel l π) k R S
  | [], _, π, h => by simp at h
  | ρ :: L, hL, π, h => by
    rcases List.mem_cons.1 h with rfl | h
    · exact hL.1
    · exact AllOrd.at_ hL.2 π h
end
end Go.Proofs.Ytnecoghfhcimeaa
/- Regions that draw their order: walked as a tree, calls with results of their own among the operations. Over any program. -/
namespace Go.Proofs.Ytnecoghfhcimeaa
set_option linter.unusedSimpArgs false
set_option linter.unusedVariables false
open Go.RowKit
open AV (Mem Keeps)
section
variable {P : Program} {C C0 : Ctx} {l : List Oper} {k : List Item} {R : Act → World → Prop} {env : Env} {σ : List Ob} {f i t : Nat} {listed : Array Bool}
structure RunsA (P : Program) (C : Ctx) (l : List Oper) (k : List Item) (R : Act → World → Prop) (f : Nat) (listed : Array Bool) (S : St) : Prop where
  run : ∀ a w, Sim C S a w → wpAny P .any l.toArray (nrm (Fin P k R)) f listed a w
structure StepA (P : Program) (C : Ctx) (l : List Oper) (k : List Item) (R : Act → World → Prop) (f : Nat) (listed : Array Bool) (i : Nat) (o : Oper) (S : St) : Prop where
  run : ∀ a w, Sim C S a w → o.wp P a w (wpAny P .any l.toArray (nrm (Fin P k R)) f (listed.setIfInBounds i true)) (nrm (Fin P k R))
def StepsA (P : Program) (C : Ctx) (l : List Oper) (k : List Item) (R : Act → World → Prop) (f : Nat) (listed : Array Bool) (S : St) : List (Nat × Oper) → Prop
  | [] => True
  | p :: L => StepA P C l k R f listed p.1 p.2 S ∧ StepsA P C l k R f listed S L
theorem StepsA.at_ {S : St} : ∀ {L : List (Nat × Oper)}, StepsA P C l k R f listed S L → ∀ p ∈ L, StepA P C l k R f listed p.1 p.2 S
  | [], _, p, h => by simp at h
  | q :: L, hL, p, h => by
    rcases List.mem_cons.1 h with rfl | h
    · exact hL.1
    · exact StepsA.at_ hL.2 p h
theorem mem_pickA {l : List Oper} {i : Nat} {o : Oper} (ho : l[i]? = some o) : ∀ {L : List Nat}, i ∈ L → (i, o) ∈ pick l L
  | [], h => by cases h
  | j :: L, h => by
    rcases List.mem_cons.1 h with rfl | h
    · simp [pick, ho]
    · unfold pick
      cases l[j]? with
      | none => exact mem_pickA ho h
      | some o' => exact List.mem_cons.2 (.inr (mem_pickA ho h))
theorem wpOp_atA {ops : Array Oper} {Q : Exit → Act → World → Prop} {K : Act → World → Prop} {i : Nat} {o : Oper} {a : Act} {w : World} (hi : ops[i]? = some o) (hg : o.guard = none) (h : o.wp P a w K Q) : wpOp P ops Q i K a w := by
  unfold wpOp
  simp only [hi]
  rw [if_pos (by simp [Region.wanted, hg])]
  exact .inl h
theorem RunsA.node {S : St} (L : List Nat) (hL : Region.ready .any l.toArray listed = L) (hne : L.isEmpty = false) (hg : ((pick l L).all fun p => p.2.guard.isNone) = true) (h : StepsA P C l k R f listed S (pick l L)) : RunsA P C l k R (f + 1) listed S := by
  refine ⟨fun a w hs => ⟨fun h0 => ?_, fun i hi => ?_⟩⟩
  · rw [hL] at h0; subst h0; cases hne
  · obtain ⟨_, o, ho, _⟩ := mem_ready.1 hi
    have hl : l[i]? = some o := by simpa using ho
    have hp : (i, o) ∈ pick l L := mem_pickA hl (hL ▸ hi)
    have hgo : o.guard = none := by have := List.all_eq_true.1 hg _ hp; simpa using this
    exact wpOp_atA (by simpa using hl) hgo ((h.at_ _ hp).run a w hs)
theorem StepA.pur {o : Oper} {v : AV} (h : Pur P C o env σ v) (hd : o.dst = some t) (ht : t < C.n) (hk : RunsA P C l k R f (listed.setIfInBounds i true) ⟨(t, v) :: env, σ⟩) : StepA P C l k R f listed i o ⟨env, σ⟩ := by
  refine ⟨fun a w ⟨h1, h2, φ, h3, h4⟩ => ?_⟩
  refine h.run a ⟨w, φ, σ, C.ok⟩ h3 rfl (fun x _ => ev_rel h4 x) _ _ fun u w' hb hv => ?_
  obtain ⟨g1, g2⟩ := good_below h3 hb
  rw [hd]
  exact hk.run _ _ ⟨h1, by simp [Act.put, h2], φ, g1, (h4.keeps g2).put (by rw [h2]; exact ht) hv⟩
theorem StepA.callN {ty : TypeId} {pos : String} {after : Array Edge} {fi : FuncId} {fn : Func} {xs : Array Operand} {ats : Array TypeId} {args : List RV} {ov : OV} [hfn : FN P fi fn] (hf : ACo P fi args ov) (ha : LendsTL C σ (xs.toList.map (ev env)) args) (ht : t < C.n)
    (hk : ∀ (C' : Ctx) (u : Value) (bs : List Nat), Nx C C' [] → Gh C' ov u bs → bs.Nodup → (∀ b ∈ bs, C.w0.heap.size ≤ b) → RunsA P C' l k R f (listed.setIfInBounds i true) ⟨(t, .ro (constRV u)) :: env, σ⟩) :
    StepA P C l k R f listed i ⟨some t, .call { callee := .value (.func fi), args := xs, argTypes := ats }, ty, pos, after, none⟩ ⟨env, σ⟩ := by
  refine ⟨fun a w ⟨s1, s2, φ, hG, hH⟩ => ?_⟩
  have hr := LendsTL.rels hG rfl ha _ (rels_eval (a := a) (m := ⟨w, φ, σ, C.ok⟩) xs.toList fun x hx => ev_rel hH x)
  unfold Oper.wp
  rw [execOp_call_go, run_call hfn]
  simp only [Oper.upon]
  refine (hf w _ (by simpa using hr)).mono ?_
  rintro e w' ⟨u, bs, rfl, h1, h2, h3, h4⟩
  let C' : Ctx := ⟨w', fun b => C.ok b ∧ b ∉ bs, mine φ σ.length, C.n⟩
  have hmine : ∀ b, C'.mu b → C.mu b ∨ C.w0.heap.size ≤ b := fun b ⟨i, hi, hb⟩ => hG.mine i b hi hb
  have hNx : Nx C C' [] := ⟨rfl, h4.os.trans hG.frm.os, h4.tape.trans hG.frm.tape, h4.output.trans hG.frm.output, Nat.le_trans hG.frm.size h4.size, fun b hb hm _ => (h4.block b (Nat.lt_of_lt_of_le hb hG.frm.size)).trans (hG.frm.block b hb hm), hmine, fun b hb => hb.1⟩
  have hlt : ∀ (i g : Nat), i < σ.length → φ i = some g → g < w.heap.size := fun i g hi hg => hG.lt hi hg
  have hGh : Gh C' ov u bs := ⟨h1, fun b hb => ⟨(h3 b hb).2, fun ⟨i, hi, hg⟩ => by have := hlt i b hi hg; have := (h3 b hb).1; omega, fun ho => ho.2 hb⟩⟩
  have hK : Keeps (fun _ => True) ⟨w, φ, σ, C.ok⟩ ⟨w', φ, σ, C'.ok⟩ := by
    refine ⟨⟨h4.size, fun b hb ho => ⟨⟨⟨ho.1, fun hm => by have := (h3 b hm).1; simp only at hb; omega⟩, ho.2⟩, h4.block b hb⟩⟩, fun i _ hi => ⟨hi, rfl⟩, fun i ob _ hi => ⟨ob.cs, hi, rfl⟩, fun i g us t _ hi hg hh => ⟨us, (h4.block g (Array.getElem?_eq_some_iff.1 hh).1).trans hh, rfl⟩⟩
  have hG' : Good C' ⟨w', φ, σ, C'.ok⟩ := by
    refine ⟨rfl, hG.inj, fun i o hi => (hG.ob i o hi).keeps hK fun g hg => h4.block g (hlt i g (List.getElem?_eq_some_iff.1 hi).1 hg), fun i g hi hg => .inl ⟨i, hi, hg⟩, ⟨rfl, rfl, rfl, Nat.le_refl _, fun _ _ _ => rfl, fun b hb => ⟨hG.frm.new b (Nat.le_trans hG.frm.size (Nat.le_trans h4.size hb)), fun hm => by have := (h3 b hm).2; have hb' : w'.heap.size ≤ b := hb; omega⟩⟩⟩
  refine ((hk C' u bs hNx hGh h2 fun b hb => Nat.le_trans hG.frm.size (h3 b hb).1).run _ _ ⟨s1, by simp [Act.put, s2]; rfl, φ, hG', (hH.keeps hK).put (by rw [s2]; exact ht) ?_⟩)
  simp only [AV.rel]
  exact rel_constRV u
theorem RunsA.seq {S : St} (n : Nat) (hf : (l.drop n).length = f) (hs : Region.seqB .any l.toArray f n listed = true) (h : RunsL P C l.toArray (l.drop n) k R S) : RunsA P C l k R f listed S := by
  subst hf
  exact ⟨fun a w hS => wpAny_of_seq (md := .any) (Q' := nrm (Fin P k R)) (l.drop n) n listed a w (fun j => by simp [List.getElem?_drop]) hs (h.run a w hS)⟩
theorem RunsL.keep {ops : Array Oper} {rest : List Oper} (env' : Env) (h : Sub env' env) (hk : RunsL P C ops rest k R ⟨env', σ⟩) : RunsL P C ops rest k R ⟨env, σ⟩ :=
  ⟨fun a w ⟨h1, h2, φ, h3, h4⟩ => hk.run a w ⟨h1, h2, φ, h3, fun s => by
    rcases h.look s with e | e
    · show AV.rel _ (Proofs.Ytnecoghfhcimeaa.look env' s) _
      rw [e]; simp [AV.rel]
    · show AV.rel _ (Proofs.Ytnecoghfhcimeaa.look env' s) _
      rw [e]; exact h4 s⟩⟩
theorem Runs.toTree {id : Nat} {k' : List Item} (m : Nat) (hf : P.follows .mixedOrders = true) (hc : Proofs.Ytnecoghfhcimeaa.ctls m k = .code (.region id l.toArray true) :: k') (h : RunsA P C l k' R l.length (Array.replicate l.length false) ⟨env, σ⟩) : Runs P C k R ⟨env, σ⟩ :=
  Runs.ctls m hc ⟨fun a w hs' => Fin.of_wp (wp_region_any hf (by
    obtain ⟨s1, s2, φ, hG, hE⟩ := hs'
    have hb : Below w.heap.size w { w with drawn := w.drawn + 1 } := ⟨rfl, rfl, rfl, Nat.le_refl _, fun _ _ => rfl⟩
    obtain ⟨g1, g2⟩ := good_below hG hb
    have := h.run a { w with drawn := w.drawn + 1 } ⟨s1, s2, φ, g1, hE.keeps g2⟩
    simpa using this))⟩
theorem endsO_3 {p ty i0 i1 i2 : Nat} {fn : Func} {S : St} {o : Ob} {v : Value} {e1 e2 : TypeId} {s1 s2 : Nat} {us1 us2 : List Value} {ovs : List OV} {bs : List Nat} [ht : TN P ty 3] (hsc : Sc C0 C) (hr : fn.results = #[.cell p ty]) (h1 : look S.env p = .obj i0 0) (h2 : S.σ[i0]? = some o) (h3 : o.cs = [.ro (.c v), .own i1, .own i2])
    (h4 : S.σ[i1]? = some ⟨e1, s1, us1.map fun u => .ro (.c u)⟩) (h5 : S.σ[i2]? = some ⟨e2, s2, us2.map fun u => .ro (.c u)⟩) (hne : i1 ≠ i2)
    (hov : OV.rels C.w0 ovs us2 bs) (hfix : ∀ b ∈ bs, b < C.w0.heap.size ∧ ¬ C.mu b) (hnd : bs.Nodup) (hnew : ∀ b ∈ bs, C0.w0.heap.size ≤ b) : ∀ a w, Sim C S a w → EndsO P C0 fn (.agg [.c v, .row e1 s1 (us1.map .c), .row e2 s2 ovs]) a w := by
  rintro a w ⟨q1, q2, φ, hG, hH⟩
  have hcs : o.cs.length = 3 := by rw [h3]; rfl
  obtain ⟨u, k1, k2⟩ := resV_run (P := P) (x := .cell p ty) (v := .agg ((o.cs.drop 0).take 3)) hG hH (by simp only [ResV]; exact ⟨i0, 0, o, h1, h2, .inr ⟨3, ht, by omega, rfl⟩⟩)
  rw [List.drop_zero, List.take_of_length_le (by omega), h3] at k2
  rw [AV.rel] at k2
  obtain ⟨vs, rfl, hvs⟩ := k2
  simp only [AV.rels] at hvs
  obtain ⟨x0, r0, e0, g0, x1, r1, e1', g1, x2, r2, e2', g2, e3'⟩ := hvs
  have g0 : x0 = v := by simpa only [AV.rel, RV.rel] using g0
  subst g0; subst e1'; subst e2'; subst e3'
  have h4' : (⟨w, φ, S.σ, C.ok⟩ : Mem).σ[i1]? = some ⟨e1, s1, (us1.map RV.c).map .ro⟩ := by rw [List.map_map]; exact h4
  have h5' : (⟨w, φ, S.σ, C.ok⟩ : Mem).σ[i2]? = some ⟨e2, s2, (us2.map RV.c).map .ro⟩ := by rw [List.map_map]; exact h5
  obtain ⟨n1, xs1, a1, a2, a3, a4, a5, a6⟩ := row_own (cs := us1.map .c) hG h4' g1
  obtain ⟨n2, xs2, b1, b2, b3, b4, b5, b6⟩ := row_own (cs := us2.map .c) hG h5' g2
  have z1 := agg_flat (m := ⟨w, φ, S.σ, C.ok⟩) us1 xs1 a3
  have z2 := agg_flat (m := ⟨w, φ, S.σ, C.ok⟩) us2 xs2 b3
  subst z1; subst z2
  have hkeep := OV.rels_keep (w' := w) ovs xs2 bs hov fun b hb => hG.frm.block b (hfix b hb).1 (hfix b hb).2
  have l1 : i1 < S.σ.length := (List.getElem?_eq_some_iff.1 h4).1
  have l2 : i2 < S.σ.length := (List.getElem?_eq_some_iff.1 h5).1
  have hapart : ∀ (i : Nat), i < S.σ.length → ∀ x, φ i = some x → x ∉ bs := fun i hi x hx hb => by
    rcases hG.mine i x hi hx with h | h
    · exact (hfix x hb).2 h
    · have := (hfix x hb).1; omega
  have hown : ∀ (i : Nat), i < S.σ.length → ∀ x, φ i = some x → C0.w0.heap.size ≤ x ∧ x < w.heap.size := fun i hi x hx => by
    refine ⟨?_, hG.lt hi hx⟩
    rcases hG.mine i x hi hx with h | h
    · exact hsc.mu x h
    · exact Nat.le_trans hsc.below.size h
  refine ⟨q1, .agg vs, by rw [results_eq, hr]; simp [k1], x1.ownBlock.toList ++ (x2.ownBlock.toList ++ bs), ?_, ?_, fun b hb => ?_, hsc.end_ hG⟩
  · simp only [OV.rel]
    refine ⟨vs, rfl, ?_⟩
    rw [e0]
    simp only [OV.rels]
    refine ⟨_, _, [], _, rfl, rfl, by simp [OV.rel], _, _, x1.ownBlock.toList, _, rfl, rfl, ?_, _, _, x2.ownBlock.toList ++ bs, [], rfl, by simp, ?_, rfl, rfl⟩
    · simp only [OV.rel]
      exact ⟨n1, xs1, [], by simpa using a1, a2, OV.rels_c xs1, a4, a5, by simp⟩
    · simp only [OV.rel]
      exact ⟨n2, xs2, bs, by rw [← OV.rels_len ovs xs2 bs hov]; simpa using b1, b2, hkeep, b4, b5, rfl⟩
  · rw [a6, b6, List.nodup_append]
    have on : ∀ o : Option Nat, o.toList.Nodup := fun o => by cases o <;> simp
    refine ⟨on _, List.nodup_append.2 ⟨on _, hnd, fun x hx y hy => ?_⟩, fun x hx y hy => ?_⟩
    · rintro rfl
      exact hapart i2 l2 x (by simpa [Option.mem_toList] using hx) hy
    · rintro rfl
      have hx' : φ i1 = some x := by simpa [Option.mem_toList] using hx
      rcases List.mem_append.1 hy with hy | hy
      · have hy' : φ i2 = some x := by simpa [Option.mem_toList] using hy
        exact hne (hG.inj i1 i2 x l1 l2 hx' hy')
      · exact hapart i1 l1 x hx' hy
  · rw [a6, b6] at hb
    rcases List.mem_append.1 hb with hb | hb
    · exact hown i1 l1 b (by simpa [Option.mem_toList] using hb)
    · rcases List.mem_append.1 hb with hb | hb
      · exact hown i2 l2 b (by simpa [Option.mem_toList] using hb)
      · exact ⟨hnew b hb, Nat.lt_of_lt_of_le (hfix b hb).1 hG.frm.size⟩
end
end Go.Proofs.Ytnecoghfhcimeaa
/- Regions that draw their order, with some operations that look at operands alone and may come late. Over any program. -/
namespace Go.Proofs.Ytnecoghfhcimeaa
set_option linter.unusedSimpArgs false
set_option linter.unusedVariables false
open Go.RowKit
open AV (Mem Keeps)
section
variable {P : Program} {md : Region.Mode} {ops : Array Oper}
def YA (P : Program) (ops : Array Oper) (o : Oper) (v : Value) (a : Act) : Prop := Region.wanted o (yielded ops a.tmps) = true ∧ ∀ w, (execOp a.eval o).run P w = .ok (.value v) w
theorem YA.put {oi oj : Oper} {v u : Value} {a : Act} (hsi : ∀ cs b, oi.op ≠ .select cs b) (h3 : ∀ d, oj.dst = some d → d ∉ oi.looksAt ops) (h : YA P ops oi v a) : YA P ops oi v (a.put oj.dst u) :=
  ⟨by rw [wanted_put oi a oj.dst u h3]; exact h.1, fun w => by rw [execOp_put oi hsi a oj.dst u h3]; exact h.2 w⟩
theorem wpOp_ya {F : Act → World → Prop} {j : Nat} {oi oj : Oper} {v : Value} (hj : ops[j]? = some oj) (hap : oi.apart ops oj = true) (hsi : ∀ cs b, oi.op ≠ .select cs b) (hsj : ∀ cs b, oj.op ≠ .select cs b) {K K' : Act → World → Prop} {a : Act} {w : World} (hy : YA P ops oi v a)
    (h : wpOp P ops (nrm F) j K' (a.put oi.dst v) w) (hK : ∀ a' w', YA P ops oi v a' → K' (a'.put oi.dst v) w' → K a' w') : wpOp P ops (nrm F) j K a w := by
  obtain ⟨h1, h2, h3⟩ := Oper.apart_spec hap
  unfold wpOp at *
  simp only [hj] at *
  rw [wanted_put oj a oi.dst _ h1] at h
  have key : ∀ u w', K' ((a.put oi.dst v).put oj.dst u) w' → K (a.put oj.dst u) w' := fun u w' hk => hK _ _ (hy.put hsi h3) (by rwa [← Act.put_comm a v u h2])
  split
  · rename_i hw
    simp only [hw, if_true] at h
    refine h.imp (fun h => ?_) (fun h => ⟨?_, h.2⟩)
    · unfold Oper.wp at *
      rw [execOp_put oj hsj a oi.dst _ h1] at h
      generalize (execOp a.eval oj).run P w = r at *
      cases r with
      | ok n w' =>
        cases n with
        | value u => exact key u w' h
        | skip => exact key undef w' h
        | enter f args => exact Calls.mono h (fun e w'' he => by cases e <;> first | exact key _ w'' he | exact he | exact he.elim)
        | row r args => exact Rows.mono h fun v w'' he => key v w'' he
        | defer d =>
          simp only [Oper.upon] at h ⊢
          have e : ({ a.put oi.dst v with defers := d :: (a.put oi.dst v).defers } : Act).put oj.dst undef = (({ a with defers := d :: a.defers } : Act).put oj.dst undef).put oi.dst v := by
            have := Act.put_comm ({ a with defers := d :: a.defers } : Act) v undef h2
            rw [← this]
            cases oi.dst <;> rfl
          rw [e] at h
          refine hK _ _ ?_ h
          have hy' : YA P ops oi v ({ a with defers := d :: a.defers } : Act) := hy
          exact hy'.put hsi h3
        | _ => exact h
      | halt x w' => cases x <;> exact h
    · have := h.1
      unfold Oper.asks at this ⊢
      rwa [execOp_put oj hsj a oi.dst _ h1] at this
  · rename_i hw
    simp only [hw] at h
    exact key undef w h
theorem wpAny_ya {F : Act → World → Prop} {i : Nat} {oi : Oper} {v : Value} (hi : ops[i]? = some oi) (hsel : ∀ (j : Nat) (o : Oper) cs b, ops[j]? = some o → o.op ≠ .select cs b) :
    ∀ (fuel : Nat) (listed : Array Bool) (a : Act) (w : World), YA P ops oi v a →
      (∀ j oj, ops[j]? = some oj → j ≠ i → listed.getD j true = false → (∀ e ∈ oj.after, Region.binds md e = true → e.on ≠ i) → oi.apart ops oj = true) →
      i ∈ Region.ready md ops listed →
      wpAny P md ops (nrm F) fuel (listed.setIfInBounds i true) (a.put oi.dst v) w → wpAny P md ops (nrm F) (fuel + 1) listed a w := by
  have own : ∀ {K : Act → World → Prop} {a : Act} {w : World}, YA P ops oi v a → K (a.put oi.dst v) w → wpOp P ops (nrm F) i K a w := by
    intro K a w hy h
    unfold wpOp
    simp only [hi]
    rw [if_pos hy.1]
    refine .inl ?_
    unfold Oper.wp
    rw [hy.2 w]
    exact h
  intro fuel
  induction fuel with
  | zero =>
    intro listed a w hy _ hr H
    refine ⟨fun h => (by rw [h] at hr; cases hr), fun j hj => ?_⟩
    by_cases hji : j = i
    · subst hji; exact own hy H
    · have := ready_mono hj hji
      rw [H.1] at this
      cases this
  | succ fuel ih =>
    intro listed a w hy hfree hr H
    refine ⟨fun h => (by rw [h] at hr; cases hr), fun j hj => ?_⟩
    by_cases hji : j = i
    · subst hji; exact own hy H
    · have h1 := H.2 j (ready_mono hj hji)
      obtain ⟨hjun, oj, hoj, hall⟩ := mem_ready.1 hj
      have hnot : ∀ e ∈ oj.after, Region.binds md e = true → e.on ≠ i := fun e he hb heq => by
        have h1 := hall e he hb
        have h0 := (mem_ready.1 hr).1
        rw [heq, getD_both h0] at h1
        cases h1
      have hfree' : ∀ k ok, ops[k]? = some ok → k ≠ i → (listed.setIfInBounds j true).getD k true = false →
          (∀ e ∈ ok.after, Region.binds md e = true → e.on ≠ i) → oi.apart ops ok = true := fun k ok hk hki hun hno => by
        refine hfree k ok hk hki ?_ hno
        by_cases hjk : j = k
        · subst hjk; exact hjun
        · rw [getD_set_ne true hjk] at hun; exact hun
      refine wpOp_ya hoj (hfree j oj hoj hji hjun hnot) (fun cs b => hsel i oi cs b hi) (fun cs b => hsel j oj cs b hoj) hy h1 fun a' w' hy' h3 => ih (listed.setIfInBounds j true) a' w' hy' hfree' (ready_mono hr (Ne.symm hji)) ?_
      rw [Array.setIfInBounds_comm _ _ hji]
      exact h3
def isMv (o : Oper) : Bool := match o with
  | ⟨some _, .move _, _, _, _, none⟩ => true
  | ⟨some _, .extract _ _, _, _, _, none⟩ => true
  | _ => false
theorem isMv_ya {o : Oper} (h : isMv o = true) (a : Act) : (∃ u, YA P ops o u a) ∨ ∀ w x w', (execOp a.eval o).run P w ≠ .ok x w' ∧ ∀ v, (execOp a.eval o).run P w ≠ .halt (.panic v) w' := by
  obtain ⟨dst, op, ty, pos, after, g⟩ := o
  unfold isMv at h
  split at h
  · rename_i he; injection he with e1 e2 e3 e4 e5 e6; subst e1; subst e2; subst e6
    exact .inl ⟨_, by simp [Region.wanted], fun w => by simp [execOp]; rfl⟩
  · rename_i t x j _ _ _ he; injection he with e1 e2 e3 e4 e5 e6; subst e1; subst e2; subst e6
    cases hx : a.eval x with
    | tuple vs =>
      cases hv : vs[j]? with
      | some u => exact .inl ⟨u, by simp [Region.wanted], fun w => by simp [execOp, Instr.extract, hx, hv]⟩
      | none => exact .inr fun w x w' => by simp [execOp, Instr.extract, hx, hv, stuck]
    | _ => exact .inr fun w x w' => by simp [execOp, Instr.extract, hx, stuck]
  · cases h
end
def backB (md : Region.Mode) (ops : Array Oper) (e : Nat) : Bool := match ops[e]? with
  | some o => o.after.all fun ed => !Region.binds md ed || decide (ed.on < e)
  | none => false
def sinkQ (md : Region.Mode) (ops : Array Oper) (pri : List Nat) (n : Nat) : Bool :=
  (List.range n).all fun i => (pri.contains i && backB md ops i) || (!pri.contains i && (List.range (n + 1)).any fun j => decide (i < j) && (decide (j = n) || !pri.contains j) && Region.waitsFor md ops j i)
def freeAll (md : Region.Mode) (ops : Array Oper) (e : Nat) : Bool := match ops[e]? with
  | some o => isMv o && (List.range ops.size).all fun j => decide (j = e) || Region.waitsFor md ops j e || Region.waitsFor md ops e j || match ops[j]? with
    | some oj => o.apart ops oj
    | none => true
  | none => false
theorem freeAll_spec {md : Region.Mode} {ops : Array Oper} {e : Nat} {oe : Oper} (he : ops[e]? = some oe) (h : freeAll md ops e = true) : isMv oe = true ∧ ∀ j oj, ops[j]? = some oj → j ≠ e → (∀ ed ∈ oj.after, Region.binds md ed = true → ed.on ≠ e) → (∀ ed ∈ oe.after, Region.binds md ed = true → ed.on ≠ j) → oe.apart ops oj = true := by
  unfold freeAll at h
  rw [he] at h
  simp only [Bool.and_eq_true] at h
  refine ⟨h.1, fun j oj hj hje hno hno' => ?_⟩
  have hjl : j < ops.size := (Array.getElem?_eq_some_iff.1 hj).1
  have := List.all_eq_true.1 h.2 j (List.mem_range.2 hjl)
  rw [hj] at this
  simp only [Bool.or_eq_true, decide_eq_true_eq] at this
  rcases this with ((h1 | h1) | h1) | h1
  · exact absurd h1 hje
  · obtain ⟨o', ho', ed, hed, hb, hon⟩ := Region.waitsFor_spec h1
    have : o' = oj := Option.some.inj (ho'.symm.trans hj)
    subst this
    exact absurd hon (hno ed hed hb)
  · obtain ⟨o', ho', ed, hed, hb, hon⟩ := Region.waitsFor_spec h1
    have : o' = oe := Option.some.inj (ho'.symm.trans he)
    subst this
    exact absurd hon (hno' ed hed hb)
  · exact h1
section
variable {P : Program} {C : Ctx} {ops : Array Oper} {σ : List Ob} {md : Region.Mode} {rs : Res} {pri : List Nat}
theorem notready {listed : Array Bool} {e : Nat} {o : Oper} (he : ops[e]? = some o) (hun : listed.getD e true = false) (h : e ∉ Region.ready md ops listed) : ∃ ed ∈ o.after, Region.binds md ed = true ∧ listed.getD ed.on false = false := by
  apply Classical.byContradiction
  intro hno
  refine h (mem_ready.2 ⟨hun, o, he, fun ed hed hb => ?_⟩)
  cases hl : listed.getD ed.on false with
  | true => rfl
  | false => exact absurd ⟨ed, hed, hb, hl⟩ hno
theorem unlisted_plain {n : Nat} {listed : Array Bool} (hs : sinkQ md ops pri n = true) (hn : n < ops.size) (hsz : listed.size = ops.size) (hno : ∀ e ∈ pri, e ∉ Region.ready md ops listed) :
    ∀ i, i < n → listed.getD i true = false → ∃ i', i' < n ∧ listed.getD i' true = false ∧ pri.contains i' = false := by
  intro i
  induction i using Nat.strongRecOn with
  | _ i ih =>
    intro hi hun
    have h1 := List.all_eq_true.1 hs i (List.mem_range.2 hi)
    rw [Bool.or_eq_true, Bool.and_eq_true, Bool.and_eq_true, Bool.not_eq_true'] at h1
    rcases h1 with ⟨hp, hb⟩ | ⟨hp, _⟩
    · have hmem : i ∈ pri := by simpa using hp
      obtain ⟨o, ho⟩ : ∃ o, ops[i]? = some o := ⟨_, Array.getElem?_eq_getElem (by omega)⟩
      obtain ⟨ed, hed, hbi, hl⟩ := notready ho hun (hno i hmem)
      unfold backB at hb
      rw [ho] at hb
      have := Array.all_eq_true'.1 hb ed hed
      rw [hbi] at this
      simp only [Bool.not_true, Bool.false_or, decide_eq_true_eq] at this
      exact ih ed.on this (by omega) (getD_in (by rw [hsz]; omega) hl)
    · exact ⟨i, hi, hun, hp⟩
theorem tail_waitsQ {n : Nat} {listed : Array Bool} (hs : sinkQ md ops pri n = true) (hc : Region.chainB md ops n = true) (hn : n < ops.size) (inv : HeadInv md ops n listed) (hno : ∀ e ∈ pri, e ∉ Region.ready md ops listed) {i : Nat} (hi : i < n) (hun : listed.getD i true = false) :
    ∀ t, n ≤ t → t ∉ Region.ready md ops listed := by
  obtain ⟨i0, hi0, hun0, hp0⟩ := unlisted_plain hs hn inv.size hno i hi hun
  have key : ∀ (d i : Nat), n - i = d → i < n → listed.getD i true = false → pri.contains i = false → n ∉ Region.ready md ops listed := by
    intro d
    induction d using Nat.strongRecOn with
    | _ d ih =>
      intro i hd hi hun hp hr
      obtain ⟨_, ot, hot, hall⟩ := mem_ready.1 hr
      have h1 := List.all_eq_true.1 hs i (List.mem_range.2 hi)
      rw [hp] at h1
      simp only [Bool.false_and, Bool.false_or, Bool.not_false, Bool.true_and] at h1
      obtain ⟨j, hj, hj2⟩ := List.any_eq_true.1 h1
      simp only [Bool.and_eq_true, Bool.or_eq_true, decide_eq_true_eq, Bool.not_eq_true'] at hj2
      obtain ⟨⟨hij, hjp⟩, hw⟩ := hj2
      obtain ⟨oj, hoj, e, he, hb, hon⟩ := Region.waitsFor_spec hw
      have hjle : j ≤ n := by have := List.mem_range.1 hj; omega
      by_cases hjt : j = n
      · subst hjt
        have : oj = ot := Option.some.inj (hoj.symm.trans hot)
        subst this
        have h2 := hall e he hb
        rw [hon, getD_both hun] at h2
        cases h2
      · have hjp' : pri.contains j = false := hjp.resolve_left hjt
        cases hl : listed.getD j false with
        | true =>
          have h2 := inv.closed j oj hoj hl e he hb
          rw [hon, getD_both hun] at h2
          cases h2
        | false =>
          have hjs : j < listed.size := by rw [inv.size]; omega
          exact ih (n - j) (by omega) j rfl (by omega) (getD_in hjs hl) hjp' hr
  intro t ht hr
  obtain ⟨_, ot, hot, hall⟩ := mem_ready.1 hr
  have htlt : t < ops.size := (Array.getElem?_eq_some_iff.1 hot).1
  by_cases htn : t = n
  · subst htn; exact key _ i0 rfl hi0 hun0 hp0 hr
  · have h1 := List.all_eq_true.1 hc t (List.mem_range.2 htlt)
    simp only [Bool.or_eq_true, decide_eq_true_eq] at h1
    rcases h1 with h1 | h1
    · omega
    · obtain ⟨o', ho', e, he, hb, hon⟩ := Region.waitsFor_spec h1
      have : o' = ot := Option.some.inj (ho'.symm.trans hot)
      subst this
      have h2 := hall e he hb
      rw [hon, getD_both (inv.tail (t - 1) (by omega) (by omega))] at h2
      cases h2
theorem not_waits {listed : Array Bool} {i j : Nat} {oj : Oper} (hi : i ∈ Region.ready md ops listed) (hj : j ∈ Region.ready md ops listed) (hoj : ops[j]? = some oj) : ∀ e ∈ oj.after, Region.binds md e = true → e.on ≠ i := fun e he hb heq => by
  obtain ⟨_, o', ho', hall⟩ := mem_ready.1 hj
  have : o' = oj := Option.some.inj (ho'.symm.trans hoj)
  subst this
  have h1 := hall e he hb
  rw [heq, getD_both (mem_ready.1 hi).1] at h1
  cases h1
variable {listed : Array Bool} {E : EE} {a : Act} {w : World}
theorem SimR.mv {i : Nat} {o : Oper} {v : AV} (hs : SimR C σ rs listed E a w) (ho : ops[i]? = some o) (hd : ∀ t, o.dst = some t → t < C.n) (hm : isMv o = true)
    (hy : YF P C ops σ rs i o v E) : ∃ u, YA P ops o u a ∧ SimR C σ rs (listed.setIfInBounds i true) (putE E o.dst v) (a.put o.dst u) w := by
  obtain ⟨s1, s2, φ, hG, hφ, hE⟩ := hs
  obtain ⟨dst, op, ty, pos, after, g⟩ := o
  obtain ⟨t, rfl, rfl⟩ : ∃ t, dst = some t ∧ g = none := by
    unfold isMv at hm
    split at hm
    · rename_i he; injection he with e1 e2 e3 e4 e5 e6; exact ⟨_, e1, e6⟩
    · rename_i he; injection he with e1 e2 e3 e4 e5 e6; exact ⟨_, e1, e6⟩
    · cases hm
  have htn := hd t rfl
  rcases hy with ⟨h0, ⟨hg, hv⟩ | ⟨hg, _⟩⟩ | ⟨p, e, zs, hp, hop, _⟩
  · have hwp := hv (res rs listed) a ⟨w, φ, σ ++ res rs listed, C.ok⟩ hG rfl (fun x _ => ev_evE' hE x) (fun a' w' => ∃ u, a' = a.put (some t) u ∧ AV.rel ⟨w', φ, σ ++ res rs listed, C.ok⟩ v u) (fun _ _ _ => False) fun u w' hb hu => ⟨u, rfl, hu⟩
    rcases isMv_ya (P := P) (ops := ops) hm a with ⟨u, hya⟩ | hno
    · refine ⟨u, hya, ?_⟩
      unfold Oper.wp at hwp
      rw [hya.2 w] at hwp
      simp only [Oper.upon] at hwp
      obtain ⟨u', he, hu⟩ := hwp
      have hu' : u = u' := by
        have h1 := getD_put a t t u (by rw [s2]; exact htn)
        have h2 := getD_put a t t u' (by rw [s2]; exact htn)
        rw [if_pos rfl] at h1 h2
        rw [← h1, ← h2, he]
      subst hu'
      refine ⟨s1, by simp [Act.put, s2], φ, ?_, fun p r hp hl => hφ p r hp ?_, fun s => ?_⟩
      · rw [res_same h0]; exact hG
      · rwa [getD_set_ne false (Ne.symm (h0 r (List.mem_of_getElem? hp)))] at hl
      · rw [res_same h0, getD_put a t s u (by rw [s2]; exact htn)]
        simp only [putE]
        split
        · exact hu
        · exact hE s
    · exfalso
      unfold Oper.wp at hwp
      cases hr : (execOp a.eval (⟨some t, op, ty, pos, after, none⟩ : Oper)).run P w with
      | ok x w' => exact (hno w x w').1 hr
      | halt q w' =>
        rw [hr] at hwp
        cases q <;> first | exact hwp | exact (hno w .skip w').2 _ hr
  · simp [gsayE] at hg
  · exfalso
    simp only at hop
    subst hop
    simp [isMv] at hm
end
def drawQB (l : List Oper) (pri head : List Nat) (n : Nat) : Bool :=
  Region.noSelect l.toArray && decide (n < l.length) && sinkQ .any l.toArray pri n && Region.chainB .any l.toArray n && decide ((pick l head).length = n) && (pri.all fun e => decide (e < n) && freeAll .any l.toArray e) &&
  lexIdx .any l.toArray (l.length - n) n ((pick l head).map (·.1)) (Array.replicate l.length false)
section
variable {P : Program} {C : Ctx} {k : List Item} {R : Act → World → Prop} {env : Env} {σ : List Ob}
end
end Go.Proofs.Ytnecoghfhcimeaa
