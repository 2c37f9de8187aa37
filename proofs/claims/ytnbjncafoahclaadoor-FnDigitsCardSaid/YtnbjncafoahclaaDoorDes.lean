/- Descriptions over values: the laws' helpers on strings, rules and descriptions; opened arguments. -/
import Derived.Test.YtnbjncafoahclaaDoorByt
import Derived.Test.YtnbjncafoahclaaDoorSum
import Derived.Test.YtnbjncafoahclaaDoorArg
namespace Go.Proofs.YtnbjncafoahclaaDoor
set_option linter.unusedSimpArgs false
set_option linter.unusedVariables false
open Go.RowKit
structure Rul where
  name : ByteArray
  kind : Int
  size : Int
  little : Bool
  bytes : List UInt8
  names : List ByteArray
  tags : List Int
  kids : List Int
abbrev Des := List Rul
def rulR (r : Rul) : List RV := [.str r.name, .int r.kind, .int r.size, .bool r.little, bytesR r.bytes, strsR r.names, intsR r.tags, intsR r.kids]
def rulsR (d : Des) : RV := .seq 8 (d.map rulR)
def desR (d : Des) : RV := .agg [rulsR d]
theorem rulR_len (r : Rul) : (rulR r).length = 8 := rfl
namespace Rul
def total (r : Rul) : Nat := r.name.size + r.bytes.length + (r.names.length + (r.names.map ByteArray.size).sum) + r.tags.length + r.kids.length
structure Ok (r : Rul) : Prop where
  kind : I64 r.kind
  size : I64 r.size
  tags : ∀ z ∈ r.tags, I64 z
  kids : ∀ z ∈ r.kids, I64 z
  lens : r.name.size ≤ maxLen ∧ r.bytes.length ≤ maxLen ∧ r.names.length ≤ maxLen ∧ (∀ s ∈ r.names, s.size ≤ maxLen) ∧ r.tags.length ≤ maxLen ∧ r.kids.length ≤ maxLen ∧ True
end Rul
def dtotal (d : Des) : Nat := d.length + (d.map Rul.total).sum
structure DesOk (d : Des) : Prop where
  rules : ∀ r ∈ d, r.Ok
  len : d.length ≤ maxLen
section
variable {P : Program} {C : Ctx} {env : Env} {σ : List Ob} {t : Nat} {ty : TypeId} {pos : String} {after : Array Edge} {gd : Option (Nat × Bool)}
theorem pu_neqSame {xt yt : TypeId} {x y : Operand} {s : ByteArray} (hx : ev env x = .str s) (hy : ev env y = .str s) : Pur P C ⟨some t, .binOp .neq xt x y yt, ty, pos, after, gd⟩ env σ (.bool false) := by
  have h := pu_neqS (P := P) (C := C) (σ := σ) (t := t) (ty := ty) (pos := pos) (after := after) (gd := gd) (xt := xt) (yt := yt) hx hy
  have e : (!(s.toList == s.toList)) = false := by simp
  rwa [e] at h
end
end Go.Proofs.YtnbjncafoahclaaDoor
