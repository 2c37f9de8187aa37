/- The laws' own helpers on programs, over values: sizes, copies, comparisons. -/
import Derived.Test.YtcifgbmmnkilfaaIntH
namespace Go.Proofs.Ytcifgbmmnkilfaa
set_option linter.unusedSimpArgs false
set_option linter.unusedVariables false
open Go.RowKit
structure Ins where
  op : Int
  a : Int
  b : Int
structure Prg where
  code : List Ins
  entries : List Int
def insR (i : Ins) : List RV := [.int i.op, .int i.a, .int i.b]
def inssR (l : List Ins) : RV := .seq 3 (l.map insR)
def prgR (p : Prg) : RV := .agg [inssR p.code, intsR p.entries]
theorem insR_len (i : Ins) : (insR i).length = 3 := rfl
end Go.Proofs.Ytcifgbmmnkilfaa
