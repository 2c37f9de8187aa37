/- strconv.Itoa as a contract over values; it reads a table of the library. -/
import Derived.Test.YtnbjncafoahclaaDoorTab
import Derived.Test.YtnbjncafoahclaaDoorWld
import Derived.Test.YtnbjncafoahclaaDoorItn
import Derived.Test.YtnbjncafoahclaaDoorShf
import Derived.Test.YtnbjncafoahclaaDoorRows
import Derived.Stop.LaidErr
namespace Go.Proofs.YtnbjncafoahclaaDoor
set_option linter.unusedSimpArgs false
set_option linter.unusedVariables false
open Go.RowKit
open AV (Mem Keeps)
/-- What the seat's rows list. -/
abbrev seatLaid : List (String × DataW Unit) := Rows.fnExactFormatNumberTextRow.laid
abbrev tabName : String := (seatLaid.map (·.1)).getD 2 ""
/-- The table lies in its variable. -/
def TabT (w : World) : Prop := w.var? Tryd.prog tabName = some (Lib.pow10Tab.map fun z => Value.int .u64 z).toArray
theorem tabG : Tryd.prog.globalNamed tabName = some 0 := by kernel_rfl
theorem tabT_lasts : Lasts TabT := lasts_var tabG
theorem tabT_of {W : World} {d : DataW Unit} (hd : d = Lib.tabData .u64 Lib.pow10Tab) (h : laidMet Tryd.prog [(tabName, d)] W) : TabT W := by
  subst hd
  exact Lib.tabIs_of_head tabG (t := 64) (e := 58) (n := 20) (by kernel_rfl) Tryd.underlying64 Tryd.underlying58 (by kernel_rfl) (by kernel_rfl) h
instance : FN Tryd.prog 33 Tryd.f33 := ⟨Tryd.func33, by kernel_rfl, by kernel_rfl⟩
theorem itoa_act (n : Int) (hn : I64 n) : ACtv TabT Tryd.prog 33 [.int n] (.str ⟨(Lib.itoa n).toArray⟩) := by
  intro w ok us hw h0 hu
  obtain ⟨us⟩ := us
  simp only [RV.rels, RV.rel] at hu
  obtain ⟨u, us', rfl, rfl, rfl⟩ := hu
  refine (Any.strconv_Itoa laysM171 n hn.1 hn.2 w hw).mono ?_
  rintro e w' ⟨rfl, k, os, rfl⟩
  refine ⟨_, .ro (.str ⟨(Lib.itoa n).toArray⟩), [], rfl, rfl, by simp [RR.rel, RV.rel], by simp, by simp, ?_⟩
  refine ⟨rfl, rfl, rfl, by simp, fun b hb => ?_⟩
  exact Sort.heap_grow_old (w.drewN k) os hb
end Go.Proofs.YtnbjncafoahclaaDoor
