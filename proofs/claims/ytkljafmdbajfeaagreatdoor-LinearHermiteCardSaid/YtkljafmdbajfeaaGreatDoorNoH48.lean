/- The laid tables of errors, out of a row's condition. -/
import Derived.Lib.LaidTab
import Derived.LaidMore
import Derived.MakeChecks
import Derived.LaidHandle
import Derived.Stop.LaidErr
import Derived.Test.YtkljafmdbajfeaaGreatDoorNoH38
namespace Go.Proofs.YtkljafmdbajfeaaGreatDoor
set_option linter.unusedVariables false
set_option linter.unusedSimpArgs false
section
open Go.RowKit Go.ChangeShapes Go.WideShapes
theorem gCosts:Tryz.prog.globalNamed "tinplate/linear.costs"=some 0:=by kernel_rfl
theorem tCosts:(Tryz.prog.globals[0]?).map (·.type)=some 80:=by kernel_rfl
set_option maxRecDepth 100000 in
theorem costs_of {W:World} {rest:List (String × DataW Unit)} (h:laidMet Tryz.prog (("tinplate/linear.costs",Lib.tabData .i64 [0,10,11]) :: rest) W):TabOk 0 costsO W:=by
 have ht:Lib.TabIs Tryz.prog W "tinplate/linear.costs" .i64 [0,10,11]:=Lib.tabIs_of_head gCosts tCosts Tryz.underlying80 Tryz.underlying30 (by kernel_rfl) (by kernel_rfl) h
 exact ⟨ht.cell gCosts 0 (by decide),ht.cell gCosts 1 (by decide),ht.cell gCosts 2 (by decide)⟩
end
end Go.Proofs.YtkljafmdbajfeaaGreatDoor
