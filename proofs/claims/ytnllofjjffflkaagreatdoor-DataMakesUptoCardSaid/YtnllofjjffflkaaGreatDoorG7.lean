/- The closed facts of the row of DataMakes. -/
import Derived.Test.YtnllofjjffflkaaGreatDoorG4
import Derived.Test.YtnllofjjffflkaaGreatDoorCards
set_option linter.unusedSimpArgs false
set_option linter.unusedVariables false
namespace Go.Proofs.YtnllofjjffflkaaGreatDoor
open Go Gp Go.ChangeShapes Go.WideShapes Go.ChangeAt Go.RowKit
theorem makes_facts : joinedFacts Tryz.prog 5 Tryz.f5 (Rows.OpenSpec.upto Rows.dataMakesSpec).bare Rows.dataMakesUptoRow = true := by kernel_rfl
theorem makes_named : Tryz.prog.funcNamed Rows.dataMakesUptoRow.func = some 5 := by kernel_rfl
theorem makes_inst : Tryz.f5.isInstance Tryz.prog Rows.dataMakesUptoRow.origin Rows.dataMakesUptoRow.targs := of_decide_eq_true (by kernel_rfl)
theorem makes_wrap : Tryz.f5.isWrapper Tryz.prog Rows.dataMakesUptoRow.wrapper Rows.dataMakesUptoRow.mainSum := by
  unfold Func.isWrapper; rw [if_neg (of_decide_eq_false (by kernel_rfl))]; exact ⟨rfl, rfl⟩
end Go.Proofs.YtnllofjjffflkaaGreatDoor
