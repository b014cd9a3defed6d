/- The closed facts of the row of DataTakes. -/
import Derived.Test.YtnllofjjffflkaaGreatDoorG4
import Derived.Test.YtnllofjjffflkaaGreatDoorCards
set_option linter.unusedSimpArgs false
set_option linter.unusedVariables false
namespace Go.Proofs.YtnllofjjffflkaaGreatDoor
open Go Gp Go.ChangeShapes Go.WideShapes Go.ChangeAt Go.RowKit
theorem takes_facts : joinedFacts Tryz.prog 4 Tryz.f4 (Rows.OpenSpec.upto Rows.dataTakesSpec).bare Rows.dataTakesUptoRow = true := by kernel_rfl
theorem takes_named : Tryz.prog.funcNamed Rows.dataTakesUptoRow.func = some 4 := by kernel_rfl
theorem takes_inst : Tryz.f4.isInstance Tryz.prog Rows.dataTakesUptoRow.origin Rows.dataTakesUptoRow.targs := of_decide_eq_true (by kernel_rfl)
theorem takes_wrap : Tryz.f4.isWrapper Tryz.prog Rows.dataTakesUptoRow.wrapper Rows.dataTakesUptoRow.mainSum := by
  unfold Func.isWrapper; rw [if_neg (of_decide_eq_false (by kernel_rfl))]; exact ⟨rfl, rfl⟩
end Go.Proofs.YtnllofjjffflkaaGreatDoor
