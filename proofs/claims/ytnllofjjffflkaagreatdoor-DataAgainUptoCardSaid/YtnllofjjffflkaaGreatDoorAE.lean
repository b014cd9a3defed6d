/- The closed facts of the row of DataAgain. -/
import Derived.Test.YtnllofjjffflkaaGreatDoorG4
import Derived.Test.YtnllofjjffflkaaGreatDoorCards
set_option linter.unusedSimpArgs false
set_option linter.unusedVariables false
namespace Go.Proofs.YtnllofjjffflkaaGreatDoor
open Go Gp Go.ChangeShapes Go.WideShapes Go.ChangeAt Go.RowKit
theorem again_facts : joinedFacts Tryz.prog 8 Tryz.f8 (Rows.OpenSpec.upto Rows.dataAgainSpec).bare Rows.dataAgainUptoRow = true := by kernel_rfl
theorem again_named : Tryz.prog.funcNamed Rows.dataAgainUptoRow.func = some 8 := by kernel_rfl
theorem again_inst : Tryz.f8.isInstance Tryz.prog Rows.dataAgainUptoRow.origin Rows.dataAgainUptoRow.targs := of_decide_eq_true (by kernel_rfl)
theorem again_wrap : Tryz.f8.isWrapper Tryz.prog Rows.dataAgainUptoRow.wrapper Rows.dataAgainUptoRow.mainSum := by
  unfold Func.isWrapper; rw [if_neg (of_decide_eq_false (by kernel_rfl))]; exact ⟨rfl, rfl⟩
end Go.Proofs.YtnllofjjffflkaaGreatDoor
