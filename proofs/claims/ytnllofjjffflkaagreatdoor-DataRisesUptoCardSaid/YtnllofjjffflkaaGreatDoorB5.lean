/- The closed facts of the row of DataRises. -/
import Derived.Test.YtnllofjjffflkaaGreatDoorG4
import Derived.Test.YtnllofjjffflkaaGreatDoorCards
set_option linter.unusedSimpArgs false
set_option linter.unusedVariables false
namespace Go.Proofs.YtnllofjjffflkaaGreatDoor
open Go Gp Go.ChangeShapes Go.WideShapes Go.ChangeAt Go.RowKit
theorem rises_facts : joinedFacts Tryz.prog 9 Tryz.f9 (Rows.OpenSpec.upto Rows.dataRisesSpec).bare Rows.dataRisesUptoRow = true := by kernel_rfl
theorem rises_named : Tryz.prog.funcNamed Rows.dataRisesUptoRow.func = some 9 := by kernel_rfl
theorem rises_inst : Tryz.f9.isInstance Tryz.prog Rows.dataRisesUptoRow.origin Rows.dataRisesUptoRow.targs := of_decide_eq_true (by kernel_rfl)
theorem rises_wrap : Tryz.f9.isWrapper Tryz.prog Rows.dataRisesUptoRow.wrapper Rows.dataRisesUptoRow.mainSum := by
  unfold Func.isWrapper; rw [if_neg (of_decide_eq_false (by kernel_rfl))]; exact ⟨rfl, rfl⟩
end Go.Proofs.YtnllofjjffflkaaGreatDoor
