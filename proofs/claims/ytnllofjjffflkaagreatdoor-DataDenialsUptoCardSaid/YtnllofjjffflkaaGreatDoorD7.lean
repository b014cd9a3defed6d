/- The closed facts of the row of DataDenials. -/
import Derived.Test.YtnllofjjffflkaaGreatDoorG4
import Derived.Test.YtnllofjjffflkaaGreatDoorCards
set_option linter.unusedSimpArgs false
set_option linter.unusedVariables false
namespace Go.Proofs.YtnllofjjffflkaaGreatDoor
open Go Gp Go.ChangeShapes Go.WideShapes Go.ChangeAt Go.RowKit
theorem denials_facts : joinedFacts Tryz.prog 6 Tryz.f6 (Rows.OpenSpec.upto Rows.dataDenialsSpec).bare Rows.dataDenialsUptoRow = true := by kernel_rfl
theorem denials_named : Tryz.prog.funcNamed Rows.dataDenialsUptoRow.func = some 6 := by kernel_rfl
theorem denials_inst : Tryz.f6.isInstance Tryz.prog Rows.dataDenialsUptoRow.origin Rows.dataDenialsUptoRow.targs := of_decide_eq_true (by kernel_rfl)
theorem denials_wrap : Tryz.f6.isWrapper Tryz.prog Rows.dataDenialsUptoRow.wrapper Rows.dataDenialsUptoRow.mainSum := by
  unfold Func.isWrapper; rw [if_neg (of_decide_eq_false (by kernel_rfl))]; exact ⟨rfl, rfl⟩
end Go.Proofs.YtnllofjjffflkaaGreatDoor
