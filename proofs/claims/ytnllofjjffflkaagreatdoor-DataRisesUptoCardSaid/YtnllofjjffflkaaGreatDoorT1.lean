/- The stop of a reading: what must does with true and with false; for every world. -/
import Derived.Test.YtnllofjjffflkaaGreatDoorProg
import Derived.WalkKit
import Derived.WalkSpells
import Derived.WalkLawsBesides
import Derived.Lib.Hide
set_option linter.unusedSimpArgs false
set_option linter.unusedVariables false
namespace Go.Proofs.YtnllofjjffflkaaGreatDoor
open Go.RowKit
def stopChain : List PanicEntry := [{ v := .iface 186 (.agg #[]), recovered := false }]

theorem must_true (p : Value) (w : World) : Calls Tryz.prog 77 #[p, .bool true] w fun e w' => e = .returned (.tuple #[]) ∧ w = w' := by
  go_enter Tryz.func77, Tryz.ntmps77
  go_wp2
  go_end0
  exact ⟨rfl, rfl⟩
theorem must_false (p : Value) (w : World) : Calls Tryz.prog 77 #[p, .bool false] w fun e w' => e = .panicked stopChain ∧ w = w' := by
  go_enter Tryz.func77, Tryz.ntmps77
  go_wp2
  exact ⟨rfl, rfl, rfl⟩
end Go.Proofs.YtnllofjjffflkaaGreatDoor
