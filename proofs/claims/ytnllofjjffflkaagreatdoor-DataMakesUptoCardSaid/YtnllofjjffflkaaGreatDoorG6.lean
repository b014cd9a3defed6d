/- The step of the row of DataMakes, for arguments of bulk at most 2^20. -/
import Derived.Test.YtnllofjjffflkaaGreatDoorG5
set_option linter.unusedSimpArgs false
set_option linter.unusedVariables false
namespace Go.Proofs.YtnllofjjffflkaaGreatDoor
open Go Gp Go.ChangeShapes Go.WideShapes Go.ChangeAt Go.RowKit
abbrev witMakes : Array Value := #[.agg #[.string ⟨#[]⟩, .string ⟨#[]⟩, .int .i64 0, .int .i64 0, .int .i64 0, .int .i64 0, .int .i64 0], .agg #[.int .i64 0, .int .i64 0, .int .i64 0, .int .i64 0, .int .i64 0, .int .i64 0, .int .i64 0, .string ⟨#[]⟩, .string ⟨#[]⟩], .agg #[.int .i64 0, .int .i64 0, .int .i64 0, .string ⟨#[]⟩], .agg #[.int .i64 0, .int .i64 0, .int .i64 0, .string ⟨#[]⟩]]
def litS {H : Type} : DataW H := .lit (.string [])
def lit0 {H : Type} : DataW H := .lit (.int .i64 0)
theorem makes_reads (os : Os) {H : Type} (enc : TypeId × Value → H) : ∃ places, DataW.whole enc Tryz.prog ((witWorld os).forCall (fun _ _ => 0) ⟨#[], witMakes, []⟩).memory Tryz.f5.params.toList Rows.dataMakesSpec.vars false witMakes.toList 8 = some ([.agg [litS, litS, lit0, lit0, lit0, lit0, lit0], .agg [lit0, lit0, lit0, lit0, lit0, lit0, lit0, litS, litS], .agg [lit0, lit0, lit0, litS], .agg [lit0, lit0, lit0, litS]], [], places) :=
  ⟨[], by kernel_rfl⟩
set_option maxRecDepth 100000 in
theorem makes_lifted (os : Os) (started : os.Started) (H : Type) (enc : TypeId × Value → H) (F : Stop.Interp) :
    ReturnsInHanded {} Tryz.checked os 5 .any ((Rows.OpenSpec.upto Rows.dataMakesSpec).preRow enc Tryz.prog Tryz.f5 Rows.dataMakesUptoRow.domain false Rows.dataMakesUptoRow.laid) (((Rows.OpenSpec.upto Rows.dataMakesSpec).at F).post enc Tryz.prog Tryz.f5 false true false false) := by
  obtain ⟨places, hx⟩ := makes_reads os enc
  refine returnsInHanded_of_row (C := Tryz.checked) (s := Rows.OpenSpec.upto Rows.dataMakesSpec) own started (by kernel_rfl) Tryz.func5
    (witness_row_atRef (enc := enc) (C := Tryz.checked) false (witWorld os) witMakes rfl (by kernel_rfl) (by kernel_rfl) (by kernel_rfl)
      (OpenSpec.preRow_of_cond 8 hx (by kernel_rfl) (fun k hk => by cases hk; kernel_rfl) (by kernel_rfl) (wit_met os _))) ?_
  intro W base args ds gs before hval hW _ hcond _ hL hsh _
  exact makes_contract H enc W base args ds gs before hval hW (hcond _ rfl) (env_of hL hsh)
end Go.Proofs.YtnllofjjffflkaaGreatDoor
