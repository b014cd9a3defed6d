/- The statement and the card of DataRises, for arguments of bulk at most 2^20. -/
import Derived.Test.YtnllofjjffflkaaGreatDoorB7
import Derived.Test.YtnllofjjffflkaaGreatDoorB5
set_option linter.unusedSimpArgs false
set_option linter.unusedVariables false
namespace Go.Proofs.YtnllofjjffflkaaGreatDoor
open Go Gp Go.ChangeShapes Go.WideShapes Go.ChangeAt Go.RowKit
theorem rises_said : Rows.DataRisesUptoSaid :=
  OpenClaim.holds_of_cond 9 Tryz.f9 rfl rfl rfl rfl rfl rfl rfl ⟨rfl, rfl, rfl, rfl, rfl⟩ rfl rfl rfl rfl rfl rises_named Tryz.func9 rises_facts rises_inst rises_wrap
    (fun os started H enc _ F => by rw [OpenClaim.pre_eq_preRow]; exact rises_lifted os started H enc F)
theorem rises_plain (f : FuncId) (fn : Func) (hf : Tryz.pinned.checked.prog.funcNamed "guidepost/guidepostlaw02.DataRises" = some f) (hfn : Tryz.pinned.checked.prog.funcs[f]? = some fn) :
    true = Tryz.pinned.checked.prog.looks [] ∧ ∀ (j : Nat) t, fn.params[j]? = some t → Tryz.pinned.checked.prog.wantsStandIn t = false := by
  obtain rfl : f = 9 := Option.some.inj ((show Tryz.prog.funcNamed "guidepost/guidepostlaw02.DataRises" = some 9 by kernel_rfl).symm.trans hf) |>.symm
  obtain rfl : fn = Tryz.f9 := (Option.some.inj (Tryz.func9.symm.trans hfn)).symm
  refine ⟨by kernel_rfl, fun j t ht => ?_⟩
  rw [Tryz.params9] at ht
  have hm := Array.mem_of_getElem? ht
  simp only [List.mem_toArray, List.mem_cons, List.not_mem_nil, or_false] at hm
  rcases hm with rfl
  exact (show Tryz.prog.wantsStandIn 53 = false by kernel_rfl)
/-- The card. -/
theorem rises_card : Rows.DataRisesUptoCardSaid :=
  Claim7.holds_tied_plain_at .later [] _ _ _ _ rises_said (fun _ h => by cases h) (by kernel_rfl) (fun _ h => by cases h) dataRisesUpto_row_tie rfl ⟨rfl, rfl⟩ (by kernel_rfl) rfl rises_plain (by kernel_rfl)
end Go.Proofs.YtnllofjjffflkaaGreatDoor
