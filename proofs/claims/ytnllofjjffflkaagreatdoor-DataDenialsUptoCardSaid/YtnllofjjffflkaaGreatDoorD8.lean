/- The statement and the card of DataDenials, for arguments of bulk at most 2^20. -/
import Derived.Test.YtnllofjjffflkaaGreatDoorD6
import Derived.Test.YtnllofjjffflkaaGreatDoorD7
set_option linter.unusedSimpArgs false
set_option linter.unusedVariables false
namespace Go.Proofs.YtnllofjjffflkaaGreatDoor
open Go Gp Go.ChangeShapes Go.WideShapes Go.ChangeAt Go.RowKit
theorem denials_said : Rows.DataDenialsUptoSaid :=
  OpenClaim.holds_of_cond 6 Tryz.f6 rfl rfl rfl rfl rfl rfl rfl ⟨rfl, rfl, rfl, rfl, rfl⟩ rfl rfl rfl rfl rfl denials_named Tryz.func6 denials_facts denials_inst denials_wrap
    (fun os started H enc _ F => by rw [OpenClaim.pre_eq_preRow]; exact denials_lifted os started H enc F)
theorem denials_plain (f : FuncId) (fn : Func) (hf : Tryz.pinned.checked.prog.funcNamed "guidepost/guidepostlaw02.DataDenials" = some f) (hfn : Tryz.pinned.checked.prog.funcs[f]? = some fn) :
    true = Tryz.pinned.checked.prog.looks [] ∧ ∀ (j : Nat) t, fn.params[j]? = some t → Tryz.pinned.checked.prog.wantsStandIn t = false := by
  obtain rfl : f = 6 := Option.some.inj ((show Tryz.prog.funcNamed "guidepost/guidepostlaw02.DataDenials" = some 6 by kernel_rfl).symm.trans hf) |>.symm
  obtain rfl : fn = Tryz.f6 := (Option.some.inj (Tryz.func6.symm.trans hfn)).symm
  refine ⟨by kernel_rfl, fun j t ht => ?_⟩
  rw [Tryz.params6] at ht
  have hm := Array.mem_of_getElem? ht
  simp only [List.mem_toArray, List.mem_cons, List.not_mem_nil, or_false] at hm
  rcases hm with rfl | rfl
  · exact (show Tryz.prog.wantsStandIn 55 = false by kernel_rfl)
  · exact (show Tryz.prog.wantsStandIn 61 = false by kernel_rfl)
/-- The card. -/
theorem denials_card : Rows.DataDenialsUptoCardSaid :=
  Claim7.holds_tied_plain_at .later [] _ _ _ _ denials_said (fun _ h => by cases h) (by kernel_rfl) (fun _ h => by cases h) dataDenialsUpto_row_tie rfl ⟨rfl, rfl⟩ (by kernel_rfl) rfl denials_plain (by kernel_rfl)
end Go.Proofs.YtnllofjjffflkaaGreatDoor
