/- What the listed variables give a call, and a world that has them. -/
import Derived.Test.YtnllofjjffflkaaGreatDoorG1
import Derived.Test.YtnllofjjffflkaaGreatDoorG3
import Derived.Test.YtnllofjjffflkaaGreatDoorTie
import Derived.Deep.DeepWitnessRowRef
import Derived.Deep.DeepLaidRun
import Derived.Stop.LaidErr
import Derived.LaidMore
import Derived.LaidHandle
import Derived.JoinedCond
set_option linter.unusedSimpArgs false
set_option linter.unusedVariables false
namespace Go.Proofs.YtnllofjjffflkaaGreatDoor
open Go Go.RowKit Gp Go.ChangeShapes Go.WideShapes Go.ChangeAt
theorem own : ownKnob Tryz.prog.godebug = none := by kernel_rfl
/-- What the rows list. -/
abbrev theLaid : List (String × DataW Unit) := [("math/bits.deBruijn32tab", Rows.laid_math_bits_deBruijn32tab), ("math/bits.deBruijn64tab", Rows.laid_math_bits_deBruijn64tab), ("internal/strconv.uint64pow10", Rows.laid_internal_strconv_uint64pow10), ("unicode/utf8.acceptRanges", Rows.laid_unicode_utf8_acceptRanges), ("strconv.ErrRange", Rows.laid_strconv_ErrRange), ("strconv.ErrSyntax", Rows.laid_strconv_ErrSyntax), ("unicode/utf8.first", Rows.laid_unicode_utf8_first)]
theorem g7 : Tryz.prog.globalNamed "math/bits.deBruijn64tab" = some 7 := by kernel_rfl
theorem g3Type : (Tryz.prog.globals[3]?).map (·.type) = some 257 := by kernel_rfl
theorem g0Type : (Tryz.prog.globals[0]?).map (·.type) = some 152 := by kernel_rfl
theorem g1Type : (Tryz.prog.globals[1]?).map (·.type) = some 152 := by kernel_rfl
theorem g7Type : (Tryz.prog.globals[7]?).map (·.type) = some 268 := by kernel_rfl
theorem cells257 : Tryz.prog.cellsOf 257 = 20 := by kernel_rfl
theorem cells268 : Tryz.prog.cellsOf 268 = 64 := by kernel_rfl
theorem cells5 : Tryz.prog.cellsOf 5 = 1 := by kernel_rfl
theorem cells174 : Tryz.prog.cellsOf 174 = 1 := by kernel_rfl
theorem cells255 : Tryz.prog.cellsOf 255 = 1 := by kernel_rfl
theorem cells9 : Tryz.prog.cellsOf 9 = 1 := by kernel_rfl
theorem starE : "*" ++ "errors.errorString" = "*errors.errorString" := by decide
theorem row253 (u : TypeId) (h : Tryz.prog.typeName? 3 u = some "*errors.errorString") : u = 253 :=
  typeName_ptr_named (nm := "errors.errorString") (by rw [starE]; kernel_rfl) (by kernel_rfl) (by decide) u (by rw [starE]; exact h)
/-- What the world of a call lays. -/
theorem env_of {W : World} (hL : laidMetH Tryz.prog theLaid W) (hsh : W.ShapedOpen Tryz.prog) : Env W := by
  rw [MakeChecks.laidMetH_plain _ _ _ (by kernel_rfl)] at hL
  have h7 : Lib.TabIs Tryz.prog W "math/bits.deBruijn64tab" .u8 _ := Lib.tabIs_of_head (zs := [0, 1, 56, 2, 57, 49, 28, 3, 61, 58, 42, 50, 38, 29, 17, 4, 62, 47, 59, 36, 45, 43, 51, 22, 53, 39, 33, 30, 24, 18, 12, 5, 63, 55, 48, 27, 60, 41, 37, 16, 46, 35, 44, 21, 52, 32, 23, 11, 54, 26, 40, 15, 34, 20, 31, 10, 25, 14, 19, 9, 13, 8, 7, 6]) g7 g7Type Tryz.underlying268 Tryz.underlying5 cells5 cells268 hL.tail
  have c7 := h7.cell g7 0 (by decide)
  refine ⟨?_, ?_, ?_, ?_, ?_⟩
  · have : 7 < W.heap.size := by
      rcases Nat.lt_or_ge 7 W.heap.size with h | h
      · exact h
      · simp [World.cell?, Array.getElem?_eq_none h] at c7
    omega
  · exact Go.Proofs.cell_of_shapedOpen_int (zero := #[.int .i64 0]) (t := 3) hsh (of_decide_eq_true (by kernel_rfl)) (by kernel_rfl) rfl (by kernel_rfl) (by kernel_rfl) Tryz.underlying3
  · exact Lib.tabIs_of_head g3 g3Type Tryz.underlying257 Tryz.underlying174 cells174 cells257 hL.tail.tail
  · obtain ⟨a, s, hv, _⟩ := laid_sentinel hL.tail.tail.tail.tail.tail g0 g0Type Tryz.underlying152 row253 Tryz.underlying253 Tryz.underlying255 rfl rfl Tryz.underlying9 cells255 cells9
    exact ⟨_, _, hv⟩
  · obtain ⟨a, s, hv, _⟩ := laid_sentinel hL.tail.tail.tail.tail g1 g1Type Tryz.underlying152 row253 Tryz.underlying253 Tryz.underlying255 rfl rfl Tryz.underlying9 cells255 cells9
    exact ⟨_, _, hv⟩
/-- The cells of a pinned table. -/
def tabVals : DataW Unit → Array Value
  | .agg l => (l.map fun | .lit (.int k n) => Value.int k n | _ => Value.nilIface).toArray
  | _ => #[]
/-- A world for the witness: what the door's own run leaves, and the pinned table. -/
noncomputable def witWorld (os : Os) : World :=
  { World.doorLaid Tryz.prog 72 os with heap := (World.doorLaid Tryz.prog 72 os).heap.modify 4 fun
      | .cells _ t frozen => .cells (tabVals Go.Pinned.utf8First) t frozen
      | o => o }
def witSoa : Value := .agg #[.string ⟨#[]⟩, .string ⟨#[]⟩, .int .i64 0, .int .i64 0, .int .i64 0, .int .i64 0, .int .i64 0]
def witSig : Value := .agg #[.int .i64 0, .int .i64 0, .int .i64 0, .int .i64 0, .int .i64 0, .int .i64 0, .int .i64 0, .string ⟨#[]⟩, .string ⟨#[]⟩]
def witKey : Value := .agg #[.int .i64 0, .int .i64 0, .int .i64 0, .string ⟨#[]⟩]
set_option maxRecDepth 100000 in
theorem wit_met (os : Os) (args : Array Value) : laidMetH Tryz.prog theLaid ((witWorld os).forCall (fun _ _ => 0) ⟨#[], args, []⟩).memory := by
  rw [MakeChecks.laidMetH_plain _ _ _ (by kernel_rfl)]
  exact laidMet_of_run3 8 (by kernel_rfl) (by kernel_rfl) (by kernel_rfl)
end Go.Proofs.YtnllofjjffflkaaGreatDoor
