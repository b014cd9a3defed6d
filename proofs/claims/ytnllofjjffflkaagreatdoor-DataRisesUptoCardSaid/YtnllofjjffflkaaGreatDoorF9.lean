/- The six examples, worked out; no program in sight. -/
import Derived.Test.YtnllofjjffflkaaGreatDoorF8
set_option linter.unusedSimpArgs false
set_option linter.unusedVariables false
namespace Go.Proofs.YtnllofjjffflkaaGreatDoor
open Go.RowKit Gp
def exA : ByteArray := ⟨#[49, 57, 50, 46, 48, 46, 50, 46, 49]⟩
def exB : ByteArray := ⟨#[49, 57, 50, 46, 48, 46, 50, 46, 48, 49]⟩
def exC : ByteArray := ⟨#[34, 97, 92, 34, 98, 34, 32, 34, 34]⟩
def exD : ByteArray := ⟨#[84, 89, 80, 69, 55, 48]⟩
def exE : ByteArray := ⟨#[84, 89, 80, 69, 49]⟩
theorem ex1 : readV (read1S exA) (text1V (read1S exA).1) exA = (⟨#[192, 0, 2, 1]⟩, 0) := by kernel_rfl
theorem ex2 : readV (read1S exB) (text1V (read1S exB).1) exB = (⟨#[]⟩, 7) := by kernel_rfl
theorem ex3 : textPV ⟨#[1]⟩ = (⟨#[92, 35, 32, 49, 32, 48, 49]⟩, 0) := by kernel_rfl
theorem ex4 : readV (readTextsS exC) (text16V (readTextsS exC).1) exC = (⟨#[3, 97, 34, 98, 0]⟩, 0) := by kernel_rfl
theorem ex5 : typeOfS exD = (70, 0) := by kernel_rfl
theorem ex6 : typeOfS exE = (0, 7) := by kernel_rfl
end Go.Proofs.YtnllofjjffflkaaGreatDoor
