/- Plain law of numbers put down in bytes: no program in sight. -/
import Derived.Test.YtnllofjjffflkaaGreatDoorP1
set_option linter.unusedSimpArgs false
set_option linter.unusedVariables false
namespace Gp
/-- A byte of a number: the one at 256 ^ k. -/
def byteAt (v : Int) (k : Nat) : UInt8 := UInt8.ofNat ((v / 2 ^ (8 * k)) % 256).toNat
theorem byteAt_val (v : Int) (k : Nat) : ((byteAt v k).toNat : Int) = (v / 2 ^ (8 * k)) % 256 := by
  unfold byteAt
  have h0 : 0 ≤ (v / 2 ^ (8 * k)) % 256 := Int.emod_nonneg _ (by decide)
  have h1 : (v / 2 ^ (8 * k)) % 256 < 256 := Int.emod_lt_of_pos _ (by decide)
  rw [UInt8.toNat_ofNat', Nat.mod_eq_of_lt (by omega)]
  omega
/-- The n bytes of a number. -/
def be (v : Int) : Nat → List UInt8
  | 0 => []
  | n + 1 => byteAt v n :: be v n
theorem be_length (v : Int) : ∀ n, (be v n).length = n
  | 0 => rfl
  | n + 1 => by simp [be, be_length v n]
/-- Is it no number of n bytes? -/
def badNum (v : Int) (n : Nat) : Bool := decide (v < 0) || (v / 2 ^ (8 * n) != 0)
end Gp
