/- Plain law: digits of 4 and 5 bits: no program in sight. -/
import Derived.Test.YtnllofjjffflkaaGreatDoorP4
set_option linter.unusedSimpArgs false
set_option linter.unusedVariables false
namespace Gp
/-- The letters of digits. -/
def letters : List UInt8 := [48, 49, 50, 51, 52, 53, 54, 55, 56, 57, 97, 98, 99, 100, 101, 102, 103, 104, 105, 106, 107, 108, 109, 110, 111, 112, 113, 114, 115, 116, 117, 118]
def letter (n : Nat) : UInt8 := letters.getD n 0
/-- Whole digits of k bits at the head of h bits. -/
def emit (k v : Nat) : Nat → Nat → List UInt8
  | 0, _ => []
  | n + 1, h => if k ≤ h then letter (v / 2 ^ (h - k) % 2 ^ k) :: emit k v n (h - k) else []
/-- What is left of the bits, and their number, and the letters, behind some bytes. -/
def grp (k : Nat) (s : ByteArray) : Nat → Nat × Nat × List UInt8
  | 0 => (0, 0, [])
  | n + 1 => let (h, v, out) := grp k s n; ((h + 8) % k, (v * 256 + bN s n) % 2 ^ ((h + 8) % k), out ++ emit k (v * 256 + bN s n) 8 (h + 8))
def groupedL (k : Nat) (s : ByteArray) : List UInt8 := let (h, v, out) := grp k s s.size; if 0 < h then out ++ [letter (v * 2 ^ (k - h))] else out
theorem grp_succ (k : Nat) (s : ByteArray) (n : Nat) : grp k s (n + 1) = (((grp k s n).1 + 8) % k, ((grp k s n).2.1 * 256 + bN s n) % 2 ^ (((grp k s n).1 + 8) % k), (grp k s n).2.2 ++ emit k ((grp k s n).2.1 * 256 + bN s n) 8 ((grp k s n).1 + 8)) := rfl
theorem grp_h (k : Nat) (hk : 1 ≤ k) (s : ByteArray) : ∀ n, (grp k s n).1 < k
  | 0 => by simp [grp]; omega
  | n + 1 => by rw [grp_succ]; exact Nat.mod_lt _ (by omega)
theorem grp_v (k : Nat) (s : ByteArray) : ∀ n, (grp k s n).2.1 < 2 ^ (grp k s n).1
  | 0 => by simp [grp]
  | n + 1 => by rw [grp_succ]; exact Nat.mod_lt _ (Nat.pow_pos (by decide))
end Gp
