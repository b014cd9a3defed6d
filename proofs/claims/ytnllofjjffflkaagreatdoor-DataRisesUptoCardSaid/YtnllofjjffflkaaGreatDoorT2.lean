/- Some bytes off a source: handed out, or the stop; for sources of at most 2^30 bytes. -/
import Derived.Test.YtnllofjjffflkaaGreatDoorT1
set_option linter.unusedSimpArgs false
set_option linter.unusedVariables false
namespace Go.Proofs.YtnllofjjffflkaaGreatDoor
open Go.RowKit
theorem bytes_ok (B : Nat) (n : Int) (s : ByteArray) (w : World) (hb : w.heap[B]? = some (.cells #[.string s] 189 (0, 0))) (h0 : 0 ≤ n) (hn : n ≤ s.size) (hs : s.size ≤ 1073741824) :
    Calls Tryz.prog 76 #[.pointer (some ⟨B, 0, none⟩), .int .i64 n] w fun e w' => e = .returned (.string (s.extract 0 n.toNat)) ∧ w' = w.setCell ⟨B, 0, none⟩ (.string (s.extract n.toNat s.size)) := by
  have hc := cell_of_one hb
  have hf := free_of_one hb
  obtain ⟨n, rfl⟩ := Int.eq_ofNat_of_zero_le h0
  have hd : decide ((n : Int) ≤ (s.size : Int)) = true := by simpa using hn
  have hd' : decide (n ≤ s.size) = true := by simpa using hn
  go_enter Tryz.func76, Tryz.ntmps76
  go_wp2_with (go_at_call 77; refine (must_true _ _).mono ?_; rintro e w' ⟨rfl, rfl⟩)
  go_ret
  simp
theorem bytes_no (B : Nat) (n : Int) (s : ByteArray) (w : World) (hb : w.heap[B]? = some (.cells #[.string s] 189 (0, 0))) (hn : s.size < n) :
    Calls Tryz.prog 76 #[.pointer (some ⟨B, 0, none⟩), .int .i64 n] w fun e w' => e = .panicked stopChain ∧ w' = w := by
  have hc := cell_of_one hb
  have hf := free_of_one hb
  have hd : decide (n ≤ (s.size : Int)) = false := by simpa using hn
  go_enter Tryz.func76, Tryz.ntmps76
  go_wp2_with (go_at_call 77; refine (must_false _ _).mono ?_; rintro e w' ⟨rfl, rfl⟩)
  simp [bodyPost]
end Go.Proofs.YtnllofjjffflkaaGreatDoor
