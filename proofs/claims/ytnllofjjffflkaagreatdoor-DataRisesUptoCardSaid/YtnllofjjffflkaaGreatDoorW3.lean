/- Walk of the reading of a number; for sources of at most 2^30 bytes. -/
import Derived.Test.YtnllofjjffflkaaGreatDoorT2
import Derived.Test.YtnllofjjffflkaaGreatDoorW2
import Derived.Lib.ConvBytes
set_option linter.unusedSimpArgs false
set_option linter.unusedVariables false
namespace Go.Proofs.YtnllofjjffflkaaGreatDoor
open Go.RowKit Gp

theorem grown_bytes {w W : World} {row : Option Nat} (h : w.grownBy W row) (e : TypeId) (s : ByteArray) : w.grownBy (Lib.bytesWorld W e s) row :=
  ⟨h.os, h.tape, h.output, by rw [Lib.bytesWorld_size]; have := h.size; omega, fun k hk hr => (Lib.bytesWorld_at_old W e s k (by have := h.size; omega)).trans (h.block k hk hr)⟩
theorem grown_set {w W : World} {B : Nat} (h : w.grownBy W (some B)) (o : Nat) (sp : Option Nat) (v : Value) : w.grownBy (W.setCell ⟨B, o, sp⟩ v) (some B) :=
  ⟨h.os, h.tape, h.output, by rw [World.size_setCell]; exact h.size, fun k hk hr => (Below.heap_setCell _ _ _ _ (fun e => hr (by rw [e]))).trans (h.block k hk hr)⟩
theorem grown_alloc {w W : World} {row : Option Nat} (h : w.grownBy W row) (o : Obj) : w.grownBy (W.alloc o) row :=
  ⟨h.os, h.tape, h.output, by rw [World.size_alloc]; have := h.size; omega, fun k hk hr => (Below.heap_alloc _ _ _ (by have := h.size; omega)).trans (h.block k hk hr)⟩
theorem grown_drew {w W : World} {row : Option Nat} (h : w.grownBy W row) : w.grownBy W.drew row := ⟨h.os, h.tape, h.output, h.size, h.block⟩
theorem grown_below {w W : World} (h : Below w.heap.size w W) (row : Option Nat) : w.grownBy W row := ⟨h.os, h.tape, h.output, h.size, fun k hk _ => h.block k hk⟩
theorem grown_then {w W V : World} {B : Nat} (h : w.grownBy W (some B)) (k : Below W.heap.size W V) : w.grownBy V (some B) := h.trans (grown_below k _)
theorem wrap_i64_nat (a : Nat) (h : a < 9223372036854775808) : IntKind.i64.wrap (a : Int) = (a : Int) := IntWalk.i64_in _ (by omega)
theorem bits_or_nat (a b : Nat) (ha : a < 2 ^ 63) (hb : b < 2 ^ 63) : bits .or .i64 (a : Int) (b : Int) = ((a ||| b : Nat) : Int) := by
  have hab : a ||| b < 2 ^ 63 := Nat.or_lt_two_pow ha hb
  have e : (BitVec.ofInt 64 (a : Int) ||| BitVec.ofInt 64 (b : Int)).toNat = a ||| b := by
    rw [BitVec.ofInt_natCast, BitVec.ofInt_natCast, BitVec.toNat_or, BitVec.toNat_ofNat, BitVec.toNat_ofNat, Nat.mod_eq_of_lt (by omega), Nat.mod_eq_of_lt (by omega)]
  show IntKind.i64.wrap ((BitVec.ofInt 64 (a : Int) ||| BitVec.ofInt 64 (b : Int)).toNat : Int) = _
  rw [e]
  exact wrap_i64_nat _ (by omega)
theorem bits_and_nat (a b : Nat) (ha : a < 2 ^ 63) (hb : b < 2 ^ 63) : bits .and .i64 (a : Int) (b : Int) = ((a &&& b : Nat) : Int) := by
  have hab : a &&& b ≤ a := Nat.and_le_left
  have e : (BitVec.ofInt 64 (a : Int) &&& BitVec.ofInt 64 (b : Int)).toNat = a &&& b := by
    rw [BitVec.ofInt_natCast, BitVec.ofInt_natCast, BitVec.toNat_and, BitVec.toNat_ofNat, BitVec.toNat_ofNat, Nat.mod_eq_of_lt (by omega), Nat.mod_eq_of_lt (by omega)]
  show IntKind.i64.wrap ((BitVec.ofInt 64 (a : Int) &&& BitVec.ofInt 64 (b : Int)).toNat : Int) = _
  rw [e]
  exact wrap_i64_nat _ (by omega)
theorem or_add (v b : Nat) (k : Nat) (hb : b < 2 ^ k) : v * 2 ^ k ||| b = v * 2 ^ k + b := by
  rw [Nat.mul_comm]; exact (Nat.two_pow_add_eq_or_of_lt hb v).symm

theorem numB_small (s : ByteArray) (k : Nat) (h : k ≤ 4) : numB s k < 4294967296 := by
  have := numB_lt s k
  have h2 : 256 ^ k ≤ 256 ^ 4 := Nat.pow_le_pow_right (by omega) h
  omega
set_option maxRecDepth 100000 in
set_option maxHeartbeats 1000000 in
theorem number_ok (B : Nat) (n : Nat) (s : ByteArray) (w : World) (hb : w.heap[B]? = some (.cells #[.string s] 189 (0, 0))) (hn : n ≤ s.size) (h4 : n ≤ 4) (hs : s.size ≤ 1073741824) :
    Calls Tryz.prog 59 #[.pointer (some ⟨B, 0, none⟩), .int .i64 (n : Int)] w fun e w' => e = .returned (.int .i64 (numB s n : Int)) ∧ w'.heap[B]? = some (.cells #[.string (s.extract n s.size)] 189 (0, 0)) ∧ w.grownBy w' (some B) := by
  have hBw : B < w.heap.size := (Array.getElem?_eq_some_iff.1 hb).1
  have kb := fun (W : World) => Lib.run_convert_string_bytes (P := Tryz.prog) W 9 126 5 (s.extract 0 n) Tryz.underlying9 Tryz.underlying126 Tryz.underlying5
  go_enter Tryz.func59, Tryz.ntmps59
  go_wp2_with (go_at_call 76; refine (bytes_ok B _ s _ hb (by omega) (by omega) hs).mono ?_; rintro e w' ⟨rfl, rfl⟩)
  have hbr : (w.setCell ⟨B, 0, none⟩ (.string (s.extract n s.size))).heap[B]? = some (.cells #[.string (s.extract n s.size)] 189 (0, 0)) := one_setCell hb
  have hsz : (w.setCell ⟨B, 0, none⟩ (.string (s.extract n s.size))).heap.size = w.heap.size := World.size_setCell ..
  have hcell : ∀ j, j < n → (Lib.bytesWorld (w.setCell ⟨B, 0, none⟩ (.string (s.extract n s.size))) 5 (s.extract 0 n)).cell? ⟨w.heap.size, j, none⟩ = some (.int .u8 (bN s j : Int)) := by
    intro j hj
    have := Lib.bytesWorld_cell (w.setCell ⟨B, 0, none⟩ (.string (s.extract n s.size))) 5 (s.extract 0 n) j (by rw [ByteArray.size_extract]; omega)
    rw [hsz] at this
    rw [this]
    congr 2
    unfold bN
    rw [ByteArray.data_extract]
    simp [List.getD_eq_getElem?_getD, List.getElem?_take, hj]
  have hgrow : w.grownBy (Lib.bytesWorld (w.setCell ⟨B, 0, none⟩ (.string (s.extract n s.size))) 5 (s.extract 0 n)) (some B) := by
    exact grown_bytes (grown_set (World.grownBy.refl _ _) _ _ _) _ _
  have hbB : (Lib.bytesWorld (w.setCell ⟨B, 0, none⟩ (.string (s.extract n s.size))) 5 (s.extract 0 n)).heap[B]? = some (.cells #[.string (s.extract n s.size)] 189 (0, 0)) := by
    rw [Lib.bytesWorld_at_old _ _ _ _ (by rw [hsz]; exact hBw)]; exact hbr
  clear hbr hsz kb
  go_loop [5, 13] (fun v i => ∃ k : Nat, k ≤ n ∧ i = .int .i64 (k : Int) ∧ v = .int .i64 (numB s k : Int)) (fun _ i => n - (intOf i).toNat)
  case atStart => exact ⟨0, Nat.zero_le _, rfl, rfl⟩
  case round =>
    obtain ⟨k, hk, rfl, rfl⟩ := hrel
    have hv := numB_small s k (by omega)
    have hb2 := bN_lt s k
    by_cases hlt : k < n
    · have hc := hcell k hlt
      have ho := bits_or_nat (numB s k * 256) (bN s k) (by omega) (by omega)
      rw [show numB s k * 256 = numB s k * 2 ^ 8 from rfl, or_add _ _ 8 hb2] at ho
      rw [show numB s k * 2 ^ 8 = numB s k * 256 from rfl] at ho
      have e1 : (((numB s k * 256 : Nat) : Int)) = (numB s k : Int) * 256 := by omega
      rw [e1] at ho; clear e1
      go_wp2
      go_round
      case rel => exact ⟨k + 1, by omega, by go_num, rfl⟩
      case measure => simp [intOf]; omega
    · obtain rfl : k = n := by omega
      go_wp2
      go_ret
      exact ⟨rfl, hbB, hgrow⟩
end Go.Proofs.YtnllofjjffflkaaGreatDoor
