/- Walk of the numbers of the document's own answer; for at most four bytes. -/
import Derived.Test.YtnllofjjffflkaaGreatDoorR1
import Derived.Deep.OwnRows
set_option linter.unusedSimpArgs false
set_option linter.unusedVariables false
namespace Go.Proofs.YtnllofjjffflkaaGreatDoor
open Go.RowKit Gp
theorem fill_step (v : Int) (n k : Nat) (h : k < n) : (List.replicate (n - k) (0 : UInt8) ++ be v k).set (n - 1 - k) (byteAt v k) = List.replicate (n - (k + 1)) 0 ++ be v (k + 1) := by
  obtain ⟨m, rfl⟩ : ∃ m, n = k + 1 + m := ⟨n - (k + 1), by omega⟩
  have e1 : k + 1 + m - k = m + 1 := by omega
  have e2 : k + 1 + m - 1 - k = m := by omega
  have e3 : k + 1 + m - (k + 1) = m := by omega
  rw [e1, e2, e3, List.replicate_succ', List.append_assoc, List.set_append_right _ _ (by simp)]
  simp [be]
theorem madeCells_zero (n : Nat) : madeCells #[.int .u8 0] n = (bc (List.replicate n (0 : UInt8))).toArray := by
  apply Array.ext'
  apply List.ext_getElem
  · simp [bc, madeCells]
  · intro i h1 h2
    simp [bc, madeCells, Nat.mod_one]
theorem set_bc (w : World) (H : Nat) (l : List UInt8) (i : Nat) (b : UInt8) (h : w.heap[H]? = some (.cells (bc l).toArray 5 (0, 0))) : (w.setCell ⟨H, i, none⟩ (.int .u8 (b.toNat : Int))).heap[H]? = some (.cells (bc (l.set i b)).toArray 5 (0, 0)) := by
  simp [World.setCell, Array.getElem?_modify, h, bc, List.map_set]
theorem own_of_block (w : World) (base H : Nat) (l : List UInt8) (hb : base ≤ H) (hl : l.length ≤ 1099511627776) (h : w.heap[H]? = some (.cells (bc l).toArray 5 (0, 0))) : w.ownsRow base 5 1 (.slice (some ⟨H, 0, none⟩) l.length l.length) l.length (bc l) := by
  refine ⟨by simp [bc], .inr ⟨H, l.length, (bc l).toArray, rfl, hb, h, Nat.le_refl _, by unfold maxLen; omega, by simp [bc], by simp [bc, List.take_of_length_le]⟩⟩
set_option maxRecDepth 100000 in
set_option maxHeartbeats 1000000 in
theorem refNum_any (v : Int) (n : Nat) (w : World) (hn : n ≤ 4) : Calls Tryz.prog 84 #[.int .i64 v, .int .i64 (n : Int)] w fun e w' => e = .returned (.string ⟨(be v n).toArray⟩) ∧ Below w.heap.size w w' := by
  have hmk := fun W => run_make_row' (P := Tryz.prog) 126 5 (.int .u8 0) 1 Tryz.underlying126 info5 rfl .i64 .i64 n (by omega) (by omega) W
  go_enter Tryz.func84, Tryz.ntmps84
  go_wp2_with fail
  have hb0 : (w.alloc (.cells (madeCells #[.int .u8 0] n) 5)).heap[w.heap.size]? = some (.cells (bc (List.replicate (n - 0) 0 ++ be v 0)).toArray 5 (0, 0)) := by
    rw [World.alloc_heap_new, madeCells_zero]; simp [be]
  have hB0 : Below w.heap.size w (w.alloc (.cells (madeCells #[.int .u8 0] n) 5)) := (Below.refl _ _).alloc (Nat.le_refl _) _
  clear hmk
  go_loopw [6] (fun kv wr => ∃ k : Nat, k ≤ n ∧ kv = .int .i64 (k : Int) ∧ wr.heap[w.heap.size]? = some (.cells (bc (List.replicate (n - k) 0 ++ be v k)).toArray 5 (0, 0)) ∧ Below w.heap.size w wr) (fun kv _ => n - (intOf kv).toNat)
  case atStart => exact ⟨0, Nat.zero_le _, rfl, hb0, hB0⟩
  case round =>
    obtain ⟨k, hk, rfl, hb, hB⟩ := hrel
    clear hb0 hB0
    have hlen : (List.replicate (n - k) (0 : UInt8) ++ be v k).length = n := by rw [List.length_append, List.length_replicate, be_length]; omega
    by_cases hlt : k < n
    · have hi : n - 1 - k < (bc (List.replicate (n - k) (0 : UInt8) ++ be v k)).length := by rw [bc, List.length_map, hlen]; omega
      have hc : wr.cell? ⟨w.heap.size, n - 1 - k, none⟩ = some ((bc (List.replicate (n - k) (0 : UInt8) ++ be v k))[n - 1 - k]) := by
        simp only [World.cell?, hb]; simp [List.getElem?_eq_getElem hi]
      have hf : wr.frozen? ⟨w.heap.size, n - 1 - k, none⟩ = false := by simp [World.frozen?, hb]
      obtain ⟨x, hx⟩ : ∃ x, x = (bc (List.replicate (n - k) (0 : UInt8) ++ be v k))[n - 1 - k] := ⟨_, rfl⟩
      rw [← hx] at hc
      have hstep := set_bc wr w.heap.size _ (n - 1 - k) (byteAt v k) hb
      rw [fill_step v n k hlt] at hstep
      have HS := Lib.hid hstep
      have HB := Lib.hid (hB.setCell (p := ⟨w.heap.size, n - 1 - k, none⟩) (Nat.le_refl _) (.int .u8 ((byteAt v k).toNat : Int)))
      clear hstep hb hB hx hlen hi
      have s4 : IntKind.u8.wrap (v / 2 ^ (8 * k)) = ((byteAt v k).toNat : Int) := by rw [byteAt_val]; rfl
      have i1 : (0 : Int) ≤ (n : Int) - 1 - (k : Int) := by omega
      go_wp2
      go_roundw
      case rel => exact ⟨k + 1, by omega, by go_num, HS.out, HB.out⟩
      case measure => simp [intOf]; omega
    · obtain rfl : k = n := by omega
      have hown := own_of_block wr w.heap.size w.heap.size _ (Nat.le_refl _) (by omega) hb
      rw [hlen, Nat.sub_self, List.replicate_zero, List.nil_append] at hown
      have hcv := own_str hown
      have HB := Lib.hid hB; clear hB hown hb hlen
      go_wp2
      go_ret
      exact ⟨rfl, HB.out⟩
end Go.Proofs.YtnllofjjffflkaaGreatDoor
