/- Walk of the iterator over the labels of a name; for texts of at most 2^30 bytes. -/
import Derived.RangeFuncNested
import Derived.RangeFuncBound
import Derived.RangeFuncCalls
import Derived.RangeFuncLeaves
import Derived.Shelf.Abstract
import Derived.Shelf.RegionOpen
import Derived.WalkKit
import Derived.OwnWalkIn
import Derived.TacticsInMore
import Derived.LoopNIn
import Derived.LoopIn
import Derived.Lib.Hide
import Derived.WalkSpells
import Derived.WalkLawsBesides
import Derived.Test.YtnllofjjffflkaaGreatDoorProg
import Derived.Test.YtnllofjjffflkaaGreatDoorP1
set_option linter.unusedSimpArgs false
set_option linter.unusedVariables false
namespace Go.Proofs.YtnllofjjffflkaaGreatDoor
open Go.RowKit Go.Shelf Gp
attribute [local go_sem] Oper.semAt_some

abbrev Pos (s : ByteArray) : Type := { i : Nat // okAt s i }
def lab (s : ByteArray) (i : Nat) : ByteArray := s.extract (i + 1) (i + 1 + bN s i)
abbrev encP (s : ByteArray) (x : Pos s) : Array Value := #[.int .i64 (x.1 : Int), .string (lab s x.1)]
theorem run_idx (s : ByteArray) (i : Nat) (h : i < s.size) (w : World) : (Instr.index 9 (.string s) (.int .i64 (i : Int))).run Tryz.prog w = .ok (.int .u8 (bN s i : Int)) w := by
  have := bN_get s i h
  simp [go_sem, h, ← this]
theorem run_slc (s : ByteArray) (a b : Int) (h0 : 0 ≤ a) (h1 : a ≤ b) (h2 : b ≤ s.size) (w : World) : (Instr.slice 9 (.string s) (some (.int .i64 a)) (some (.int .i64 b)) none).run Tryz.prog w = .ok (.string (s.extract a.toNat b.toNat)) w :=
  run_slice_string w 9 s .i64 .i64 a b (by kernel_rfl) h0 h1 h2
theorem ret_bool {a b : Bool} (h : a = b) : Ending.returned (.bool a) = .returned (.bool b) := by rw [h]
theorem ret_int {k : IntKind} {a b : Int} (h : a = b) : Ending.returned (.int k a) = .returned (.int k b) := by rw [h]
theorem ret_str {a b : ByteArray} (h : a = b) : Ending.returned (.string a) = .returned (.string b) := by rw [h]
/-- Block b lies as it lay. -/
def Keeps (b : Nat) (W W' : World) : Prop := ∀ o, W.heap[b]? = some o → W'.heap[b]? = some o
theorem Keeps.refl (b : Nat) (W : World) : Keeps b W W := fun _ h => h
theorem Keeps.trans {b : Nat} {A B C : World} (h : Keeps b A B) (k : Keeps b B C) : Keeps b A C := fun o ho => k o (h o ho)
theorem Keeps.putObj {b : Nat} {w : World} (hb : b < w.heap.size) (W : World) (l : Nat) (o o' : Obj) (hl : w.heap.size ≤ l) (_ : W.heap[l]? = some o) (_ : o.isCells = false) (_ : o.isWalk = false) : Keeps b W (W.putObj l o') :=
  fun x hx => (World.putObj_heap_other (by omega)).trans hx

set_option maxRecDepth 100000 in
set_option maxHeartbeats 1000000 in
theorem labels_stops (bx : Nat) (s : ByteArray) (w : World) (hs : s.size ≤ 1073741824) (hbx : w.heap[bx]? = some (.cells #[.string s] 9 (0, 0))) :
    SeqStopsK Fence.wide 9 Tryz.prog 227 #[.pointer (some ⟨bx, 0, none⟩)] (encP s) (Keeps bx) (fun xs => xs.map (·.1) = labs s) (fun pre => pre.map (·.1) <+: labs s) s.size w := fun l J Jx W hW hJ hJx hY h0 => by
  have hlt : bx < w.heap.size := (Array.getElem?_eq_some_iff.1 hbx).1
  have hbW : W.heap[bx]? = some (.cells #[.string s] 9 (0, 0)) := (hW.block bx hlt).trans hbx
  refine callsIn_of_wp Tryz.func227 rfl trivial ?_ rfl
  simp only [Tryz.ntmps227, List.size_toArray, List.length_cons, List.length_nil, Nat.reduceAdd, Nat.reduceSub, Array.replicate_succ, Array.replicate_zero, List.push_toArray, List.append_toArray, List.nil_append, List.cons_append]
  gi_wp2
  gi_loopw [3] (fun p wr => ∃ (pre : List (Pos s)) (i : Nat), p = .int .i64 (i : Int) ∧ i ≤ s.size ∧ pre.length ≤ i ∧ labs s = pre.map (·.1) ++ starts s (s.size - i) i ∧ wr.heap[bx]? = some (.cells #[.string s] 9 (0, 0)) ∧ J pre wr)
    (fun p wr => s.size - (intOf p).toNat)
  case atStart => exact ⟨[], 0, rfl, Nat.zero_le _, Nat.zero_le _, by simp [labs], hbW, h0⟩
  case round =>
    obtain ⟨pre, i, rfl, hi, hpl, hl, hb, hJs⟩ := hrel
    have hc := cell_of_one hb
    have HL := Lib.hid hl; clear hl
    have HB := Lib.hid hb; clear hb
    by_cases hlt2 : i < s.size
    · have hx := run_idx s i hlt2
      have h255 := bN_lt s i
      by_cases ho : okAt s i
      · have h1 : 1 ≤ (bN s i : Int) := by have := ho.2.1; omega
        have h2 : (bN s i : Int) ≤ 63 := by have := ho.2.2.1; omega
        have h3 : (i : Int) + 1 + (bN s i : Int) ≤ (s.size : Int) := by have := ho.2.2.2; omega
        have b1 : ((bN s i : Int) != 0) = true := by simp; omega
        have hsl := run_slc s ((i : Int) + 1) ((i : Int) + 1 + (bN s i : Int)) (by omega) (by omega) h3
        have e1 : ((i : Int) + 1).toNat = i + 1 := by omega
        have e2 : ((i : Int) + 1 + (bN s i : Int)).toNat = i + 1 + bN s i := by omega
        rw [e1, e2] at hsl; clear e1 e2
        obtain ⟨fn, tmps, assign, body, hy, hR⟩ := hY pre ⟨i, ho⟩ wr hJs (by omega)
        simp only [encP, lab] at hy
        gi_wp2
        refine hR.mono ?_
        rintro e W3 (⟨rfl, hJ3, hk3⟩ | ⟨rfl, hJx3⟩)
        · gi_wp2
          go_roundw
          case rel =>
            refine ⟨pre ++ [⟨i, ho⟩], i + 1 + bN s i, by go_num, by omega, by simp; omega, ?_, hk3 _ HB.out, hJ3⟩
            rw [HL.out, show s.size - i = (s.size - i - 1) + 1 from by omega, starts_ok ho, starts_size (by omega) (by omega)]
            simp
          case measure => simp [intOf]; omega
        · gi_wp2
          refine bodyPost_ret (results_none rfl _ _ _) rfl ?_
          refine ⟨⟨_, rfl⟩, .inr ⟨_, ?_, hJx3⟩⟩
          rw [HL.out, show s.size - i = (s.size - i - 1) + 1 from by omega, starts_ok ho]
          simp
      · have hend : labs s = pre.map (·.1) := by rw [HL.out, starts_no ho]; simp
        have HE := Lib.hid hend; clear hend
        by_cases c1 : bN s i = 0
        · have b1 : ((bN s i : Int) != 0) = false := by simp; omega
          clear c1
          gi_wp2
          go_end0
          exact ⟨⟨_, rfl⟩, .inl ⟨pre, HE.out.symm, hJs⟩⟩
        · have b1 : ((bN s i : Int) != 0) = true := by simp; omega
          clear c1
          by_cases c2 : bN s i ≤ 63
          · have h2 : (bN s i : Int) ≤ 63 := by omega
            have h3 : (s.size : Int) < (i : Int) + 1 + (bN s i : Int) := by unfold okAt at ho; simp at b1; omega
            gi_wp2
            refine ⟨fun _ h => (by cases h), ?_⟩
            gi_wp2
            refine bodyPost_ret (results_none rfl _ _ _) rfl ?_
            exact ⟨⟨_, rfl⟩, .inl ⟨pre, HE.out.symm, hJs⟩⟩
          · have h2 : (63 : Int) < (bN s i : Int) := by omega
            clear c2
            gi_wp2
            refine ⟨fun _ h => (by cases h), ?_⟩
            gi_wp2
            refine bodyPost_ret (results_none rfl _ _ _) rfl ?_
            exact ⟨⟨_, rfl⟩, .inl ⟨pre, HE.out.symm, hJs⟩⟩
    · have hend : labs s = pre.map (·.1) := by rw [HL.out, starts_no (fun h => hlt2 h.1)]; simp
      have HE := Lib.hid hend; clear hend
      have hge : s.size ≤ i := by omega
      gi_wp2
      go_end0
      exact ⟨⟨_, rfl⟩, .inl ⟨pre, HE.out.symm, hJs⟩⟩
end Go.Proofs.YtnllofjjffflkaaGreatDoor
