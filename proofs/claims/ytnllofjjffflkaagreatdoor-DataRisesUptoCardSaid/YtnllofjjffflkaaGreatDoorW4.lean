/- Walks of the readings off a source: bytes, numbers, names, the rest; for sources of at most 2^30 bytes. -/
import Derived.Test.YtnllofjjffflkaaGreatDoorW3
set_option linter.unusedSimpArgs false
set_option linter.unusedVariables false
namespace Go.Proofs.YtnllofjjffflkaaGreatDoor
open Go.RowKit Gp

/-- What a taking from the text in block B comes to. -/
def SrcPost {α : Type} (enc : α → Value) (B : Nat) (w : World) (r : Option (α × ByteArray)) (e : Ending) (w' : World) : Prop :=
  match r with
  | some (a, s') => e = .returned (enc a) ∧ w'.heap[B]? = some (.cells #[.string s'] 189 (0, 0)) ∧ w.grownBy w' (some B)
  | none => e = .panicked stopChain ∧ w.grownBy w' (some B)
abbrev encN (n : Nat) : Value := .int .i64 (n : Int)
abbrev encS (s : ByteArray) : Value := .string s
theorem SrcPost.some_ {α : Type} {enc : α → Value} {B : Nat} {w : World} {a : α} {s' : ByteArray} {e : Ending} {w' : World} (h : SrcPost enc B w (some (a, s')) e w') : e = .returned (enc a) ∧ w'.heap[B]? = some (.cells #[.string s'] 189 (0, 0)) ∧ w.grownBy w' (some B) := h
theorem SrcPost.none_ {α : Type} {enc : α → Value} {B : Nat} {w : World} {e : Ending} {w' : World} (h : SrcPost enc B w none e w') : e = .panicked stopChain ∧ w.grownBy w' (some B) := h

theorem empty_of (s : ByteArray) (h : s.size = 0) : s.toList.isEmpty = true := by
  rw [ByteArray.toList_eq]
  have : s.data.toList.length = 0 := by rw [Array.length_toList]; exact h
  rw [List.eq_nil_of_length_eq_zero this]; rfl
theorem empty_not (s : ByteArray) (h : s.size ≠ 0) : s.toList.isEmpty = false := by
  rw [ByteArray.toList_eq, List.isEmpty_eq_false_iff]
  intro e
  have : s.data.toList.length = 0 := by rw [e]; rfl
  rw [Array.length_toList] at this; exact h this
theorem bytes_src (B : Nat) (n : Nat) (s : ByteArray) (w : World) (hb : w.heap[B]? = some (.cells #[.string s] 189 (0, 0))) (hs : s.size ≤ 1073741824) :
    Calls Tryz.prog 76 #[.pointer (some ⟨B, 0, none⟩), .int .i64 (n : Int)] w (SrcPost encS B w (takeBytes n s)) := by
  unfold takeBytes
  split
  · rename_i hn
    refine (bytes_ok B _ s w hb (by omega) (by omega) hs).mono ?_
    rintro e w' ⟨rfl, rfl⟩
    exact ⟨by simp, one_setCell hb, grown_set (World.grownBy.refl _ _) _ _ _⟩
  · rename_i hn
    refine (bytes_no B _ s w hb (by omega)).mono ?_
    rintro e w' ⟨rfl, rfl⟩
    exact ⟨rfl, World.grownBy.refl _ _⟩
theorem number_src (B : Nat) (n : Nat) (s : ByteArray) (w : World) (hb : w.heap[B]? = some (.cells #[.string s] 189 (0, 0))) (h4 : n ≤ 4) (hs : s.size ≤ 1073741824) :
    Calls Tryz.prog 59 #[.pointer (some ⟨B, 0, none⟩), .int .i64 (n : Int)] w (SrcPost encN B w (takeNum n s)) := by
  unfold takeNum
  split
  · rename_i hn
    exact number_ok B n s w hb hn h4 hs
  · rename_i hn
    go_enter Tryz.func59, Tryz.ntmps59
    go_wp2_with (go_at_call 76; refine (bytes_no B _ s _ hb (by omega)).mono ?_; rintro e w' ⟨rfl, rfl⟩)
    exact ⟨rfl, rfl, World.grownBy.refl _ _⟩

theorem rest_src (B : Nat) (s : ByteArray) (w : World) (hb : w.heap[B]? = some (.cells #[.string s] 189 (0, 0))) (hs : s.size ≤ 1073741824) :
    Calls Tryz.prog 64 #[.pointer (some ⟨B, 0, none⟩)] w (SrcPost encS B w (takeRest s)) := by
  have hc := cell_of_one hb
  unfold takeRest
  split
  · rename_i hn
    have he := empty_not s hn
    go_enter Tryz.func64, Tryz.ntmps64
    go_wp2_with (go_at_call 77; refine (must_true _ _).mono ?_; rintro e w' ⟨rfl, rfl⟩)
    refine (bytes_ok B _ s _ hb (by omega) (by omega) hs).mono ?_
    rintro e w' ⟨rfl, rfl⟩
    go_wp2
    go_ret
    exact ⟨rfl, one_setCell hb, grown_set (World.grownBy.refl _ _) _ _ _⟩
  · rename_i hn
    have he := empty_of s (by omega)
    go_enter Tryz.func64, Tryz.ntmps64
    go_wp2_with (go_at_call 77; refine (must_false _ _).mono ?_; rintro e w' ⟨rfl, rfl⟩)
    exact ⟨rfl, rfl, World.grownBy.refl _ _⟩
set_option maxRecDepth 100000 in
set_option maxHeartbeats 1000000 in
theorem name_src (B : Nat) (s : ByteArray) (w : World) (hb : w.heap[B]? = some (.cells #[.string s] 189 (0, 0))) (hs : s.size ≤ 1073741824) :
    Calls Tryz.prog 58 #[.pointer (some ⟨B, 0, none⟩)] w (SrcPost encS B w (takeName s)) := by
  have hc := cell_of_one hb
  have hBw : B < w.heap.size := (Array.getElem?_eq_some_iff.1 hb).1
  go_enter Tryz.func58, Tryz.ntmps58
  go_wp2
  go_loop [3] (fun v => ∃ i : Nat, i ≤ s.size + 256 ∧ v = .int .i64 (i : Int) ∧ nameEnd s = scan s (s.size - i) i) (fun v => s.size - (intOf v).toNat)
  case atStart => exact ⟨0, Nat.zero_le _, rfl, rfl⟩
  case round =>
    obtain ⟨i, hi, rfl, hsc⟩ := hrel
    have HS := Lib.hid hsc; clear hsc
    by_cases hlt : i < s.size
    · have hx := run_idx s i hlt
      have h255 := bN_lt s i
      by_cases h0 : 0 < bN s i
      · have b1 : (0 : Int) < (bN s i : Int) := by omega
        go_wp2
        go_round
        case rel =>
          refine ⟨i + 1 + bN s i, by omega, by go_num, ?_⟩
          rw [HS.out, show s.size - i = (s.size - i - 1) + 1 from by omega, scan_go ⟨hlt, h0⟩, scan_size (by omega)]
        case measure => simp [intOf]; omega
      · have b1 : (bN s i : Int) ≤ 0 := by omega
        have hE : nameEnd s = i := by rw [HS.out, scan_stop (by omega)]
        have HE := Lib.hid hE; clear hE HS h0
        go_wp2_with fail
        by_cases hle : i + 1 ≤ s.size
        · refine (bytes_ok B _ s _ hb (by omega) (by omega) hs).mono ?_
          rintro e w' ⟨rfl, rfl⟩
          have e1 : ((i : Int) + 1).toNat = i + 1 := by omega
          rw [e1]; clear e1
          go_wp2_with (go_at_call 103; refine (right_any _ _).mono ?_; rintro e w1 ⟨rfl, hB⟩)
          have hb1 : w1.heap[B]? = some (.cells #[.string (s.extract (i + 1) s.size)] 189 (0, 0)) := by
            rw [hB.block B (by rw [World.size_setCell]; exact hBw)]; exact one_setCell hb
          have hg1 : w.grownBy w1 (some B) := grown_then (grown_set (World.grownBy.refl _ _) _ _ _) hB
          have HB1 := Lib.hid hb1; clear hb1
          cases hr : rightB (s.extract 0 (i + 1))
          · have hP : takeName s = none := by unfold takeName; rw [HE.out, if_neg (by simp [hr])]
            have HP := Lib.hid hP; clear hP
            go_wp2_with (go_at_call 77; refine (must_false _ _).mono ?_; rintro e w' ⟨rfl, rfl⟩)
            rw [HP.out]
            exact ⟨rfl, rfl, hg1⟩
          · have hP : takeName s = some (s.extract 0 (i + 1), s.extract (i + 1) s.size) := by unfold takeName; rw [HE.out, if_pos ⟨hle, hr⟩]
            have HP := Lib.hid hP; clear hP
            go_wp2_with (go_at_call 77; refine (must_true _ _).mono ?_; rintro e w' ⟨rfl, rfl⟩)
            go_ret
            rw [HP.out]
            exact ⟨rfl, HB1.out, hg1⟩
        · refine (bytes_no B _ s _ hb (by omega)).mono ?_
          rintro e w' ⟨rfl, rfl⟩
          have hP : takeName s = none := by unfold takeName; rw [HE.out, if_neg (by omega)]
          have HP := Lib.hid hP; clear hP
          go_wp2_with fail
          rw [HP.out]
          exact ⟨rfl, rfl, World.grownBy.refl _ _⟩
    · have hE : nameEnd s = i := by rw [HS.out, scan_stop (by omega)]
      have HE := Lib.hid hE; clear hE HS
      have hge : s.size ≤ i := by omega
      go_wp2_with fail
      by_cases hle : i + 1 ≤ s.size
      · refine (bytes_ok B _ s _ hb (by omega) (by omega) hs).mono ?_
        rintro e w' ⟨rfl, rfl⟩
        have e1 : ((i : Int) + 1).toNat = i + 1 := by omega
        rw [e1]; clear e1
        go_wp2_with (go_at_call 103; refine (right_any _ _).mono ?_; rintro e w1 ⟨rfl, hB⟩)
        have hb1 : w1.heap[B]? = some (.cells #[.string (s.extract (i + 1) s.size)] 189 (0, 0)) := by
          rw [hB.block B (by rw [World.size_setCell]; exact hBw)]; exact one_setCell hb
        have hg1 : w.grownBy w1 (some B) := grown_then (grown_set (World.grownBy.refl _ _) _ _ _) hB
        have HB1 := Lib.hid hb1; clear hb1
        cases hr : rightB (s.extract 0 (i + 1))
        · have hP : takeName s = none := by unfold takeName; rw [HE.out, if_neg (by simp [hr])]
          have HP := Lib.hid hP; clear hP
          go_wp2_with (go_at_call 77; refine (must_false _ _).mono ?_; rintro e w' ⟨rfl, rfl⟩)
          rw [HP.out]
          exact ⟨rfl, rfl, hg1⟩
        · have hP : takeName s = some (s.extract 0 (i + 1), s.extract (i + 1) s.size) := by unfold takeName; rw [HE.out, if_pos ⟨hle, hr⟩]
          have HP := Lib.hid hP; clear hP
          go_wp2_with (go_at_call 77; refine (must_true _ _).mono ?_; rintro e w' ⟨rfl, rfl⟩)
          go_ret
          rw [HP.out]
          exact ⟨rfl, HB1.out, hg1⟩
      · refine (bytes_no B _ s _ hb (by omega)).mono ?_
        rintro e w' ⟨rfl, rfl⟩
        have hP : takeName s = none := by unfold takeName; rw [HE.out, if_neg (by omega)]
        have HP := Lib.hid hP; clear hP
        go_wp2_with fail
        rw [HP.out]
        exact ⟨rfl, rfl, World.grownBy.refl _ _⟩
end Go.Proofs.YtnllofjjffflkaaGreatDoor
