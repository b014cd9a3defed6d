/- Walks of the putting down of bytes, names and short texts in a sink; for sinks of at most 2^40 bytes. -/
import Derived.Test.YtnllofjjffflkaaGreatDoorW5
import Derived.Test.YtnllofjjffflkaaGreatDoorW4
import Derived.Lib.AppendStr
set_option linter.unusedSimpArgs false
set_option linter.unusedVariables false
namespace Go.Proofs.YtnllofjjffflkaaGreatDoor
open Go.RowKit Gp

theorem own_slice {w : World} {base n : Nat} {e : TypeId} {size : Nat} {v : Value} {xs : List Value} (h : w.ownsRow base e size v n xs) : ∃ A c, v = .slice A n c := by
  rcases h.2 with ⟨rfl, rfl⟩ | ⟨g, cap, cur, rfl, _⟩
  · exact ⟨none, 0, rfl⟩
  · exact ⟨_, cap, rfl⟩
theorem strCells_bc (s : ByteArray) : Lib.strCells s = bc s.data.toList := rfl
theorem data_length (s : ByteArray) : s.data.toList.length = s.size := by rw [Array.length_toList]; rfl
theorem cell_of2 {w : World} {B : Nat} {x y : Value} {t : TypeId} (h : w.heap[B]? = some (.cells #[x, y] t (0, 0))) : w.cell? ⟨B, 0, none⟩ = some x ∧ w.frozen? ⟨B, 0, none⟩ = false := by
  constructor <;> simp [World.cell?, World.frozen?, h]
theorem grown_of_below {w w1 : World} (h : Below w.heap.size w w1) (row : Option Nat) : w.grownBy w1 row := ⟨h.os, h.tape, h.output, h.size, fun i hi _ => h.block i hi⟩
theorem pw_own_below {w w1 : World} {base : Nat} {e : TypeId} {size n : Nat} {v : Value} {xs : List Value} (h : w.ownsRow base e size v n xs) (hb : Below w.heap.size w w1) : w1.ownsRow base e size v n xs :=
  h.kept (grown_of_below hb none) (by cases v.ownBlock <;> simp)
theorem sink_put2 {B : Nat} {w wr w1 : World} {rv v' : Value} {m : List UInt8} {bad : Bool} {n : Nat} {xs : List Value} (hb : wr.heap[B]? = some (.cells #[rv, .bool bad] 128 (0, 0))) (hor : wr.ownsRow B 5 1 rv n xs)
    (hB : Fr B w wr) (hown : w1.ownsRow B 5 1 v' m.length (bc m)) (hg : wr.grownBy w1 rv.ownBlock) :
    Sink B (w1.setCell ⟨B, 0, none⟩ v') m bad ∧ Fr B w (w1.setCell ⟨B, 0, none⟩ v') := by
  have hne := own_ne hor hb (by decide)
  have hBw : B < wr.heap.size := (Array.getElem?_eq_some_iff.1 hb).1
  have h1 : w1.heap[B]? = some (.cells #[rv, .bool bad] 128 (0, 0)) := by
    rw [hg.block B hBw (fun e => hne e.symm)]; exact hb
  refine ⟨⟨_, (cells2_set w1 B _ _ _ _ h1).1, ownsRow_setCell_other hown (a := ⟨B, 0, none⟩) (own_ne hown h1 (by decide)) _⟩, ?_⟩
  exact (Fr.grown hB (Fr.refl _ _) hor hg (Nat.le_of_lt hBw) (Nat.le_refl _)).setCell _ _ _

set_option maxRecDepth 100000 in
set_option maxHeartbeats 1000000 in
/-- 'y.bytes': behind what tells whether the string is too short. -/
theorem sink_bytes (B : Nat) (s : ByteArray) (least : Int) (l : List UInt8) (bad : Bool) (w : World) (hS : Sink B w l bad) (hl : l.length + s.size ≤ 1099511627776) :
    Calls Tryz.prog 85 #[.pointer (some ⟨B, 0, none⟩), .string s, .int .i64 least] w fun e w' => e = .returned (.tuple #[]) ∧ Sink B w' (l ++ s.data.toList) (bad || decide ((s.size : Int) < least)) ∧ Fr B w w' := by
  obtain ⟨ov, hb, ho⟩ := hS
  have hc1 : w.cell? ⟨B, 1, none⟩ = some (.bool bad) := by simp [World.cell?, hb]
  have hf1 : w.frozen? ⟨B, 1, none⟩ = false := by simp [World.frozen?, hb]
  obtain ⟨i0, hi0, hz0, hz1, hz2⟩ := info_parts info5
  have q1 : l.length + s.size ≤ maxLen := by unfold maxLen; omega
  have q2 : l.length + s.size ≤ 140737488355328 := by omega
  cases bad with
  | true =>
    have hc0 : w.cell? ⟨B, 0, none⟩ = some ov := by simp [World.cell?, hb]
    have hb0 := (cells2_set w B _ _ (.bool true) _ hb).2
    have ho0 := ownsRow_setCell_other ho (a := ⟨B, 1, none⟩) (own_ne ho hb (by decide)) (.bool true)
    have hne := own_ne ho hb (by decide)
    have hBw : B < w.heap.size := (Array.getElem?_eq_some_iff.1 hb).1
    have hq : B ≤ (w.setCell ⟨B, 1, none⟩ (.bool true)).heap.size := by rw [World.size_setCell]; omega
    have HH := Lib.hid (And.intro hb ho); clear hb ho
    have HB0 := Lib.hid hb0; clear hb0
    have HO0 := Lib.hid ho0; clear ho0
    go_enter Tryz.func85, Tryz.ntmps85
    go_wp2_with (at_builtin; refine Lib.wpList_append_own_string _ rfl _ _ 126 9 rfl B 5 i0 Tryz.underlying126 Tryz.underlying9 hi0 hz0 hz1 hz2 ov l.length (bc l) rfl HO0.out s rfl q1 q2 hq ?_)
    intro v' w1 hown hgrow _
    obtain ⟨A, c, rfl⟩ := own_slice hown
    have hcz := (hgrow.cell_far ⟨B, 0, none⟩ (by rw [World.size_setCell]; exact hBw) (Ne.symm hne)).trans (cell_of2 HB0.out).1
    have hfz := (hgrow.frozen_far ⟨B, 0, none⟩ (by rw [World.size_setCell]; exact hBw) (Ne.symm hne)).trans (cell_of2 HB0.out).2
    have hm : (l ++ s.data.toList).length = l.length + s.size := by rw [List.length_append, data_length]
    have hown2 : w1.ownsRow B 5 1 (.slice A (l.length + s.size) c) (l ++ s.data.toList).length (bc (l ++ s.data.toList)) := by rw [bc_append, hm]; exact hown
    have R := sink_put2 (w := w) HB0.out HO0.out ((Fr.refl _ _).setCell _ _ _) hown2 hgrow
    have HR := Lib.hid R; clear R hm hown hown2 hgrow
    go_wp2
    go_end0
    rw [Bool.true_or]
    exact ⟨rfl, HR.out⟩
  | false =>
    by_cases hk : (s.size : Int) < least
    · have b1 : decide ((s.size : Int) < least) = true := by simpa using hk
      have hc0 : w.cell? ⟨B, 0, none⟩ = some ov := by simp [World.cell?, hb]
      have hb0 := (cells2_set w B _ _ (.bool true) _ hb).2
      have ho0 := ownsRow_setCell_other ho (a := ⟨B, 1, none⟩) (own_ne ho hb (by decide)) (.bool true)
      have hne := own_ne ho hb (by decide)
      have hBw : B < w.heap.size := (Array.getElem?_eq_some_iff.1 hb).1
      have hq : B ≤ (w.setCell ⟨B, 1, none⟩ (.bool true)).heap.size := by rw [World.size_setCell]; omega
      have HH := Lib.hid (And.intro hb ho); clear hb ho
      have HB0 := Lib.hid hb0; clear hb0
      have HO0 := Lib.hid ho0; clear ho0
      go_enter Tryz.func85, Tryz.ntmps85
      go_wp2_with (at_builtin; refine Lib.wpList_append_own_string _ rfl _ _ 126 9 rfl B 5 i0 Tryz.underlying126 Tryz.underlying9 hi0 hz0 hz1 hz2 ov l.length (bc l) rfl HO0.out s rfl q1 q2 hq ?_)
      intro v' w1 hown hgrow _
      obtain ⟨A, c, rfl⟩ := own_slice hown
      have hcz := (hgrow.cell_far ⟨B, 0, none⟩ (by rw [World.size_setCell]; exact hBw) (Ne.symm hne)).trans (cell_of2 HB0.out).1
      have hfz := (hgrow.frozen_far ⟨B, 0, none⟩ (by rw [World.size_setCell]; exact hBw) (Ne.symm hne)).trans (cell_of2 HB0.out).2
      have hm : (l ++ s.data.toList).length = l.length + s.size := by rw [List.length_append, data_length]
      have hown2 : w1.ownsRow B 5 1 (.slice A (l.length + s.size) c) (l ++ s.data.toList).length (bc (l ++ s.data.toList)) := by rw [bc_append, hm]; exact hown
      have R := sink_put2 (w := w) HB0.out HO0.out ((Fr.refl _ _).setCell _ _ _) hown2 hgrow
      have HR := Lib.hid R; clear R hm hown hown2 hgrow
      go_wp2
      go_end0
      rw [Bool.false_or, b1]
      exact ⟨rfl, HR.out⟩
    · have b1 : decide ((s.size : Int) < least) = false := by simpa using hk
      have hc0 : w.cell? ⟨B, 0, none⟩ = some ov := by simp [World.cell?, hb]
      have hb0 := (cells2_set w B _ _ (.bool false) _ hb).2
      have ho0 := ownsRow_setCell_other ho (a := ⟨B, 1, none⟩) (own_ne ho hb (by decide)) (.bool false)
      have hne := own_ne ho hb (by decide)
      have hBw : B < w.heap.size := (Array.getElem?_eq_some_iff.1 hb).1
      have hq : B ≤ (w.setCell ⟨B, 1, none⟩ (.bool false)).heap.size := by rw [World.size_setCell]; omega
      have HH := Lib.hid (And.intro hb ho); clear hb ho
      have HB0 := Lib.hid hb0; clear hb0
      have HO0 := Lib.hid ho0; clear ho0
      go_enter Tryz.func85, Tryz.ntmps85
      go_wp2_with (at_builtin; refine Lib.wpList_append_own_string _ rfl _ _ 126 9 rfl B 5 i0 Tryz.underlying126 Tryz.underlying9 hi0 hz0 hz1 hz2 ov l.length (bc l) rfl HO0.out s rfl q1 q2 hq ?_)
      intro v' w1 hown hgrow _
      obtain ⟨A, c, rfl⟩ := own_slice hown
      have hcz := (hgrow.cell_far ⟨B, 0, none⟩ (by rw [World.size_setCell]; exact hBw) (Ne.symm hne)).trans (cell_of2 HB0.out).1
      have hfz := (hgrow.frozen_far ⟨B, 0, none⟩ (by rw [World.size_setCell]; exact hBw) (Ne.symm hne)).trans (cell_of2 HB0.out).2
      have hm : (l ++ s.data.toList).length = l.length + s.size := by rw [List.length_append, data_length]
      have hown2 : w1.ownsRow B 5 1 (.slice A (l.length + s.size) c) (l ++ s.data.toList).length (bc (l ++ s.data.toList)) := by rw [bc_append, hm]; exact hown
      have R := sink_put2 (w := w) HB0.out HO0.out ((Fr.refl _ _).setCell _ _ _) hown2 hgrow
      have HR := Lib.hid R; clear R hm hown hown2 hgrow
      go_wp2
      go_end0
      rw [Bool.false_or, b1]
      exact ⟨rfl, HR.out⟩

set_option maxRecDepth 100000 in
set_option maxHeartbeats 1000000 in
theorem sink_name (B : Nat) (s : ByteArray) (l : List UInt8) (bad : Bool) (w : World) (hS : Sink B w l bad) (hl : l.length + s.size ≤ 1099511627776) :
    Calls Tryz.prog 79 #[.pointer (some ⟨B, 0, none⟩), .string s] w fun e w' => e = .returned (.tuple #[]) ∧ Sink B w' (l ++ s.data.toList) (bad || !rightB s) ∧ Fr B w w' := by
  obtain ⟨ov, hb, ho⟩ := hS
  obtain ⟨i0, hi0, hz0, hz1, hz2⟩ := info_parts info5
  have q1 : l.length + s.size ≤ maxLen := by unfold maxLen; omega
  have q2 : l.length + s.size ≤ 140737488355328 := by omega
  cases bad with
  | true =>
    have hc0 : w.cell? ⟨B, 0, none⟩ = some ov := by simp [World.cell?, hb]
    have hc1 : w.cell? ⟨B, 1, none⟩ = some (.bool true) := by simp [World.cell?, hb]
    have hf1 : w.frozen? ⟨B, 1, none⟩ = false := by simp [World.frozen?, hb]
    have hb0 := (cells2_set w B _ _ (.bool true) _ hb).2
    have ho0 := ownsRow_setCell_other ho (a := ⟨B, 1, none⟩) (own_ne ho hb (by decide)) (.bool true)
    have hne := own_ne ho hb (by decide)
    have hBw : B < w.heap.size := (Array.getElem?_eq_some_iff.1 hb).1
    have hq : B ≤ (w.setCell ⟨B, 1, none⟩ (.bool true)).heap.size := by rw [World.size_setCell]; omega
    have HH := Lib.hid (And.intro hb ho); clear hb ho
    have HB0 := Lib.hid hb0; clear hb0
    have HO0 := Lib.hid ho0; clear ho0
    go_enter Tryz.func79, Tryz.ntmps79
    go_wp2_with (at_builtin; refine Lib.wpList_append_own_string _ rfl _ _ 126 9 rfl B 5 i0 Tryz.underlying126 Tryz.underlying9 hi0 hz0 hz1 hz2 ov l.length (bc l) rfl HO0.out s rfl q1 q2 hq ?_)
    intro v' w2 hown hgrow _
    obtain ⟨A, c, rfl⟩ := own_slice hown
    have hcz := (hgrow.cell_far ⟨B, 0, none⟩ (by rw [World.size_setCell]; exact hBw) (Ne.symm hne)).trans (cell_of2 HB0.out).1
    have hfz := (hgrow.frozen_far ⟨B, 0, none⟩ (by rw [World.size_setCell]; exact hBw) (Ne.symm hne)).trans (cell_of2 HB0.out).2
    have hm : (l ++ s.data.toList).length = l.length + s.size := by rw [List.length_append, data_length]
    have hown2 : w2.ownsRow B 5 1 (.slice A (l.length + s.size) c) (l ++ s.data.toList).length (bc (l ++ s.data.toList)) := by rw [bc_append, hm]; exact hown
    have R := sink_put2 (w := w) HB0.out HO0.out ((Fr.refl _ _).setCell _ _ _) hown2 hgrow
    have HR := Lib.hid R; clear R hm hown hown2 hgrow
    go_wp2
    go_end0
    rw [Bool.true_or]
    exact ⟨rfl, HR.out⟩
  | false =>
    have hBw0 : B < w.heap.size := (Array.getElem?_eq_some_iff.1 hb).1
    have hcw : w.cell? ⟨B, 1, none⟩ = some (.bool false) := by simp [World.cell?, hb]
    have HB := Lib.hid hb; clear hb
    have HO := Lib.hid ho; clear ho
    go_enter Tryz.func79, Tryz.ntmps79
    go_wp2_with fail
    refine (right_any _ _).mono ?_
    rintro e w1 ⟨rfl, hBl⟩
    have hb : w1.heap[B]? = some (.cells #[ov, .bool false] 128 (0, 0)) := (hBl.block B hBw0).trans HB.out
    have ho : w1.ownsRow B 5 1 ov l.length (bc l) := pw_own_below HO.out hBl
    have hbw : Fr B w w1 := (Fr.refl _ _).next hBl (Nat.le_of_lt hBw0)
    have HBL := Lib.hid hBl; clear hBl HB HO hcw
    cases hr : rightB s
    · have hr2 : (!rightB s) = true := by rw [hr]; rfl
      have hc0 : w1.cell? ⟨B, 0, none⟩ = some ov := by simp [World.cell?, hb]
      have hc1 : w1.cell? ⟨B, 1, none⟩ = some (.bool false) := by simp [World.cell?, hb]
      have hf1 : w1.frozen? ⟨B, 1, none⟩ = false := by simp [World.frozen?, hb]
      have hb0 := (cells2_set w1 B _ _ (.bool true) _ hb).2
      have ho0 := ownsRow_setCell_other ho (a := ⟨B, 1, none⟩) (own_ne ho hb (by decide)) (.bool true)
      have hne := own_ne ho hb (by decide)
      have hBw : B < w1.heap.size := (Array.getElem?_eq_some_iff.1 hb).1
      have hq : B ≤ (w1.setCell ⟨B, 1, none⟩ (.bool true)).heap.size := by rw [World.size_setCell]; omega
      have HH := Lib.hid (And.intro hb ho); clear hb ho
      have HB0 := Lib.hid hb0; clear hb0
      have HO0 := Lib.hid ho0; clear ho0
      go_wp2_with (at_builtin; refine Lib.wpList_append_own_string _ rfl _ _ 126 9 rfl B 5 i0 Tryz.underlying126 Tryz.underlying9 hi0 hz0 hz1 hz2 ov l.length (bc l) rfl HO0.out s rfl q1 q2 hq ?_)
      intro v' w2 hown hgrow _
      obtain ⟨A, c, rfl⟩ := own_slice hown
      have hcz := (hgrow.cell_far ⟨B, 0, none⟩ (by rw [World.size_setCell]; exact hBw) (Ne.symm hne)).trans (cell_of2 HB0.out).1
      have hfz := (hgrow.frozen_far ⟨B, 0, none⟩ (by rw [World.size_setCell]; exact hBw) (Ne.symm hne)).trans (cell_of2 HB0.out).2
      have hm : (l ++ s.data.toList).length = l.length + s.size := by rw [List.length_append, data_length]
      have hown2 : w2.ownsRow B 5 1 (.slice A (l.length + s.size) c) (l ++ s.data.toList).length (bc (l ++ s.data.toList)) := by rw [bc_append, hm]; exact hown
      have R := sink_put2 (w := w) HB0.out HO0.out ((hbw).setCell _ _ _) hown2 hgrow
      have HR := Lib.hid R; clear R hm hown hown2 hgrow
      go_wp2
      go_end0
      rw [Bool.false_or, hr2]; exact ⟨rfl, HR.out⟩
    · have hr2 : (!rightB s) = false := by rw [hr]; rfl
      have hc0 : w1.cell? ⟨B, 0, none⟩ = some ov := by simp [World.cell?, hb]
      have hc1 : w1.cell? ⟨B, 1, none⟩ = some (.bool false) := by simp [World.cell?, hb]
      have hf1 : w1.frozen? ⟨B, 1, none⟩ = false := by simp [World.frozen?, hb]
      have hb0 := (cells2_set w1 B _ _ (.bool false) _ hb).2
      have ho0 := ownsRow_setCell_other ho (a := ⟨B, 1, none⟩) (own_ne ho hb (by decide)) (.bool false)
      have hne := own_ne ho hb (by decide)
      have hBw : B < w1.heap.size := (Array.getElem?_eq_some_iff.1 hb).1
      have hq : B ≤ (w1.setCell ⟨B, 1, none⟩ (.bool false)).heap.size := by rw [World.size_setCell]; omega
      have HH := Lib.hid (And.intro hb ho); clear hb ho
      have HB0 := Lib.hid hb0; clear hb0
      have HO0 := Lib.hid ho0; clear ho0
      go_wp2_with (at_builtin; refine Lib.wpList_append_own_string _ rfl _ _ 126 9 rfl B 5 i0 Tryz.underlying126 Tryz.underlying9 hi0 hz0 hz1 hz2 ov l.length (bc l) rfl HO0.out s rfl q1 q2 hq ?_)
      intro v' w2 hown hgrow _
      obtain ⟨A, c, rfl⟩ := own_slice hown
      have hcz := (hgrow.cell_far ⟨B, 0, none⟩ (by rw [World.size_setCell]; exact hBw) (Ne.symm hne)).trans (cell_of2 HB0.out).1
      have hfz := (hgrow.frozen_far ⟨B, 0, none⟩ (by rw [World.size_setCell]; exact hBw) (Ne.symm hne)).trans (cell_of2 HB0.out).2
      have hm : (l ++ s.data.toList).length = l.length + s.size := by rw [List.length_append, data_length]
      have hown2 : w2.ownsRow B 5 1 (.slice A (l.length + s.size) c) (l ++ s.data.toList).length (bc (l ++ s.data.toList)) := by rw [bc_append, hm]; exact hown
      have R := sink_put2 (w := w) HB0.out HO0.out ((hbw).setCell _ _ _) hown2 hgrow
      have HR := Lib.hid R; clear R hm hown hown2 hgrow
      go_wp2
      go_end0
      rw [Bool.false_or, hr2]; exact ⟨rfl, HR.out⟩

set_option maxRecDepth 100000 in
theorem sink_short (B : Nat) (s : ByteArray) (least : Int) (l : List UInt8) (bad : Bool) (w : World) (hS : Sink B w l bad) (hl : l.length + s.size ≤ 1099511627000) :
    Calls Tryz.prog 89 #[.pointer (some ⟨B, 0, none⟩), .string s, .int .i64 least] w fun e w' => e = .returned (.tuple #[]) ∧ Sink B w' ((l ++ be (s.size : Int) 1) ++ s.data.toList) ((bad || badNum (s.size : Int) 1) || decide ((s.size : Int) < least)) ∧ Fr B w w' := by
  go_enter Tryz.func89, Tryz.ntmps89
  go_wp2_with fail
  refine (sink_number B (s.size : Int) 1 l bad w hS (by omega) (by omega) (by omega) (by omega) (by omega)).mono ?_
  rintro e w1 ⟨rfl, hS1, hB1⟩
  go_wp2_with fail
  refine (sink_bytes B s least _ _ w1 hS1 (by rw [List.length_append, be_length]; omega)).mono ?_
  rintro e w2 ⟨rfl, hS2, hB2⟩
  go_wp2_with fail
  go_end0
  exact ⟨rfl, hS2, hB1.trans hB2⟩

theorem strOfNums_bytes (l : List UInt8) : strOfNums (l.map fun b => (b.toNat : Int)) = ⟨l.toArray⟩ := by
  unfold strOfNums
  congr 1
  apply Array.ext'
  simp only [List.map_map]
  conv => rhs; rw [← List.map_id l]
  apply List.map_congr_left
  intro b _
  simp
/-- string(v), v a row of the call's own. -/
theorem own_str {w : World} {base : Nat} {e' : TypeId} {v : Value} {l : List UInt8} {n : Nat} (h : w.ownsRow base e' 1 v n (bc l)) : (convert 126 9 v).run Tryz.prog w = .ok (.string ⟨l.toArray⟩) w := by
  have hl : l.length = n := by have := h.1; simp [bc] at this; exact this
  rcases h.2 with ⟨rfl, rfl⟩ | ⟨g, cap, cur, rfl, _⟩
  · obtain rfl : l = [] := List.eq_nil_of_length_eq_zero hl
    exact run_convert_bytes_nil w 126 5 Tryz.underlying126 Tryz.underlying5 0 0 9 Tryz.underlying9
  · rw [← strOfNums_bytes]
    refine run_convert_bytes_arg w 126 5 Tryz.underlying126 Tryz.underlying5 g 0 n cap _ (by simpa using hl) (fun i hi => ?_) 9 Tryz.underlying9
    have hc := h.cells (g := g) rfl i (.int .u8 ((l.map fun b => (b.toNat : Int)).getD i 0)) (by simp [bc, List.getElem?_eq_getElem (show i < l.length by omega), List.getD_eq_getElem?_getD])
    have ha : (⟨g, 0, none⟩ : Addr).add i = ⟨g, 0 + i, none⟩ := by unfold Addr.add; split <;> simp_all
    rwa [ha] at hc
/-- What is put together, if it may be. -/
def doneR (l : List UInt8) (bad : Bool) : Option (List UInt8) := if bad = true ∨ 2000 < l.length then none else some l
theorem sink_done_bad (B : Nat) (l : List UInt8) (bad : Bool) (w : World) (hS : Sink B w l bad) (h : bad = true ∨ 2000 < l.length) (hl : l.length ≤ 1099511628000) :
    Calls Tryz.prog 81 #[.pointer (some ⟨B, 0, none⟩)] w fun e w' => e = .returned (.tuple #[.string ⟨#[]⟩, .int .i64 6]) ∧ w' = w := by
  obtain ⟨ov, hb, ho⟩ := hS
  have hc0 : w.cell? ⟨B, 0, none⟩ = some ov := by simp [World.cell?, hb]
  have hc1 : w.cell? ⟨B, 1, none⟩ = some (.bool bad) := by simp [World.cell?, hb]
  obtain ⟨A, c, rfl⟩ := own_slice ho
  clear hb ho
  cases bad with
  | true =>
    clear h
    go_enter Tryz.func81, Tryz.ntmps81
    go_wp2
    go_ret2
    exact ⟨rfl, rfl⟩
  | false =>
    have b1 : decide ((2000 : Int) < (l.length : Int)) = true := by simp at h ⊢; omega
    clear h
    go_enter Tryz.func81, Tryz.ntmps81
    go_wp2
    go_ret2
    exact ⟨rfl, rfl⟩
theorem sink_done_ok (B : Nat) (l : List UInt8) (w : World) (hS : Sink B w l false) (h : l.length ≤ 2000) :
    Calls Tryz.prog 81 #[.pointer (some ⟨B, 0, none⟩)] w fun e w' => e = .returned (.tuple #[.string ⟨l.toArray⟩, .int .i64 0]) ∧ w' = w := by
  obtain ⟨ov, hb, ho⟩ := hS
  have hc0 : w.cell? ⟨B, 0, none⟩ = some ov := by simp [World.cell?, hb]
  have hc1 : w.cell? ⟨B, 1, none⟩ = some (.bool false) := by simp [World.cell?, hb]
  obtain ⟨A, c, rfl⟩ := own_slice ho
  have b1 : decide ((2000 : Int) < (l.length : Int)) = false := by simp; omega
  have hcv : (convert 126 9 (.slice A l.length c)).run Tryz.prog w = .ok (.string ⟨l.toArray⟩) w := own_str ho
  clear hb ho
  go_enter Tryz.func81, Tryz.ntmps81
  go_wp2
  go_ret2
  exact ⟨rfl, rfl⟩
end Go.Proofs.YtnllofjjffflkaaGreatDoor
