/- Walk of the examples that each law asks first; they are true. -/
import Derived.Test.YtnllofjjffflkaaGreatDoorF9
set_option linter.unusedSimpArgs false
set_option linter.unusedVariables false
namespace Go.Proofs.YtnllofjjffflkaaGreatDoor
open Go.RowKit Gp
theorem c_read1A (w : World) (hE : Env w) : Calls Tryz.prog 13 #[.int .i64 1, .string ⟨#[49, 57, 50, 46, 48, 46, 50, 46, 49]⟩] w fun e w' => e = .returned (.tuple #[.string ⟨#[192, 0, 2, 1]⟩, .int .i64 0]) ∧ Below w.heap.size w w' := by
  have h := read_1 exA w hE (by decide)
  rw [ex1] at h; exact h
theorem c_read1B (w : World) (hE : Env w) : Calls Tryz.prog 13 #[.int .i64 1, .string ⟨#[49, 57, 50, 46, 48, 46, 50, 46, 48, 49]⟩] w fun e w' => e = .returned (.tuple #[.string ⟨#[]⟩, .int .i64 7]) ∧ Below w.heap.size w w' := by
  have h := read_1 exB w hE (by decide)
  rw [ex2] at h; exact h
theorem c_text70 (w : World) (hE : Env w) : Calls Tryz.prog 40 #[.int .i64 70, .string ⟨#[1]⟩] w fun e w' => e = .returned (.tuple #[.string ⟨#[92, 35, 32, 49, 32, 48, 49]⟩, .int .i64 0]) ∧ Below w.heap.size w w' := by
  have h : Calls Tryz.prog 40 #[.int .i64 70, .string ⟨#[1]⟩] w fun e w' => e = .returned (.tuple #[.string (textPV ⟨#[1]⟩).1, .int .i64 (textPV ⟨#[1]⟩).2]) ∧ Below w.heap.size w w' :=
    text_plain 70 ⟨#[1]⟩ w hE rfl (by decide) (by decide) (by decide) (by decide) (by decide) (by decide) (by decide) (by decide) (by decide) (by decide) (by decide) (by decide) (by decide)
  rw [ex3] at h; exact h
theorem c_read16 (w : World) (hE : Env w) : Calls Tryz.prog 13 #[.int .i64 16, .string ⟨#[34, 97, 92, 34, 98, 34, 32, 34, 34]⟩] w fun e w' => e = .returned (.tuple #[.string ⟨#[3, 97, 34, 98, 0]⟩, .int .i64 0]) ∧ Below w.heap.size w w' := by
  have h := read_16 exC w hE (by decide)
  rw [ex4] at h; exact h
theorem c_type70 (w : World) (hE : Env w) : Calls Tryz.prog 50 #[.string ⟨#[84, 89, 80, 69, 55, 48]⟩] w fun e w' => e = .returned (.tuple #[.int .i64 70, .int .i64 0]) ∧ Below w.heap.size w w' := by
  have h := typeOf_any exD w hE
  rw [ex5] at h; exact h
theorem c_type1 (w : World) (hE : Env w) : Calls Tryz.prog 50 #[.string ⟨#[84, 89, 80, 69, 49]⟩] w fun e w' => e = .returned (.tuple #[.int .i64 0, .int .i64 7]) ∧ Below w.heap.size w w' := by
  have h := typeOf_any exE w hE
  rw [ex6] at h; exact h
theorem c_right1 (w : World) : Calls Tryz.prog 41 #[.int .i64 1, .string ⟨#[97, 98, 99]⟩] w fun e w' => e = .returned (.bool false) ∧ Below w.heap.size w w' := right_1 ⟨#[97, 98, 99]⟩ w
set_option maxRecDepth 100000 in
set_option maxHeartbeats 2000000 in
theorem examples_any (w : World) (hE : Env w) : Calls Tryz.prog 12 #[] w fun e w' => e = .returned (.bool true) ∧ Below w.heap.size w w' := by
  go_enter Tryz.func12, Tryz.ntmps12
  go_wp2_with fail
  refine (c_read1A w hE).mono ?_
  rintro e w1 ⟨rfl, hB⟩
  have hE1 := hE.next hB
  have HB := Lib.hid hB; clear hB
  go_wp2_with fail
  refine (c_read1B w1 hE1).mono ?_
  rintro e w2 ⟨rfl, hB2⟩
  have hE2 := hE1.next hB2
  have HB2 := Lib.hid (HB.out.trans (hB2.mono HB.out.size)); clear hB2 HB hE1
  go_wp2_with fail
  refine (c_text70 w2 hE2).mono ?_
  rintro e w3 ⟨rfl, hB3⟩
  have hE3 := hE2.next hB3
  have HB3 := Lib.hid (HB2.out.trans (hB3.mono HB2.out.size)); clear hB3 HB2 hE2
  go_wp2_with fail
  refine (c_read16 w3 hE3).mono ?_
  rintro e w4 ⟨rfl, hB4⟩
  have hE4 := hE3.next hB4
  have HB4 := Lib.hid (HB3.out.trans (hB4.mono HB3.out.size)); clear hB4 HB3 hE3
  go_wp2_with fail
  refine (c_type70 w4 hE4).mono ?_
  rintro e w5 ⟨rfl, hB5⟩
  have hE5 := hE4.next hB5
  have HB5 := Lib.hid (HB4.out.trans (hB5.mono HB4.out.size)); clear hB5 HB4 hE4
  go_wp2_with fail
  refine (c_type1 w5 hE5).mono ?_
  rintro e w6 ⟨rfl, hB6⟩
  have HB6 := Lib.hid (HB5.out.trans (hB6.mono HB5.out.size)); clear hB6 HB5 hE5
  go_wp2_with fail
  refine (c_right1 w6).mono ?_
  rintro e w7 ⟨rfl, hB7⟩
  have HB7 := Lib.hid (HB6.out.trans (hB7.mono HB6.out.size)); clear hB7 HB6
  go_wp2_with fail
  refine (right_no 70000 _ w7 rfl).mono ?_
  rintro e w8 ⟨rfl, hB8⟩
  have HB8 := Lib.hid (HB7.out.trans (hB8.mono HB7.out.size)); clear hB8 HB7
  go_wp2_with fail
  go_ret
  exact ⟨rfl, HB8.out⟩
end Go.Proofs.YtnllofjjffflkaaGreatDoor
