/- Walks of hex, isType, plainParts and typeNames; for texts of at most 2^30 bytes. -/
import Derived.Test.YtnllofjjffflkaaGreatDoorE4
set_option linter.unusedSimpArgs false
set_option linter.unusedVariables false
namespace Go.Proofs.YtnllofjjffflkaaGreatDoor
open Go.RowKit Gp
def hexS (s : ByteArray) : ByteArray := ofL (groupedL 4 s)
theorem hex_any (s : ByteArray) (w : World) (hs : s.size ≤ 1073741824) : Calls Tryz.prog 131 #[.string s] w fun e w' => e = .returned (.string (hexS s)) ∧ Below w.heap.size w w' := by
  go_enter Tryz.func131, Tryz.ntmps131
  go_wp2_with fail
  refine (grouped4_any s w hs).mono ?_
  rintro e w1 ⟨rfl, hB⟩
  have HB := Lib.hid hB; clear hB
  go_wp2
  go_ret
  exact ⟨rfl, HB.out⟩
def isTypeB (t : Int) : Bool := decide (0 ≤ t) && decide (t < 65536)
theorem isType_any (t : Int) (w : World) : Calls Tryz.prog 51 #[.int .i64 t] w fun e w' => e = .returned (.bool (isTypeB t)) ∧ w' = w := by
  by_cases h : 0 ≤ t
  · go_enter Tryz.func51, Tryz.ntmps51
    go_wp2
    go_ret
    exact ⟨ret_bool (by simp [isTypeB, h]), rfl⟩
  · go_enter Tryz.func51, Tryz.ntmps51
    go_wp2
    go_ret
    exact ⟨ret_bool (by simp [isTypeB, h]; omega), rfl⟩
/-- The parts of unknown data. -/
def plainS (d : ByteArray) : List ByteArray := if d.size = 0 then [⟨#[92, 35]⟩, itoaS 0] else [⟨#[92, 35]⟩, itoaS (d.size : Int), hexS d]
set_option maxRecDepth 100000 in
set_option maxHeartbeats 2000000 in
theorem plain_any (d : ByteArray) (w : World) (hE : Env w) (hs : d.size ≤ 1073741824) : Calls Tryz.prog 148 #[.string d] w (StrPost (plainS d) w) := by
  obtain ⟨i0, hi0, hz0, hz1, hz2⟩ := info_parts info9
  by_cases hd : d.size = 0
  · have he := empty_of d hd
    go_enter Tryz.func148, Tryz.ntmps148
    go_wp2_with fail
    refine (num_any _ w hE (by omega) (by omega)).mono ?_
    rintro e w1 ⟨rfl, hB⟩
    have HB := Lib.hid hB; clear hB
    go_wp2
    go_ret
    rw [plainS, if_pos hd]
    exact ⟨⟨_, rfl, own_lit w1 w.heap.size [⟨#[92, 35]⟩, itoaS 0] HB.out.size (by simp)⟩, HB.out.alloc HB.out.size _⟩
  · have he := empty_not d hd
    go_enter Tryz.func148, Tryz.ntmps148
    go_wp2_with fail
    refine (num_any _ w hE (by omega) (by omega)).mono ?_
    rintro e w1 ⟨rfl, hB⟩
    have HB := Lib.hid hB; clear hB
    go_wp2_with fail
    refine (hex_any d _ hs).mono ?_
    rintro e w2 ⟨rfl, hB2⟩
    have hown := pw_own_below (own_lit w1 w.heap.size [⟨#[92, 35]⟩, itoaS (d.size : Int)] HB.out.size (by simp)) hB2
    have HB2 := Lib.hid ((HB.out.alloc HB.out.size _).trans (hB2.mono (by have := HB.out.size; simp; omega))); clear hB2
    have hsz := HB2.out.size
    have q1 : [(⟨#[92, 35]⟩ : ByteArray), itoaS (d.size : Int)].length + 1 ≤ maxLen := by unfold maxLen; simp
    have q2 : ([(⟨#[92, 35]⟩ : ByteArray), itoaS (d.size : Int)].length + 1) * 16 ≤ 140737488355328 := by simp
    have q3 : w.heap.size ≤ (w2.alloc (.cells #[.string (hexS d)] 9)).heap.size := by simp; omega
    go_wp2_with (at_builtin; refine wpList_append_own _ rfl _ _ 89 rfl (w.heap.size) 9 i0 (.string ⟨#[]⟩) 1 16 Tryz.underlying89 hi0 hz0 hz1 hz2 rfl (by decide) _ _ _ rfl (hown.alloc _) ⟨w2.heap.size, 0, none⟩ 1 1 [.string (hexS d)] rfl rfl (cell_one_new _ _ _) (by simp [Value.oneCell']) q1 q2 q3 ?_)
    intro v' w3 hown' hgrow _
    obtain ⟨g', cap', rfl⟩ := ownsRow_succ hown'
    have HB3 := Lib.hid ((HB2.out.alloc hsz _).grown hgrow q3 (own_from hown))
    have HO3 := Lib.hid hown'; clear hown' hgrow hown
    go_wp2
    go_ret
    rw [plainS, if_neg hd]
    exact ⟨⟨_, rfl, HO3.out⟩, HB3.out⟩
/-- The types that have names. -/
def typeTab : List (Int × ByteArray) := [(1, ⟨#[65]⟩), (2, ⟨#[78, 83]⟩), (5, ⟨#[67, 78, 65, 77, 69]⟩), (6, ⟨#[83, 79, 65]⟩), (15, ⟨#[77, 88]⟩), (16, ⟨#[84, 88, 84]⟩), (28, ⟨#[65, 65, 65, 65]⟩), (39, ⟨#[68, 78, 65, 77, 69]⟩), (41, ⟨#[79, 80, 84]⟩), (43, ⟨#[68, 83]⟩), (46, ⟨#[82, 82, 83, 73, 71]⟩), (47, ⟨#[78, 83, 69, 67]⟩), (48, ⟨#[68, 78, 83, 75, 69, 89]⟩), (50, ⟨#[78, 83, 69, 67, 51]⟩), (255, ⟨#[65, 78, 89]⟩)]
def tabCells : List Value := typeTab.flatMap fun p => [.int .i64 p.1, .string p.2]
set_option maxRecDepth 100000 in
set_option maxHeartbeats 2000000 in
theorem typeNames_any (w : World) : Calls Tryz.prog 99 #[] w fun e w' => e = .returned (.slice (some ⟨w.heap.size, 0, none⟩) 15 15) ∧ w' = w.alloc (.cells tabCells.toArray 149) := by
  go_enter Tryz.func99, Tryz.ntmps99
  go_wp2
  go_ret
  exact ⟨rfl, rfl⟩
end Go.Proofs.YtnllofjjffflkaaGreatDoor
