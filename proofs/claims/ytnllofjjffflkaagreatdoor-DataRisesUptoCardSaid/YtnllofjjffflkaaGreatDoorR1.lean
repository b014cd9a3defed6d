/- Walks of the tests of the document's own answer; for texts of at most 2^30 bytes. -/
import Derived.Test.YtnllofjjffflkaaGreatDoorW9
import Derived.Test.YtnllofjjffflkaaGreatDoorP1
set_option linter.unusedSimpArgs false
set_option linter.unusedVariables false
namespace Go.Proofs.YtnllofjjffflkaaGreatDoor
open Go.RowKit Gp
theorem info9 : (Tryz.prog.info? 9).map (fun i => (i.zero, i.size, i.bytes)) = some (some (.string ⟨#[]⟩), 1, 16) := by kernel_rfl
def strs (l : List ByteArray) : List Value := l.map Value.string
theorem strs_append (a b : List ByteArray) : strs (a ++ b) = strs a ++ strs b := by simp [strs]
/-- What Labels hands back. -/
def LabsPost (s : ByteArray) (w : World) (e : Ending) (w' : World) : Prop :=
  (∃ v, e = .returned (.tuple #[v, .bool (rightB s)]) ∧ ((rightB s = true ∧ w'.ownsRow w.heap.size 9 1 v (labs s).length (strs ((labs s).map (lab s)))) ∨ (rightB s = false ∧ v = .slice none 0 0))) ∧ Below w.heap.size w w'
set_option maxRecDepth 100000 in
set_option maxHeartbeats 1000000 in
theorem refLabels_any (s : ByteArray) (w : World) : Calls Tryz.prog 167 #[.string s] w (LabsPost s w) := by
  by_cases h255 : 255 < s.size
  · have b1 : decide ((255 : Int) < (s.size : Int)) = true := by simp; omega
    have hr := right_255 h255
    have HR := Lib.hid hr; clear hr
    go_enter Tryz.func167, Tryz.ntmps167
    go_wp2
    go_ret2
    exact ⟨⟨_, by rw [HR.out]; rfl, .inr ⟨HR.out, rfl⟩⟩, Below.refl _ _⟩
  have b1 : (s.size : Int) ≤ 255 := by omega
  obtain ⟨i0, hi0, hz0, hz1, hz2⟩ := info_parts info9
  go_enter Tryz.func167, Tryz.ntmps167
  go_wp2
  go_loopw [4, 5] (fun v iv wr => ∃ (pre : List Nat) (i : Nat), iv = .int .i64 (i : Int) ∧ i ≤ s.size ∧ pre.length ≤ i ∧ labs s = pre ++ starts s (s.size - i) i ∧ endOf s s.size 0 = endOf s (s.size - i) i ∧
      wr.ownsRow w.heap.size 9 1 v pre.length (strs (pre.map (lab s))) ∧ Below w.heap.size w wr) (fun _ iv _ => s.size - (intOf iv).toNat)
  case atStart => exact ⟨[], 0, rfl, Nat.zero_le _, Nat.zero_le _, by simp [labs], rfl, World.ownsRow_nil _ _ _ _, Below.refl _ _⟩
  case round =>
    obtain ⟨pre, i, rfl, hi, hpl, hl, he, hown, hB⟩ := hrel
    have HL := Lib.hid hl; clear hl
    have HE := Lib.hid he; clear he
    have HB := Lib.hid hB; clear hB
    by_cases hlt : i < s.size
    · have hx := run_idx s i hlt
      have h256 := bN_lt s i
      by_cases ho : okAt s i
      · have h1 : 1 ≤ (bN s i : Int) := by have := ho.2.1; omega
        have h2 : (bN s i : Int) ≤ 63 := by have := ho.2.2.1; omega
        have h3 : (i : Int) + 1 + (bN s i : Int) ≤ (s.size : Int) := by have := ho.2.2.2; omega
        have b2 : ((bN s i : Int) == 0) = false := beq_eq_false_iff_ne.2 (by omega)
        have hsl := run_slc s ((i : Int) + 1) ((i : Int) + 1 + (bN s i : Int)) (by omega) (by omega) h3
        have e1 : ((i : Int) + 1).toNat = i + 1 := by omega
        have e2 : ((i : Int) + 1 + (bN s i : Int)).toNat = i + 1 + bN s i := by omega
        rw [e1, e2] at hsl; clear e1 e2
        have hsl2 : ∀ w, (Instr.slice 9 (.string s) (some (.int .i64 ((i : Int) + 1))) (some (.int .i64 ((i : Int) + 1 + (bN s i : Int)))) none).run Tryz.prog w = .ok (.string (lab s i)) w := hsl
        clear hsl
        have q1 : pre.length + 1 ≤ maxLen := by unfold maxLen; omega
        have q2 : (pre.length + 1) * 16 ≤ 140737488355328 := by omega
        have q3 : w.heap.size ≤ (wr.alloc (.cells #[.string (lab s i)] 9)).heap.size := by have := HB.out.size; simp; omega
        go_wp2_with (at_builtin; refine wpList_append_own _ rfl _ _ 89 rfl w.heap.size 9 i0 (.string ⟨#[]⟩) 1 16 Tryz.underlying89 hi0 hz0 hz1 hz2 rfl (by decide) _ _ _ rfl (hown.alloc _) ⟨wr.heap.size, 0, none⟩ 1 1 [.string (lab s i)] rfl rfl (cell_one_new _ _ _) (by simp [Value.oneCell']) q1 q2 q3 ?_)
        intro v' w1 hown' hgrow _
        obtain ⟨g', cap', rfl⟩ := ownsRow_succ hown'
        have HB1 := Lib.hid ((HB.out.alloc HB.out.size _).grown hgrow q3 (own_from hown))
        have HO1 := Lib.hid hown'; clear hown' hown hgrow
        go_wp2
        go_roundw
        case rel =>
          refine ⟨pre ++ [i], i + 1 + bN s i, by go_num, by omega, by simp; omega, ?_, ?_, ?_, HB1.out⟩
          · rw [HL.out, show s.size - i = (s.size - i - 1) + 1 from by omega, starts_ok ho, starts_size (by omega) (by omega)]; simp
          · rw [HE.out, show s.size - i = (s.size - i - 1) + 1 from by omega, endOf_ok ho, endOf_size (by omega)]
          · have := HO1.out
            simpa [strs] using this
        case measure => simp [intOf]; omega
      · by_cases c1 : bN s i = 0
        · have b2 : ((bN s i : Int) == 0) = true := beq_iff_eq.2 (by omega)
          by_cases c2 : i + 1 = s.size
          · have hr := right_yes (by omega) HE.out c2 c1
            have hl2 : labs s = pre := by rw [HL.out, starts_no ho]; simp
            have b3 : ((i : Int) == (s.size : Int) - 1) = true := beq_iff_eq.2 (by omega)
            have HR := Lib.hid hr; clear hr
            have HL2 := Lib.hid hl2; clear hl2
            have HO := Lib.hid hown; clear hown
            clear c1 c2
            go_wp2
            go_ret2
            refine ⟨⟨_, by rw [HR.out]; rfl, .inl ⟨HR.out, ?_⟩⟩, HB.out⟩
            rw [HL2.out]; exact HO.out
          · have hr := right_not HE.out ho (fun h => c2 h.1)
            have b3 : ((i : Int) == (s.size : Int) - 1) = false := beq_eq_false_iff_ne.2 (by omega)
            have HR := Lib.hid hr; clear hr
            clear c1 c2
            go_wp2
            go_ret2
            exact ⟨⟨_, by rw [HR.out]; rfl, .inr ⟨HR.out, rfl⟩⟩, HB.out⟩
        · have b2 : ((bN s i : Int) == 0) = false := beq_eq_false_iff_ne.2 (by omega)
          have hr := right_not HE.out ho (fun h => c1 h.2)
          have HR := Lib.hid hr; clear hr
          by_cases c2 : bN s i ≤ 63
          · have h2 : (bN s i : Int) ≤ 63 := by omega
            have h3 : (s.size : Int) < (i : Int) + 1 + (bN s i : Int) := by unfold okAt at ho; omega
            clear c1 c2
            go_wp2
            go_ret2
            exact ⟨⟨_, by rw [HR.out]; rfl, .inr ⟨HR.out, rfl⟩⟩, HB.out⟩
          · have h2 : (63 : Int) < (bN s i : Int) := by omega
            clear c1 c2
            go_wp2
            go_ret2
            exact ⟨⟨_, by rw [HR.out]; rfl, .inr ⟨HR.out, rfl⟩⟩, HB.out⟩
    · have hr := right_not HE.out (fun h => hlt h.1) (fun h => by omega)
      have HR := Lib.hid hr; clear hr
      have hge : s.size ≤ i := by omega
      go_wp2
      go_ret2
      exact ⟨⟨_, by rw [HR.out]; rfl, .inr ⟨HR.out, rfl⟩⟩, HB.out⟩
theorem refRight_any (s : ByteArray) (w : World) : Calls Tryz.prog 82 #[.string s] w fun e w' => e = .returned (.bool (rightB s)) ∧ Below w.heap.size w w' := by
  go_enter Tryz.func82, Tryz.ntmps82
  go_wp2_with fail
  refine (refLabels_any s w).mono ?_
  rintro e w1 ⟨⟨v, rfl, _⟩, hB⟩
  go_wp2
  go_ret
  exact ⟨rfl, hB⟩
/-- What 'fits' answers. -/
theorem refFits_any (v : Int) (n : Nat) (w : World) (hn : n ≤ 4) : Calls Tryz.prog 83 #[.int .i64 v, .int .i64 (n : Int)] w fun e w' => e = .returned (.bool (!badNum v n)) ∧ w = w' := by
  by_cases h : v < 0
  · have b1 : decide ((0 : Int) ≤ v) = false := by simp; omega
    have b2 : decide (v < 0) = true := by simpa using h
    go_enter Tryz.func83, Tryz.ntmps83
    go_wp2
    go_ret
    exact ⟨ret_bool (by simp [badNum, b2]), rfl⟩
  · have b1 : decide ((0 : Int) ≤ v) = true := by simp; omega
    have b2 : decide (v < 0) = false := by simpa using h
    have HB2 := Lib.hid b2; clear b2
    go_enter Tryz.func83, Tryz.ntmps83
    go_wp2
    go_ret
    refine ⟨ret_bool ?_, rfl⟩
    rw [badNum, HB2.out, Bool.false_or, bne, Bool.not_not]
def shortS (s : ByteArray) (ok : Bool) : ByteArray := if ok = true ∧ s.size ≤ 2000 then s else ⟨#[]⟩
def shortB (s : ByteArray) (ok : Bool) : Bool := ok && decide (s.size ≤ 2000)
theorem refShort_any (s : ByteArray) (ok : Bool) (w : World) : Calls Tryz.prog 86 #[.string s, .bool ok] w fun e w' => e = .returned (.tuple #[.string (shortS s ok), .bool (shortB s ok)]) ∧ w = w' := by
  cases ok with
  | false =>
    go_enter Tryz.func86, Tryz.ntmps86
    go_wp2
    go_ret2
    exact ⟨by simp [shortS, shortB], rfl⟩
  | true =>
    by_cases h : s.size ≤ 2000
    · have b1 : decide ((2000 : Int) < (s.size : Int)) = false := by simp; omega
      go_enter Tryz.func86, Tryz.ntmps86
      go_wp2
      go_ret2
      exact ⟨by simp [shortS, shortB, h], rfl⟩
    · have b1 : decide ((2000 : Int) < (s.size : Int)) = true := by simp; omega
      go_enter Tryz.func86, Tryz.ntmps86
      go_wp2
      go_ret2
      exact ⟨by simp [shortS, shortB, h], rfl⟩
end Go.Proofs.YtnllofjjffflkaaGreatDoor
