/- Walks of the tests that formOf hands out, and of Right at type 1; for every text. -/
import Derived.Test.YtnllofjjffflkaaGreatDoorF5
set_option linter.unusedSimpArgs false
set_option linter.unusedVariables false
namespace Go.Proofs.YtnllofjjffflkaaGreatDoor
open Go.RowKit Gp
abbrev fV (x : Fn) (y z : Array Value) : Value := .func x y z
theorem fld0 (x : Fn) (y z : Array Value) (b c d : Value) (w : World) : (Instr.field 98 (.agg #[.func x y z, b, c, d]) 0).run Tryz.prog w = .ok (.func x y z) w := by
  kernel_rfl
theorem fld1 (x : Fn) (y z : Array Value) (a c d : Value) (w : World) : (Instr.field 98 (.agg #[a, .func x y z, c, d]) 1).run Tryz.prog w = .ok (.func x y z) w := by
  kernel_rfl
theorem fld2 (x : Fn) (y z : Array Value) (a b d : Value) (w : World) : (Instr.field 98 (.agg #[a, b, .func x y z, d]) 2).run Tryz.prog w = .ok (.func x y z) w := by
  kernel_rfl
theorem len4_any (d : ByteArray) (w : World) : Calls Tryz.prog 110 #[.string d] w fun e w' => e = .returned (.bool (decide (d.size = 4))) ∧ w' = w := by
  by_cases h : d.size = 4
  · have b : ((d.size : Int) == 4) = true := beq_iff_eq.2 (by omega)
    go_enter Tryz.func110, Tryz.ntmps110
    go_wp2
    go_ret
    exact ⟨ret_bool (by simp [h]), rfl⟩
  · have b : ((d.size : Int) == 4) = false := beq_eq_false_iff_ne.2 (by omega)
    go_enter Tryz.func110, Tryz.ntmps110
    go_wp2
    go_ret
    exact ⟨ret_bool (by simp [h]), rfl⟩
theorem all_any (d : ByteArray) (w : World) : Calls Tryz.prog 147 #[.string d] w fun e w' => e = .returned (.bool true) ∧ w' = w := by
  go_enter Tryz.func147, Tryz.ntmps147
  go_wp2
  go_ret
  exact ⟨rfl, rfl⟩
theorem is199_any (N : Nat) (d : ByteArray) (w : World) (hN : w.heap[N]? = some (.cells #[fnV 127] 167 (0, 0))) : Calls Tryz.prog 199 #[.string d, .pointer (some ⟨N, 0, none⟩)] w fun e w' => e = .returned (.bool (takeL d).isSome) ∧ Below w.heap.size w w' := by
  have hc := cell_of_one hN
  go_enter Tryz.func199, Tryz.ntmps199
  go_wp2_with fail
  refine (texts_any d w).mono ?_
  intro e w1 hp
  cases hT : takeL d with
  | none =>
    rw [hT] at hp
    obtain ⟨rfl, hB⟩ := hp
    have HB := Lib.hid hB; clear hB
    have HT := Lib.hid hT; clear hT
    go_wp2
    go_ret
    exact ⟨ret_bool (by rw [HT.out]; rfl), HB.out⟩
  | some l =>
    rw [hT] at hp
    obtain ⟨⟨v, rfl, ho⟩, hB⟩ := hp
    have HB := Lib.hid hB; clear hB ho
    have HT := Lib.hid hT; clear hT
    go_wp2
    go_ret
    exact ⟨ret_bool (by rw [HT.out]; rfl), HB.out⟩
set_option maxRecDepth 100000 in
set_option maxHeartbeats 2000000 in
theorem right_1 (d : ByteArray) (w : World) : Calls Tryz.prog 41 #[.int .i64 1, .string d] w fun e w' => e = .returned (.bool (decide (d.size = 4))) ∧ Below w.heap.size w w' := by
  by_cases h : d.size ≤ 2000
  · have b : decide ((d.size : Int) ≤ 2000) = true := decide_eq_true (by omega)
    go_enter Tryz.func41, Tryz.ntmps41
    go_wp2_with fail
    refine (isType_any 1 w).mono ?_
    rintro e w1 ⟨rfl, rfl⟩
    rw [show isTypeB 1 = true from rfl]
    go_wp2_with fail
    refine (formOf_1 w1).mono ?_
    rintro e w2 ⟨rfl, hB⟩
    have HB := Lib.hid hB; clear hB
    have kf := fld0 (.func 110) #[] #[] (fnV 111) (fnV 112) .nilFunc w2
    go_wp2_with fail
    refine (len4_any d w2).mono ?_
    rintro e w3 ⟨rfl, rfl⟩
    go_wp2_with fail
    go_ret
    exact ⟨rfl, HB.out⟩
  · have b : decide ((d.size : Int) ≤ 2000) = false := decide_eq_false (by omega)
    go_enter Tryz.func41, Tryz.ntmps41
    go_wp2_with fail
    refine (isType_any 1 w).mono ?_
    rintro e w1 ⟨rfl, rfl⟩
    rw [show isTypeB 1 = true from rfl]
    go_wp2_with fail
    go_ret
    exact ⟨ret_bool (by simp; omega), Below.refl _ _⟩
end Go.Proofs.YtnllofjjffflkaaGreatDoor
